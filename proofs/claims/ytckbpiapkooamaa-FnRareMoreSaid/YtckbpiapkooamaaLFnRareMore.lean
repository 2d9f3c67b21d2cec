/- laws.FnRareMore: the walk. -/
import Derived.Test.YtckbpiapkooamaaR7
import Derived.Test.YtckbpiapkooamaaDrawR2
namespace Go.Proofs.Ytckbpiapkooamaa
open Go.RowKit

theorem wholeN_more (ps : List Bits) (l : Bits) (n : Nat) : wholeN ps n ≤ wholeN (ps ++ [l]) n := by
  induction n with
  | zero => simp [wholeN]
  | succ n ih =>
    simp only [wholeN]
    have : cnt ps n ≤ cnt (ps ++ [l]) n := by unfold cnt; rw [List.countP_append]; omega
    omega

set_option maxRecDepth 100000 in
set_option maxHeartbeats 4000000 in
theorem rareMore_walk (A : Option Addr) (c : Nat) (us : List Int) (B : Option Addr) (d : Nat) (vs : List Int) (w : World) (hr : Cells w A (bytes us)) (hu : ∀ u ∈ us, 0 ≤ u ∧ u ≤ 255) (hc : us.length ≤ c) :
    Calls Try.prog 6 #[.slice A us.length c, .slice B vs.length d] w (RetB w true) := by
  have Hu := hid hu
  clear hu
  by_cases h20 : 1048576 < us.length
  · go_enter Try.func6, Try.ntmps6
    go_wp2
    go_ret
    exact ⟨rfl, Below.refl _ _⟩
  · have hm : us.length ≤ 17592186044416 := by omega
    have hd : decide ((1048576 : Int) < (us.length : Int)) = false := by simp; omega
    clear h20
    by_cases h21 : 1048576 < vs.length
    · have hd2 : decide ((1048576 : Int) < (vs.length : Int)) = true := by simp; omega
      go_enter Try.func6, Try.ntmps6
      go_wp2
      go_ret
      exact ⟨rfl, Below.refl _ _⟩
    have hd2 : decide ((1048576 : Int) < (vs.length : Int)) = false := by simp; omega
    go_enter Try.func6, Try.ntmps6
    go_wp2_with fail
    refine (drawWhole_any _ _ _ _ hr Hu.out hc hm).mono ?_
    rintro e w1 ⟨A1, c1, ps, x, rfl, hx0, hx1, hsm⟩
    clear hr hc hm hd
    obtain ⟨m, hm0⟩ : ∃ m, ps.length = m := ⟨_, rfl⟩
    have Hm := hid hm0
    have hm7 : m ≤ 7 := by rw [← hm0]; exact hsm.1
    have Hs := hid hsm.2.1
    have M1 := hid hsm.2.2.1
    have b1 := hsm.2.2.2
    obtain ⟨r, hr0⟩ : ∃ r, wholeG ps x = r := ⟨_, rfl⟩
    have HR := hid hr0
    go_wp2_with fail
    clear hm0 hsm
    refine (implWhole_n Hm Hs _ _ _ _ HR _ M1.out).mono ?_; rintro e w2 ⟨rfl, rfl⟩
    go_wp2_with fail
    refine (specWhole_n Hm Hs _ _ _ _ HR _ M1.out).mono ?_; rintro e w3 ⟨rfl, rfl⟩
    by_cases hn : r < 0
    · clear hr0
      go_wp2_with fail
      go_ret
      exact ⟨rfl, b1⟩
    · have Hr0 := hid hr0
      clear hr0
      have hkk : Hid (∃ b : Nat, x = b ∧ b ≤ 16 ∧ okB ps = true ∧ r = (wholeN ps b : Int)) := by
        have h := Hr0.out
        unfold wholeG at h
        split at h
        · rename_i h1
          rw [Bool.and_eq_true] at h1
          obtain ⟨b, rfl, h2⟩ := inB_nat h1.2
          exact ⟨b, rfl, by omega, h1.1, h.symm⟩
        · omega
      obtain ⟨N, rfl, hN, hok, hrb⟩ := hkk.out
      obtain ⟨v, hv⟩ : ∃ v, wholeN ps N = v := ⟨_, rfl⟩
      have HV := hid hv
      have Hok := hid hok
      rw [hv] at hrb
      subst hrb
      clear hv hkk hok
      by_cases h6 : m = 6
      · have e6 : ((m : Int) == 6) = true := by rw [beq_iff_eq]; omega
        clear h6
        go_wp2_with fail
        go_ret
        exact ⟨rfl, b1⟩
      · have e6 : ((m : Int) == 6) = false := by rw [beq_eq_false_iff_ne]; omega
        have hm6 : m ≤ 5 := by have := (okB_len Hok.out).1; rw [Hm.out] at this; omega
        clear h6
        go_wp2_with fail
        go_loopw [9, 10] (fun out i wr => ∃ (k : Nat) (A' : Option Addr) (c' : Nat) (vs2 : List Value), k ≤ m ∧ i = .int .i64 k ∧ out = .slice A' k c' ∧ Hid (wr.ownsRow w1.heap.size 31 1 (.slice A' k c') k vs2) ∧ Hid (Heads (fun A c bs => Cells w1 A (bools bs)) vs2 (ps.take k)) ∧ Below w1.heap.size w1 wr) (fun _ i _ => m - (intOf i).toNat)
        case atStart => exact ⟨0, _, _, [], Nat.zero_le _, rfl, rfl, own_empty w1 31 1 (Nat.le_refl _), by simp [Hid, Heads], (Below.refl _ _).alloc (Nat.le_refl _) _⟩
        case round =>
          obtain ⟨k, A', c', vs2, hk, rfl, rfl, own, hv, hb⟩ := hrel
          have hsz := hb.size
          by_cases hlt : k < m
          · obtain ⟨bs, hz⟩ : ∃ bs, ps[k]? = some bs := ⟨ps[k]'(by rw [Hm.out]; exact hlt), List.getElem?_eq_getElem _⟩
            obtain ⟨g, off, A1', c1', rfl, hcell, hrow⟩ := M1.out.of hz
            have hv2 : Hid (Heads (fun A c bs => Cells w1 A (bools bs)) (vs2 ++ [.slice A1' bs.length c1']) (ps.take (k + 1))) := by
              unfold Hid; rw [take_snoc _ _ _ hz]; exact hv.out.snoc hrow
            have hcell2 := cell_later hb hcell
            clear hz hcell hrow
            go_wp2_with (at_builtin; refine wpList_app rfl (.tmp 54) (.tmp 59) 22 rfl w1.heap.size Try.underlying22 info_row rfl (by omega) (by omega) A' k c' vs2 rfl (own.out.alloc _) (some ⟨wr.heap.size, 0, none⟩) 1 1 [.slice A1' bs.length c1'] rfl rfl (cells_one _ _ _) (by simp [Value.oneCell']) (k + 1) _ rfl rfl (by omega) (by simp; omega) ?_; intro A5 c5 w5 ho5 hb5)
            go_roundw
            case rel => exact ⟨k + 1, A5, c5, _, by omega, by go_num, rfl, ho5, hv2, (hb.alloc hsz _).trans hb5⟩
            case measure => simp [intOf]; omega
          · obtain rfl : k = m := by omega
            have hvp : Hid (Heads (fun A c bs => Cells w1 A (bools bs)) vs2 ps) := by
              have h := hv.out; rwa [List.take_of_length_le (by rw [Hm.out]; exact Nat.le_refl _)] at h
            obtain ⟨K, hK16, e1, e2⟩ : ∃ K : Nat, K ≤ 16 ∧ (vs.length : Int).tmod 17 = K ∧ (vs.length : Int) % 17 = K := ⟨vs.length % 17, by omega, by rw [Int.tmod_eq_emod_of_nonneg (by omega)]; omega, by omega⟩
            obtain ⟨wa, rfl⟩ : ∃ wa : World, wa = wr := ⟨_, rfl⟩
            clear hlt hv
            go_wp2_with fail
            go_loopw [11, 12] (fun out i wr => ∃ (j : Nat) (A2 : Option Addr) (c2 : Nat) (l : Bits), j ≤ K ∧ i = .int .i64 j ∧ out = .slice A2 j c2 ∧ Hid (l.length = j) ∧ Hid (wr.ownsRow wa.heap.size 4 1 (.slice A2 j c2) j (bools l)) ∧ Below wa.heap.size wa wr) (fun _ i _ => K - (intOf i).toNat)
            case atStart => exact ⟨0, _, _, [], Nat.zero_le _, rfl, rfl, rfl, own_empty wa 4 1 (Nat.le_refl _), (Below.refl _ _).alloc (Nat.le_refl _) _⟩
            case round =>
              obtain ⟨j, A2, c2, l, hj, rfl, rfl, hll, own2, hb2⟩ := hrel
              have hsz2 := hb2.size
              by_cases hlt : j < K
              · go_wp2_with (at_builtin; refine wpList_app rfl (.tmp 69) (.tmp 73) 31 rfl wa.heap.size Try.underlying31 info_bool rfl (by omega) (by omega) A2 j c2 _ rfl (own2.out.alloc _) (some ⟨wr.heap.size, 0, none⟩) 1 1 _ rfl rfl (cells_one _ _ _) (one_bool _) (j + 1) _ rfl (bools_snoc _ _) (by omega) (by simp; omega) ?_; intro A5 c5 w5 ho5 hb5)
                go_roundw
                case rel => exact ⟨j + 1, A5, c5, _, by omega, by go_num, rfl, by unfold Hid; rw [List.length_append, hll.out]; rfl, ho5, (hb2.alloc hsz2 _).trans hb5⟩
                case measure => simp [intOf]; omega
              · obtain rfl : j = K := by omega
                have hK2 := hid e2
                have ownA := hid (own_below own.out hb2)
                have hblk : Hid (∀ g, A' = some ⟨g, 0, none⟩ → g < wa.heap.size) := fun g hg => by have h := own.out; subst hg; exact (h.lt g rfl).2
                have hblk2 : Hid (∀ g, A2 = some ⟨g, 0, none⟩ → wa.heap.size ≤ g) := fun g hg => by have h := own2.out; subst hg; exact (h.lt g rfl).1
                have hza := hb.size
                clear hlt own
                go_wp2_with (at_builtin; refine wpList_app2 rfl (.tmp 75) (.tmp 77) 22 rfl w1.heap.size Try.underlying22 info_row rfl (by omega) (by omega) A' k c' vs2 rfl (ownA.out.alloc _) wr.heap.size 0 1 1 [.slice A2 j c2] rfl rfl (cells_one _ _ _) (by simp [Value.oneCell']) (k + 1) (vs2 ++ [.slice A2 j c2]) rfl rfl (by omega) (by simp; omega) ?_; intro A6 c6 w6 ho6 hg6 hA6)
                clear e1 e2
                have hbz : Below w1.heap.size wr w6 := ((Below.refl w1.heap.size wr).alloc (by omega) (.cells #[.slice A2 j c2] 31)).trans (below_grown hg6 (by simp; omega) (fun q hq => (ownA.out.lt q hq).1))
                have hone : Hid (Cells w6 A2 (bools l)) := by
                  refine own_cells (row_keep own2.out fun g hg hs => ?_)
                  refine (hg6.block g (by simp; omega) ?_).trans (((Below.refl wr.heap.size wr).alloc (Nat.le_refl _) (.cells #[.slice A2 j c2] 31)).block g hs)
                  intro e
                  have h1 := hblk2.out g hg
                  rcases A' with _ | ⟨b', o', s'⟩
                  · simp [Value.ownBlock] at e
                  · rcases ownA.out.2 with ⟨hv0, _⟩ | ⟨g0, cap, cur, hv0, _⟩
                    · cases hv0
                    · injection hv0 with hv0
                      rw [hv0] at e
                      simp [Value.ownBlock] at e
                      have h2 := hblk.out g0 hv0
                      omega
                have tb : Below w1.heap.size w1 w6 := (hb.trans (hb2.mono hza)).trans hbz
                have MA : Hid (Mat w6 A6 (ps ++ [l])) := by
                  refine ⟨_, own_cells ho6, ?_⟩
                  have h3 := (hvp.out.imp (R' := fun A c bs => Cells w6 A (bools bs)) fun _ _ _ _ hc => hc.below tb).snoc (A := A2) (c := c2) (bs := l) hone.out
                  rw [hll.out] at h3
                  exact h3
                have Mp := hid (M1.out.below tb)
                have Hm2 : Hid ((ps ++ [l]).length = k + 1) := by unfold Hid; rw [List.length_append, Hm.out]; rfl
                have hok2 : okB (ps ++ [l]) = true := okB_yes (by rw [Hm2.out]; omega) (fun bs hbs => by
                  rcases List.mem_append.1 hbs with h4 | h4
                  · exact (okB_len Hok.out).2 bs h4
                  · simp at h4; subst h4; rw [hll.out]; exact hK16)
                have HS2 : Hid (Small (ps ++ [l])) := ⟨by rw [Hm2.out]; omega, fun bs hbs => by have := (okB_len hok2).2 bs hbs; omega⟩
                obtain ⟨v2, hv2⟩ : ∃ v2, wholeN (ps ++ [l]) N = v2 := ⟨_, rfl⟩
                have hvv : v ≤ v2 := by rw [← hv2, ← HV.out]; exact wholeN_more ps l N
                have HW2 : Hid (wholeG (ps ++ [l]) N = v2) := by unfold Hid; rw [wholeG_ok hok2 (by simp [inB]; omega), hv2]
                obtain ⟨B16, hB16, f1, f2⟩ : ∃ K : Nat, K ≤ 15 ∧ (vs.length : Int).tmod 16 = K ∧ (vs.length : Int) % 16 = K := ⟨vs.length % 16, by omega, by rw [Int.tmod_eq_emod_of_nonneg (by omega)]; omega, by omega⟩
                obtain ⟨p1, hp1⟩ : ∃ p1, cnt ps B16 = p1 := ⟨_, rfl⟩
                obtain ⟨p2, hp2⟩ : ∃ p2, cnt (ps ++ [l]) B16 = p2 := ⟨_, rfl⟩
                have hpp : p1 ≤ p2 := by rw [← hp1, ← hp2]; unfold cnt; rw [List.countP_append]; omega
                have HC1 : Hid (countG ps B16 = p1) := by unfold Hid; rw [countG_ok Hok.out (by simp [inB]; omega), hp1]
                have HC2 : Hid (countG (ps ++ [l]) B16 = p2) := by unfold Hid; rw [countG_ok hok2 (by simp [inB]; omega), hp2]
                have d1 : decide ((v : Int) ≤ (v2 : Int)) = true := by simp; omega
                have d2 : decide ((p1 : Int) ≤ (p2 : Int)) = true := by simp; omega
                clear ho6 hg6 hA6 hok2 hv2 hp1 hp2
                go_wp2_with fail
                refine (implWhole_n Hm2 HS2 _ _ _ _ HW2 _ MA.out).mono ?_; rintro e w7 ⟨rfl, rfl⟩
                go_wp2_with fail
                refine (implCount_n Hm2 HS2 _ _ _ _ HC2 _ MA.out).mono ?_; rintro e w7 ⟨rfl, rfl⟩
                go_wp2_with fail
                refine (implCount_n Hm Hs _ _ _ _ HC1 _ Mp.out).mono ?_; rintro e w7 ⟨rfl, rfl⟩
                go_wp2_with fail
                go_ret
                exact ⟨ret_bool (by first | rfl | (simp; omega)), below_step b1 tb⟩

end Go.Proofs.Ytckbpiapkooamaa
