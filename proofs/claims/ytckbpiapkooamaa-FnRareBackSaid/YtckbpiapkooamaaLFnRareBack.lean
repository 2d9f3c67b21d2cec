/- laws.FnRareBack: the walk. -/
import Derived.Test.YtckbpiapkooamaaR7
import Derived.Test.YtckbpiapkooamaaDrawR2
namespace Go.Proofs.Ytckbpiapkooamaa
open Go.RowKit

theorem cnt_rev (ps : List Bits) (b : Nat) : cnt ps.reverse b = cnt ps b := by unfold cnt; rw [List.countP_reverse]
theorem okB_rev (ps : List Bits) : okB ps.reverse = okB ps := by unfold okB; rw [List.length_reverse, List.all_reverse]
theorem specTo_rev (ps : List Bits) (mine : Bits) (n : Nat) : specTo ps.reverse mine n = specTo ps mine n := by
  induction n with
  | zero => rfl
  | succ n ih => simp only [specTo, ih, rowTo, pickB, cnt_rev]
theorem orderG_rev (ps : List Bits) (mine : Bits) : orderG ps.reverse mine = orderG ps mine := by unfold orderG; rw [okB_rev, List.length_reverse, specTo_rev]
theorem wholeN_rev (ps : List Bits) (n : Nat) : wholeN ps.reverse n = wholeN ps n := by
  induction n with
  | zero => simp [wholeN]
  | succ n ih => simp only [wholeN, ih, cnt_rev]
theorem wholeG_rev (ps : List Bits) (n : Int) : wholeG ps.reverse n = wholeG ps n := by unfold wholeG; rw [okB_rev, wholeN_rev]

set_option maxRecDepth 100000 in
set_option maxHeartbeats 4000000 in
theorem rareBack_walk (A : Option Addr) (c : Nat) (us : List Int) (w : World) (hr : Cells w A (bytes us)) (hu : ∀ u ∈ us, 0 ≤ u ∧ u ≤ 255) (hc : us.length ≤ c) :
    Calls Try.prog 11 #[.slice A us.length c] w (RetB w true) := by
  have Hu := hid hu
  clear hu
  by_cases h20 : 1048576 < us.length
  · go_enter Try.func11, Try.ntmps11
    go_wp2
    go_ret
    exact ⟨rfl, Below.refl _ _⟩
  · have hm : us.length ≤ 17592186044416 := by omega
    have hd : decide ((1048576 : Int) < (us.length : Int)) = false := by simp; omega
    clear h20
    go_enter Try.func11, Try.ntmps11
    go_wp2_with fail
    refine (drawOrder_any _ _ _ _ hr Hu.out hc hm).mono ?_
    rintro e w1 ⟨A1, c1, B1, d1, ps, mine, rfl, hml, hmi, hsm⟩
    clear hr hc hm hd
    obtain ⟨m, hm0⟩ : ∃ m, ps.length = m := ⟨_, rfl⟩
    have Hm := hid hm0
    have hm7 : m ≤ 7 := by rw [← hm0]; exact hsm.1
    have Hs := hid hsm.2.1
    have M1 := hid hsm.2.2.1
    have b1 := hsm.2.2.2
    obtain ⟨k0, hk0⟩ : ∃ k0, mine.length = k0 := ⟨_, rfl⟩
    have Hk := hid hk0
    have hk18 : k0 ≤ 18 := by rw [← hk0]; exact hml
    have C1 := hid hmi
    obtain ⟨L, hL⟩ : ∃ L, orderG ps mine = L := ⟨_, rfl⟩
    obtain ⟨n, hn⟩ : ∃ n, L.length = n := ⟨_, rfl⟩
    have hn16 : n ≤ 16 := by rw [← hn, ← hL]; exact orderG_len _ _
    have HL := hid hL
    have Hn := hid hn
    clear hL hn
    go_wp2_with fail
    clear hm0 hk0 hsm hmi hml
    refine (implOrder_g HL Hn Hm Hk _ _ _ _ _ M1.out Hs C1.out (by omega)).mono ?_; rintro e w2 ⟨A2, c2, rfl, o2, b2⟩
    have O2 := hid o2
    have M2 := hid (M1.out.below b2)
    have C2 := hid (C1.out.below b2)
    have hcp2 : n ≤ c2 := own_cap o2.row
    have hcm2 : c2 ≤ 9223372036854775807 := by have := own_capM o2.row; simp only [maxLen] at this; exact this
    have t2 := below_step b1 b2
    clear o2 b1 b2 M1 C1
    go_wp2_with fail
    refine (specOrder_g HL Hn Hm Hk _ _ _ _ _ M2.out Hs C2.out (by omega)).mono ?_; rintro e w3 ⟨A3, c3, rfl, o3, b3⟩
    have O3 := hid o3
    have P2 := hid (O2.out.below b3)
    have M3 := hid (M2.out.below b3)
    have C3 := hid (C2.out.below b3)
    have t3 := below_step t2 b3
    clear o3 b3 O2 M2 C2 t2
    go_wp2_with fail
    refine (sameInts_n Hn (by omega) _ _ _ _ _ P2.out.cells O3.out.cells).mono ?_; rintro e w4 ⟨rfl, b4⟩
    have O4 := hid (O3.out.below b4)
    have P4 := hid (P2.out.below b4)
    have M4 := hid (M3.out.below b4)
    have C4 := hid (C3.out.below b4)
    have t4 := below_step t3 b4
    clear b4 O3 P2 M3 C3 t3
    obtain ⟨v5, hv5⟩ : ∃ v, wholeG ps 5 = v := ⟨_, rfl⟩
    have HW := hid hv5
    have HW2 : Hid (wholeG ps.reverse 5 = v5) := by unfold Hid; rw [wholeG_rev]; exact hv5
    have HG2 : Hid (orderG ps.reverse mine = L) := by unfold Hid; rw [orderG_rev]; exact HL.out
    have HS2 : Hid (Small ps.reverse) := ⟨by rw [List.length_reverse]; exact Hs.out.1, fun bs hb => Hs.out.2 bs (List.mem_reverse.1 hb)⟩
    have Hm2 : Hid (ps.reverse.length = m) := by unfold Hid; rw [List.length_reverse]; exact Hm.out
    clear hv5
    go_wp2_with fail
    go_loopw [7, 8] (fun out i wr => ∃ (j : Nat) (q : Int) (A' : Option Addr) (c' : Nat) (vs : List Value), Hid (q + 1 + (j : Int) = m) ∧ -1 ≤ q ∧ q ≤ 7 ∧ j ≤ 7 ∧ i = .int .i64 q ∧ out = .slice A' j c' ∧ Hid (wr.ownsRow w4.heap.size 31 1 (.slice A' j c') j vs) ∧ Hid (Heads (fun A c bs => Cells w4 A (bools bs)) vs (ps.reverse.take j)) ∧ Below w4.heap.size w4 wr) (fun _ i _ => (intOf i + 1).toNat)
    case atStart => exact ⟨0, (m : Int) - 1, _, _, [], by unfold Hid; omega, by omega, by omega, by omega, rfl, rfl, own_empty w4 31 1 (Nat.le_refl _), by simp [Hid, Heads], (Below.refl _ _).alloc (Nat.le_refl _) _⟩
    case round =>
      obtain ⟨j, q, A', c', vs, hqj, hq0, hq7, hj7, rfl, rfl, own, hv, hb⟩ := hrel
      have hsz := hb.size
      by_cases hq : 0 ≤ q
      · obtain ⟨k, rfl⟩ := Int.eq_ofNat_of_zero_le hq
        have hkm : k < m := by have := hqj.out; omega
        obtain ⟨bs, hz⟩ : ∃ bs, ps[k]? = some bs := ⟨ps[k]'(by rw [Hm.out]; exact hkm), List.getElem?_eq_getElem _⟩
        have hzr : ps.reverse[j]? = some bs := by
          have h1 := hqj.out
          rw [List.getElem?_reverse (by rw [Hm.out]; omega), Hm.out, show m - 1 - j = k by omega]; exact hz
        obtain ⟨g, off, A1', c1', rfl, hcell, hrow⟩ := M4.out.of hz
        have hv2 : Hid (Heads (fun A c bs => Cells w4 A (bools bs)) (vs ++ [.slice A1' bs.length c1']) (ps.reverse.take (j + 1))) := by
          unfold Hid; rw [take_snoc _ _ _ hzr]; exact hv.out.snoc hrow
        have hcell2 := cell_later hb hcell
        have hqj2 : Hid ((k : Int) - 1 + 1 + ((j + 1 : Nat) : Int) = m) := by have := hqj.out; unfold Hid; push_cast; omega
        have hj8 : j + 1 ≤ 7 := by have := hqj.out; omega
        clear hz hzr hcell hrow hqj
        go_wp2_with (at_builtin; refine wpList_app rfl (.tmp 38) (.tmp 43) 22 rfl w4.heap.size Try.underlying22 info_row rfl (by omega) (by omega) A' j c' vs rfl (own.out.alloc _) (some ⟨wr.heap.size, 0, none⟩) 1 1 [.slice A1' bs.length c1'] rfl rfl (cells_one _ _ _) (by simp [Value.oneCell']) (j + 1) _ rfl rfl (by omega) (by simp; omega) ?_; intro A5 c5 w5 ho5 hb5)
        go_roundw
        case rel => exact ⟨j + 1, _, A5, c5, _, hqj2, by omega, by omega, hj8, rfl, rfl, ho5, hv2, (hb.alloc hsz _).trans hb5⟩
        case measure => simp [intOf] <;> omega
      · obtain rfl : q = -1 := by omega
        have hjm : j = m := by have := hqj.out; omega
        subst hjm
        have MB : Hid (Mat wr A' ps.reverse) := ⟨vs, own_cells own.out, by have h := hv.out; rw [List.take_of_length_le (by rw [Hm2.out]; exact Nat.le_refl _)] at h; exact h.imp fun _ _ _ _ hc => hc.below hb⟩
        have Mr := hid (M4.out.below hb)
        have Cr := hid (C4.out.below hb)
        have Pr := hid (P4.out.below hb)
        have tr := below_step t4 hb
        clear hqj own hv
        go_wp2_with fail
        refine (implOrder_g HG2 Hn Hm2 Hk _ _ _ _ _ MB.out HS2 Cr.out (by omega)).mono ?_; rintro e w5 ⟨A5, c5, rfl, o5, b5⟩
        have O5 := hid o5
        have t5 := below_step tr b5
        go_wp2_with fail
        refine (sameInts_n Hn (by omega) _ _ _ _ _ O5.out.cells (Pr.out.below b5).cells).mono ?_; rintro e w6 ⟨rfl, b6⟩
        have MB6 := hid ((MB.out.below b5).below b6)
        have M6 := hid ((Mr.out.below b5).below b6)
        clear o5
        go_wp2_with fail
        refine (implWhole_n Hm2 HS2 _ _ _ _ HW2 _ MB6.out).mono ?_; rintro e w7 ⟨rfl, rfl⟩
        go_wp2_with fail
        refine (implWhole_n Hm Hs _ _ _ _ HW _ M6.out).mono ?_; rintro e w7 ⟨rfl, rfl⟩
        go_wp2_with fail
        go_ret
        exact ⟨rfl, below_step t5 b6⟩

end Go.Proofs.Ytckbpiapkooamaa
