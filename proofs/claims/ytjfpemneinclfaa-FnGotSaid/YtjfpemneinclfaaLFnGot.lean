/- laws.FnGot: the walk. -/
import Derived.Test.YtjfpemneinclfaaLW0
import Derived.Deep.RegionHeld3
namespace Go.Proofs.Ytjfpemneinclfaa
open Go.RowKit

set_option maxHeartbeats 2000000 in
theorem got_walk (A : Option Addr) (c : Nat) (us : List Int) (w : World) (hr : Cells w A (bytes us)) (hu : ∀ u ∈ us, 0 ≤ u ∧ u ≤ 255) (hc : us.length ≤ c) :
    Calls Try.prog 17 #[.slice A us.length c] w (RetB w true) := by
  have Hu := hid hu
  clear hu
  by_cases h20 : 1048576 < us.length
  · go_enter Try.func17, Try.ntmps17
    go_wp2
    go_ret
    exact ⟨rfl, Below.refl _ _⟩
  · have hm : us.length ≤ 17592186044416 := by omega
    have hd : decide ((1048576 : Int) < (us.length : Int)) = false := by simp; omega
    clear h20
    go_enter Try.func17, Try.ntmps17
    go_wp2_with fail
    refine (drawGot_any _ _ _ _ hr Hu.out hc hm).mono ?_
    rintro e w1 ⟨A1, c1, l, x, y, rfl, hl, o1, b1⟩
    clear hr hc hm hd
    have ba : Below w1.heap.size w1 (w1.alloc (.cells #[.int .i64 x, .int .i64 y] 34)) := (Below.refl _ _).alloc (Nat.le_refl _) _
    have ka := hid (Blk.new w1 34 [.int .i64 x, .int .i64 y])
    have ta := below_step b1 ba
    have Oa := hid (o1.below ba)
    have hcp : l.length ≤ c1 := own_cap o1.row
    obtain ⟨L, r, hG⟩ : ∃ L r, gotG l (x, y) = (L, r) := ⟨_, _, rfl⟩
    have hLn := gotG_len l (x, y)
    rw [hG] at hLn
    have HG := hid hG
    obtain ⟨n, hn⟩ : ∃ n, L.length = n := ⟨_, rfl⟩
    have hn16 : n ≤ 16 := by simp only at hLn; omega
    have Hn := hid hn
    obtain ⟨m, hm0⟩ : ∃ m, l.length = m := ⟨_, rfl⟩
    have Hm := hid hm0
    rw [hm0] at hl hcp
    clear hG hLn hn b1
    go_wp2_with fail
    generalize w1.alloc (.cells #[.int .i64 x, .int .i64 y] 34) = wa at ba ka ta Oa ⊢
    have ca0 := ka.out.cell 0
    have ca1 := ka.out.cell 1
    simp only [List.getElem?_cons_zero, List.getElem?_cons_succ] at ca0 ca1
    rw [hm0] at Oa
    clear hm0 o1 ba ka
    refine (implGot_g HG Hm Hn (by omega) _ _ _ Oa.out.cells hcp).mono ?_; rintro e w2 ⟨A2, c2, rfl, o2, b2⟩
    have ce0 := cell_later b2 ca0
    have ce1 := cell_later b2 ca1
    go_wp2_with fail
    refine (specGot_g HG Hm Hn (by omega) _ _ _ (Oa.out.below b2).cells hcp).mono ?_; rintro e w3 ⟨A3, c3, rfl, o3, b3⟩
    have cf0 := cell_later b3 ce0
    have cf1 := cell_later b3 ce1
    have O2 := hid (o2.below b3)
    have O3 := hid o3
    have t3 := below_step (below_step ta b2) b3
    have O1 := hid ((Oa.out.below b2).below b3)
    have hcp2 : n ≤ c2 := own_cap o2.row
    clear o2 o3 b2 b3 ta Oa
    clear ca0 ca1 ce0 ce1
    go_wp2_with fail
    refine (sameAsks_g Hn (by omega) _ _ _ _ _ O2.out.cells O3.out.cells).mono ?_; rintro e w4 ⟨rfl, b4⟩
    have cg0 := cell_later b4 cf0
    have cg1 := cell_later b4 cf1
    have t4 := below_step t3 b4
    have Q1 := hid (O1.out.below b4)
    have Q2 := hid (O2.out.below b4)
    have Q3 := hid (O3.out.below b4)
    clear O1 O2 O3 b4 t3
    clear cf0 cf1
    by_cases hr0 : r < 0
    · go_wp2_with fail
      refine (sameAsks_g Hn (by omega) _ _ _ _ _ Q2.out.cells Q3.out.cells).mono ?_; rintro e w5 ⟨rfl, b5⟩
      go_wp2_with fail
      go_ret
      exact ⟨rfl, below_step t4 b5⟩
    · obtain ⟨hv, haB, hhas, hL, hre⟩ := gotG_pos HG.out hr0
      simp only at hL hre
      have Hhas := hid hhas
      have HaB := hid haB
      clear hhas haB
      have Hv := hid hv
      have HL := hid hL
      have Hre := hid hre
      have HvL : Hid (validB L = true) := by unfold Hid; rw [hL]; exact valid_filter _ hv
      clear hv hL hre
      go_wp2_with fail
      go_loopw [9, 10] (fun out i wr => ∃ (k : Nat) (A' : Option Addr) (c' n' : Nat), k ≤ m ∧ i = .int .i64 k ∧ out = .slice A' n' c' ∧ n' ≤ k ∧ Hid (((l.take k).filter (notB y)).length = n') ∧ Hid (wr.ownsRow w4.heap.size 34 2 (.slice A' n' c') n' (asks ((l.take k).filter (notB y)))) ∧ Below w4.heap.size w4 wr) (fun _ i _ => m - (intOf i).toNat)
      case atStart => exact ⟨0, _, _, 0, Nat.zero_le _, rfl, rfl, Nat.le_refl _, rfl, own_empty w4 34 2 (Nat.le_refl _), (Below.refl _ _).alloc (Nat.le_refl _) _⟩
      case round =>
        obtain ⟨k, A', c', n', hk, rfl, rfl, hnk, hnn, own, hb⟩ := hrel
        have hsz := hb.size
        have R1 := hid (Q1.out.below hb)
        have R2 := hid (Q2.out.below hb)
        have ch0 := cell_later hb cg0
        have ch1 := cell_later hb cg1
        by_cases hlt : k < m
        · obtain ⟨b, off, p, q, rfl, hz, hc, hc1⟩ := R1.out.cells.ask_at (k := k) (by rw [Hm.out]; exact hlt)
          by_cases hpx : q = y
          · have hb1 : (q == y) = true := by simpa using hpx
            have hb2 : (q != y) = false := by simpa using hpx
            have hst : Hid ((l.take (k + 1)).filter (notB y) = (l.take k).filter (notB y)) := by
              unfold Hid; rw [filter_snoc _ _ _ _ hz.out]; simp [notB, hb1]
            clear hpx
            go_wp2
            go_quiet (fail)
            go_wp2
            go_roundw
            case rel => exact ⟨k + 1, A', c', n', by omega, by go_num, rfl, by omega, by unfold Hid; rw [hst.out]; exact hnn.out, by unfold Hid; rw [hst.out]; exact own.out, below_drewN hb _⟩
            case measure => simp [intOf]; omega
          · have hb1 : (q == y) = false := by simpa using hpx
            have hb2 : (q != y) = true := by simpa using hpx
            have hst : Hid ((l.take (k + 1)).filter (notB y) = (l.take k).filter (notB y) ++ [(p, q)]) := by
              unfold Hid; rw [filter_snoc _ _ _ _ hz.out]; simp [notB, hb1]
            clear hpx
            go_wp2_with (fail)
            go_quiet (fail)
            go_wp2_with (at_builtin; refine wpList_app rfl (.tmp 67) (.tmp 72) 25 rfl w4.heap.size Try.underlying25 info_ask rfl (by omega) (by omega) A' n' c' _ rfl (own.out.alloc _) (some ⟨wr.heap.size, 0, none⟩) 1 1 [.int .i64 p, .int .i64 q] rfl rfl (cells_two _ _ _ _) (two_int _ _) (n' + 1) _ rfl asks_snoc1 (by omega) (by simp; omega) ?_; intro A5 c5 w5 ho5 hb5)
            go_roundw
            case rel => exact ⟨k + 1, A5, c5, n' + 1, by omega, by go_num, rfl, by omega, by unfold Hid; rw [hst.out, List.length_append, hnn.out]; rfl, by unfold Hid; rw [hst.out]; exact ho5, ((below_drewN hb _).alloc hsz _).trans hb5⟩
            case measure => simp [intOf]; omega
        · obtain rfl : k = m := by omega
          have htk : l.take k = l := List.take_of_length_le (by rw [Hm.out]; exact Nat.le_refl _)
          have hn2 : n' = n := by rw [← hnn.out, htk, ← HL.out, Hn.out]
          have own2 := own.out
          rw [htk, ← HL.out, hn2] at own2
          have own3 := hid own2
          subst hn2
          have t5 := below_step t4 hb
          clear hlt htk own2 own
          go_wp2_with fail
          refine (sameAsks_g Hn (by omega) _ _ _ _ _ R2.out.cells (own_cells own3.out)).mono ?_; rintro e w6 ⟨rfl, b6⟩
          go_wp2_with fail
          refine (implValid_g Hn HvL (by omega) _ _ _ (R2.out.below b6).cells hcp2).mono ?_; rintro e w7 ⟨rfl, b7⟩
          go_wp2_with fail
          go_ret
          exact ⟨rfl, below_step (below_step t5 b6) b7⟩

end Go.Proofs.Ytjfpemneinclfaa
