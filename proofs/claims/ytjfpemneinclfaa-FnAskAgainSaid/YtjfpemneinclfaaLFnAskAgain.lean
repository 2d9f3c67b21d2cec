/- laws.FnAskAgain: the walk. -/
import Derived.Test.YtjfpemneinclfaaLW0
import Derived.Deep.RegionHeld3
namespace Go.Proofs.Ytjfpemneinclfaa
open Go.RowKit

set_option maxHeartbeats 2000000 in
theorem askAgain_walk (A : Option Addr) (c : Nat) (us : List Int) (w : World) (hr : Cells w A (bytes us)) (hu : ∀ u ∈ us, 0 ≤ u ∧ u ≤ 255) (hc : us.length ≤ c) :
    Calls Try.prog 20 #[.slice A us.length c] w (RetB w true) := by
  have Hu := hid hu
  clear hu
  by_cases h20 : 1048576 < us.length
  · go_enter Try.func20, Try.ntmps20
    go_wp2
    go_ret
    exact ⟨rfl, Below.refl _ _⟩
  · have hm : us.length ≤ 17592186044416 := by omega
    have hd : decide ((1048576 : Int) < (us.length : Int)) = false := by simp; omega
    clear h20
    go_enter Try.func20, Try.ntmps20
    go_wp2_with fail
    refine (drawGot_any _ _ _ _ hr Hu.out hc hm).mono ?_
    rintro e w1 ⟨A1, c1, l, x, y, rfl, hl, o1, b1⟩
    clear hr hc hm hd
    have ba : Below w1.heap.size w1 (w1.alloc (.cells #[.int .i64 x, .int .i64 y] 34)) := (Below.refl _ _).alloc (Nat.le_refl _) _
    have ka := hid (Blk.new w1 34 [.int .i64 x, .int .i64 y])
    have ta := below_step b1 ba
    have Oa := hid (o1.below ba)
    have hcp : l.length ≤ c1 := own_cap o1.row
    obtain ⟨L, r, hG⟩ : ∃ L r, gotG l (x, y) = (L, r) := ⟨_, _, rfl⟩
    have hLn := gotG_len l (x, y)
    rw [hG] at hLn
    have HG := hid hG
    obtain ⟨n, hn⟩ : ∃ n, L.length = n := ⟨_, rfl⟩
    have hn16 : n ≤ 16 := by simp only at hLn; omega
    have Hn := hid hn
    obtain ⟨m, hm0⟩ : ∃ m, l.length = m := ⟨_, rfl⟩
    have Hm := hid hm0
    rw [hm0] at hl hcp
    clear hG hLn hn b1
    go_wp2_with fail
    generalize w1.alloc (.cells #[.int .i64 x, .int .i64 y] 34) = wa at ba ka ta Oa ⊢
    have ca0 := ka.out.cell 0
    have ca1 := ka.out.cell 1
    simp only [List.getElem?_cons_zero, List.getElem?_cons_succ] at ca0 ca1
    rw [hm0] at Oa
    clear hm0 o1 ba ka
    refine (implGot_g HG Hm Hn (by omega) _ _ _ Oa.out.cells hcp).mono ?_; rintro e w2 ⟨A2, c2, rfl, o2, b2⟩
    have ce0 := cell_later b2 ca0
    have ce1 := cell_later b2 ca1
    go_wp2_with fail
    refine (specGot_g HG Hm Hn (by omega) _ _ _ (Oa.out.below b2).cells hcp).mono ?_; rintro e w3 ⟨A3, c3, rfl, o3, b3⟩
    have cf0 := cell_later b3 ce0
    have cf1 := cell_later b3 ce1
    have O2 := hid (o2.below b3)
    have O3 := hid o3
    have t3 := below_step (below_step ta b2) b3
    have O1 := hid ((Oa.out.below b2).below b3)
    have hcp2 : n ≤ c2 := own_cap o2.row
    clear o2 o3 b2 b3 ta Oa
    clear ca0 ca1 ce0 ce1
    go_wp2_with fail
    refine (sameAsks_g Hn (by omega) _ _ _ _ _ O2.out.cells O3.out.cells).mono ?_; rintro e w4 ⟨rfl, b4⟩
    have cg0 := cell_later b4 cf0
    have cg1 := cell_later b4 cf1
    have t4 := below_step t3 b4
    have Q1 := hid (O1.out.below b4)
    have Q2 := hid (O2.out.below b4)
    have Q3 := hid (O3.out.below b4)
    clear O1 O2 O3 b4 t3
    clear cf0 cf1
    by_cases hr0 : r < 0
    · go_wp2_with fail
      refine (sameAsks_g Hn (by omega) _ _ _ _ _ Q2.out.cells Q3.out.cells).mono ?_; rintro e w5 ⟨rfl, b5⟩
      go_wp2_with fail
      go_ret
      exact ⟨rfl, below_step t4 b5⟩
    · obtain ⟨hv, haB, hhas, hL, hre⟩ := gotG_pos HG.out hr0
      simp only at hL hre
      have Hhas := hid hhas
      have HaB := hid haB
      clear hhas haB
      have Hv := hid hv
      have HL := hid hL
      have Hre := hid hre
      have HvL : Hid (validB L = true) := by unfold Hid; rw [hL]; exact valid_filter _ hv
      clear hv hL hre
      have HG2 : Hid (askG L (x, y) false = (L ++ [(x, y)], true)) := by
        refine askG_yes HvL.out HaB.out ?_
        rw [HL.out, notB_has, notB_count]
        have := peer_less Hhas.out Hv.out
        simp; omega
      have Hn2 : Hid ((L ++ [(x, y)]).length = n + 1) := by unfold Hid; rw [List.length_append, Hn.out]; rfl
      have Hk : Hid (blockN (L ++ [(x, y)]) y = 1) := by unfold Hid; rw [blockN_snoc, HL.out, notB_count]; simp
      go_wp2_with fail
      refine (implAsk_g HG2 Hn Hn2 (by omega) _ _ _ Q2.out.cells hcp2).mono ?_; rintro e w5 ⟨A5, c5, rfl, o5, b5⟩
      have ch1 := cell_later b5 cg1
      go_wp2_with fail
      refine (asksFor_g Hn2 Hk (by omega) _ _ _ o5.cells).mono ?_; rintro e w6 ⟨rfl, rfl⟩
      go_wp2_with fail
      go_ret
      exact ⟨rfl, below_step t4 b5⟩

end Go.Proofs.Ytjfpemneinclfaa
