/- laws.FnDropNone: the walk. -/
import Derived.Test.YtjfpemneinclfaaLW0
import Derived.Deep.RegionHeld3
namespace Go.Proofs.Ytjfpemneinclfaa
open Go.RowKit

set_option maxHeartbeats 2000000 in
theorem dropNone_walk (A : Option Addr) (c : Nat) (us : List Int) (w : World) (hr : Cells w A (bytes us)) (hu : ∀ u ∈ us, 0 ≤ u ∧ u ≤ 255) (hc : us.length ≤ c) :
    Calls Try.prog 15 #[.slice A us.length c] w (RetB w true) := by
  have Hu := hid hu
  clear hu
  by_cases h20 : 1048576 < us.length
  · go_enter Try.func15, Try.ntmps15
    go_wp2
    go_ret
    exact ⟨rfl, Below.refl _ _⟩
  · have hm : us.length ≤ 17592186044416 := by omega
    have hd : decide ((1048576 : Int) < (us.length : Int)) = false := by simp; omega
    clear h20
    go_enter Try.func15, Try.ntmps15
    go_wp2_with fail
    refine (drawDrop_any _ _ _ _ hr Hu.out hc hm).mono ?_
    rintro e w1 ⟨A1, c1, l, x, rfl, hl, o1, b1⟩
    clear hr hc hm hd
    have ta := b1
    have Oa := hid o1
    have hcp : l.length ≤ c1 := own_cap o1.row
    obtain ⟨L, r, hG⟩ : ∃ L r, dropG l x = (L, r) := ⟨_, _, rfl⟩
    have hLn := dropG_len l x
    rw [hG] at hLn
    have HG := hid hG
    obtain ⟨n, hn⟩ : ∃ n, L.length = n := ⟨_, rfl⟩
    have hn16 : n ≤ 16 := by simp only at hLn; omega
    have Hn := hid hn
    obtain ⟨m, hm0⟩ : ∃ m, l.length = m := ⟨_, rfl⟩
    have Hm := hid hm0
    rw [hm0] at hl hcp
    clear hG hLn hn b1
    go_wp2_with fail
    rw [hm0] at Oa
    clear hm0 o1
    refine (implDrop_g HG Hm Hn (by omega) _ _ _ Oa.out.cells hcp).mono ?_; rintro e w2 ⟨A2, c2, rfl, o2, b2⟩
    go_wp2_with fail
    refine (specDrop_g HG Hm Hn (by omega) _ _ _ (Oa.out.below b2).cells hcp).mono ?_; rintro e w3 ⟨A3, c3, rfl, o3, b3⟩
    have O2 := hid (o2.below b3)
    have O3 := hid o3
    have t3 := below_step (below_step ta b2) b3
    have O1 := hid ((Oa.out.below b2).below b3)
    have hcp2 : n ≤ c2 := own_cap o2.row
    clear o2 o3 b2 b3 ta Oa
    go_wp2_with fail
    refine (sameAsks_g Hn (by omega) _ _ _ _ _ O2.out.cells O3.out.cells).mono ?_; rintro e w4 ⟨rfl, b4⟩
    have t4 := below_step t3 b4
    have Q1 := hid (O1.out.below b4)
    have Q2 := hid (O2.out.below b4)
    have Q3 := hid (O3.out.below b4)
    clear O1 O2 O3 b4 t3
    by_cases hr0 : r < 0
    · go_wp2_with fail
      refine (sameAsks_g Hn (by omega) _ _ _ _ _ Q2.out.cells Q3.out.cells).mono ?_; rintro e w5 ⟨rfl, b5⟩
      go_wp2_with fail
      go_ret
      exact ⟨rfl, below_step t4 b5⟩
    · obtain ⟨hv, hin, hL, hre⟩ := dropG_pos HG.out hr0
      have Hin := hid hin
      clear hin
      have Hv := hid hv
      have HL := hid hL
      have Hre := hid hre
      have HvL : Hid (validB L = true) := by unfold Hid; rw [hL]; exact valid_filter _ hv
      clear hv hL hre
      have HG2 : Hid (dropG L x = (L, 0)) := by unfold Hid; rw [dropG_ok HvL.out Hin.out, HL.out, notP_again, notP_count]; rfl
      go_wp2_with fail
      refine (implDrop_g HG2 Hn Hn (by omega) _ _ _ Q2.out.cells hcp2).mono ?_; rintro e w5 ⟨A5, c5, rfl, o5, b5⟩
      go_wp2_with fail
      refine (sameAsks_g Hn (by omega) _ _ _ _ _ o5.cells (Q2.out.below b5).cells).mono ?_; rintro e w6 ⟨rfl, b6⟩
      go_wp2_with fail
      go_ret
      exact ⟨rfl, below_step (below_step t4 b5) b6⟩

end Go.Proofs.Ytjfpemneinclfaa
