/- laws.FnExactRarePick: the walk. -/
import Derived.Test.YtckbpiapkooamaaR5
import Derived.Test.YtckbpiapkooamaaR6
namespace Go.Proofs.Ytckbpiapkooamaa
open Go.RowKit

set_option maxHeartbeats 4000000 in
theorem exactRarePick_walk (A : Option Addr) (c : Nat) (ps : List Bits) (B : Option Addr) (d : Nat) (mine : Bits) (x : Int) (w : World) (hr : Mat w A ps) (hcm : ps.length ≤ 9223372036854775807) (hcl : ∀ bs ∈ ps, List.length bs ≤ 9223372036854775807) (hmi : Cells w B (bools mine)) (hml : mine.length ≤ 9223372036854775807) :
    Calls Try.prog 13 #[.slice A ps.length c, .slice B mine.length d, .int .i64 x] w (RetB w true) := by
  by_cases h20 : 1048576 < mine.length
  · go_enter Try.func13, Try.ntmps13
    go_wp2
    go_ret
    exact ⟨rfl, Below.refl _ _⟩
  · have hm : mine.length ≤ 1048576 := by omega
    have HZ := hid (szBoolSS_any A c ps w hr hcm hcl)
    clear hcl h20
    go_enter Try.func13, Try.ntmps13
    go_wp2_with fail
    refine HZ.out.mono ?_; rintro e w1 ⟨v, rfl, hv, rfl⟩
    rcases hv with hv | ⟨hv, hs⟩
    · go_wp2_with fail
      go_ret
      exact ⟨rfl, Below.refl _ _⟩
    · have Hs := hid hs
      clear hs HZ
      go_wp2_with fail
      refine (toBoolSS_any _ _ _ _ hr Hs.out).mono ?_; rintro e w1 ⟨A1, c1, rfl, o1, b1⟩
      go_wp2_with fail
      refine (toBoolS_any _ _ _ _ (hmi.below b1) hm).mono ?_; rintro e w2 ⟨A2, c2, rfl, o2, b2⟩
      have t2 := below_step b1 b2
      go_wp2_with fail
      refine (specPick_any _ _ _ _ _ _ _ _ (o1.mat.below b2) Hs.out o2.cells (by omega)).mono ?_; rintro e w3 ⟨rfl, b3⟩
      have t3 := below_step t2 b3
      go_wp2_with fail
      refine (toBoolSS_any _ _ _ _ (hr.below t3) Hs.out).mono ?_; rintro e w4 ⟨A4, c4, rfl, o4, b4⟩
      have t4 := below_step t3 b4
      go_wp2_with fail
      refine (toBoolS_any _ _ _ _ (hmi.below t4) hm).mono ?_; rintro e w5 ⟨A5, c5, rfl, o5, b5⟩
      have t5 := below_step t4 b5
      have m4 := hid (o4.mat.below b5)
      have m5 := hid o5.cells
      go_wp2_with fail
      refine (implPick_any _ _ _ _ _ _ _ _ m4.out Hs.out m5.out (by omega)).mono ?_; rintro e w6 ⟨rfl, b6⟩
      have t6 := below_step t5 b6
      go_wp2_with fail
      refine (toBoolSS_any _ _ _ _ (hr.below t6) Hs.out).mono ?_; rintro e w7 ⟨A7, c7, rfl, o7, b7⟩
      have t7 := below_step t6 b7
      go_wp2_with fail
      refine (eqBoolSS_true _ _ _ _ _ _ ((m4.out.below b6).below b7) o7.mat Hs.out).mono ?_; rintro e w8 ⟨rfl, b8⟩
      have t8 := below_step t7 b8
      go_wp2_with fail
      refine (toBoolS_any _ _ _ _ (hmi.below t8) hm).mono ?_; rintro e w9 ⟨A9, c9, rfl, o9, b9⟩
      have t9 := below_step t8 b9
      go_wp2_with fail
      refine (eqBoolS_true _ _ _ _ _ _ ((((m5.out.below b6).below b7).below b8).below b9) o9.cells (by omega)).mono ?_; rintro e w10 ⟨rfl, b10⟩
      go_wp2_with fail
      go_ret
      exact ⟨rfl, below_step t9 b10⟩

end Go.Proofs.Ytckbpiapkooamaa
