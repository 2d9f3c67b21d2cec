/- laws.FnExactChokeTurn. -/
import Derived.Test.YtdncdfcldnamiaaC6
namespace Go.Proofs.Ytdncdfcldnamiaa
open Go.RowKit

set_option maxHeartbeats 1000000 in
theorem exactTurn_walk (A : Option Addr) (c : Nat) (zs : List Int) (t : Int) (w : World) (hr : Cells w A (ints zs)) :
    Calls Try.prog 12 #[.slice A zs.length c, .int .i64 t] w (RetB w true) := by
  by_cases h20 : 1048576 < zs.length
  · go_enter Try.func12, Try.ntmps12
    go_wp2
    go_ret
    exact ⟨rfl, Below.refl _ _⟩
  · have hm : zs.length ≤ 17592186044416 := by omega
    go_enter Try.func12, Try.ntmps12
    go_wp2_with fail
    refine (toIntS_any _ _ _ _ hr hm).mono ?_; rintro e w1 ⟨A1, c1, rfl, o1, b1⟩
    go_wp2_with fail
    refine (specChokeTurn_any _ _ _ _ _ o1.cells hm).mono ?_; rintro e w2 ⟨rfl, b2⟩
    have hr2 := (hr.below b1).below b2
    go_wp2_with fail
    refine (toIntS_any _ _ _ _ hr2 hm).mono ?_; rintro e w3 ⟨A3, c3, rfl, o3, b3⟩
    go_wp2_with fail
    refine (implTurn_any _ _ _ _ _ o3.cells hm).mono ?_; rintro e w4 ⟨rfl, b4⟩
    have hr4 := (hr2.below b3).below b4
    have o34 := o3.below b4
    go_wp2_with fail
    refine (toIntS_any _ _ _ _ hr4 hm).mono ?_; rintro e w6 ⟨A6, c6, rfl, o6, b6⟩
    have o36 := o34.below b6
    go_wp2_with fail
    refine (eqIntS_true _ _ _ _ _ _ o36.cells o6.cells hm).mono ?_; rintro e w7 ⟨rfl, b7⟩
    go_wp2_with fail
    go_ret
    exact ⟨rfl, below_step (below_step (below_step (below_step (below_step b1 b2) b3) b4) b6) b7⟩

end Go.Proofs.Ytdncdfcldnamiaa
