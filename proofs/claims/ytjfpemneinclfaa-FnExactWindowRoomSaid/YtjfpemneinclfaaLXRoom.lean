/- laws.FnExactWindowRoom: the walk. -/
import Derived.Test.YtjfpemneinclfaaLX0
namespace Go.Proofs.Ytjfpemneinclfaa
open Go.RowKit

set_option maxHeartbeats 2000000 in
theorem exactWindowRoom_walk (A : Option Addr) (c : Nat) (l : List AskT) (x : Int) (w : World) (hr : Cells w A (asks l)) (hcm : l.length ≤ 9223372036854775807) :
    Calls Try.prog 4 #[.slice A l.length c, .int .i64 x] w (RetB w true) := by
  by_cases h20 : 1048576 < l.length
  · go_enter Try.func4, Try.ntmps4
    go_wp2_with fail
    refine (szAskS_over _ _ _ _ _ hcm (by omega) (by omega)).mono ?_; rintro e w1 ⟨rfl, rfl⟩
    go_wp2_with fail
    go_ret
    exact ⟨rfl, Below.refl _ _⟩
  · have hm : l.length ≤ 1048576 := by omega
    go_enter Try.func4, Try.ntmps4
    go_wp2_with fail
    refine (szAskS_any _ _ _ _ _ hm (by omega) (by omega)).mono ?_; rintro e w1 ⟨rfl, rfl⟩
    go_wp2_with fail
    refine (toAskS_any _ _ _ _ hr hm).mono ?_; rintro e w1 ⟨A1, c1, rfl, o1, b1⟩
    go_wp2_with fail
    refine (specRoom_any _ _ _ _ _ o1.cells hm (own_cap o1.row)).mono ?_; rintro e w2 ⟨rfl, b2⟩
    have t2 := below_step b1 b2
    go_wp2_with fail
    refine (toAskS_any _ _ _ _ (hr.below t2) hm).mono ?_; rintro e w3 ⟨A3, c3, rfl, o3, b3⟩
    have t3 := below_step t2 b3
    go_wp2_with fail
    refine (implRoom_any _ _ _ _ _ o3.cells hm (own_cap o3.row)).mono ?_; rintro e w4 ⟨rfl, b4⟩
    have t4 := below_step t3 b4
    have o4 := hid (o3.below b4)
    go_wp2_with fail
    refine (toAskS_any _ _ _ _ (hr.below t4) hm).mono ?_; rintro e w5 ⟨A5, c5, rfl, o5, b5⟩
    have t5 := below_step t4 b5
    go_wp2_with fail
    refine (eqAskS_true _ _ _ _ _ _ (o4.out.below b5).cells o5.cells (by omega)).mono ?_; rintro e w6 ⟨rfl, b6⟩
    go_wp2_with fail
    go_ret
    exact ⟨rfl, below_step t5 b6⟩

end Go.Proofs.Ytjfpemneinclfaa
