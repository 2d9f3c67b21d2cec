/- laws.FnExactRareWhole: the walk. -/
import Derived.Test.YtckbpiapkooamaaR6
namespace Go.Proofs.Ytckbpiapkooamaa
open Go.RowKit

set_option maxHeartbeats 2000000 in
theorem exactRareWhole_walk (A : Option Addr) (c : Nat) (ps : List Bits) (x : Int) (w : World) (hr : Mat w A ps) (hcm : ps.length ≤ 9223372036854775807) (hcl : ∀ bs ∈ ps, List.length bs ≤ 9223372036854775807) :
    Calls Try.prog 5 #[.slice A ps.length c, .int .i64 x] w (RetB w true) := by
  have HZ := hid (szBoolSS_any A c ps w hr hcm hcl)
  clear hcl
  go_enter Try.func5, Try.ntmps5
  go_wp2_with fail
  refine HZ.out.mono ?_; rintro e w1 ⟨v, rfl, hv, rfl⟩
  rcases hv with hv | ⟨hv, hs⟩
  · go_wp2_with fail
    go_ret
    exact ⟨rfl, Below.refl _ _⟩
  · have Hs := hid hs
    clear hs HZ
    go_wp2_with fail
    refine (toBoolSS_any _ _ _ _ hr Hs.out).mono ?_; rintro e w1 ⟨A1, c1, rfl, o1, b1⟩
    go_wp2_with fail
    refine (specWhole_any _ _ _ _ _ o1.mat Hs.out).mono ?_; rintro e w2 ⟨rfl, rfl⟩
    go_wp2_with fail
    refine (toBoolSS_any _ _ _ _ (hr.below b1) Hs.out).mono ?_; rintro e w3 ⟨A3, c3, rfl, o3, b3⟩
    have t3 := below_step b1 b3
    go_wp2_with fail
    refine (implWhole_any _ _ _ _ _ o3.mat Hs.out).mono ?_; rintro e w4 ⟨rfl, rfl⟩
    go_wp2_with fail
    refine (toBoolSS_any _ _ _ _ (hr.below t3) Hs.out).mono ?_; rintro e w5 ⟨A5, c5, rfl, o5, b5⟩
    have t5 := below_step t3 b5
    go_wp2_with fail
    refine (eqBoolSS_true _ _ _ _ _ _ (o3.mat.below b5) o5.mat Hs.out).mono ?_; rintro e w6 ⟨rfl, b6⟩
    go_wp2_with fail
    go_ret
    exact ⟨rfl, below_step t5 b6⟩

end Go.Proofs.Ytckbpiapkooamaa
