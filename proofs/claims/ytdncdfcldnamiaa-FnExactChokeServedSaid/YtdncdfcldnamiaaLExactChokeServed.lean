/- laws.FnExactChokeServed. -/
import Derived.Test.YtdncdfcldnamiaaC6
namespace Go.Proofs.Ytdncdfcldnamiaa
open Go.RowKit

set_option maxHeartbeats 1000000 in
theorem exactServed_walk (A : Option Addr) (c : Nat) (zs : List Int) (t : Int) (w : World) (hr : Cells w A (ints zs)) :
    Calls Try.prog 14 #[.slice A zs.length c, .int .i64 t] w (RetB w true) := by
  by_cases h20 : 1048576 < zs.length
  · go_enter Try.func14, Try.ntmps14
    go_wp2
    go_ret
    exact ⟨rfl, Below.refl _ _⟩
  · have hm : zs.length ≤ 17592186044416 := by omega
    have hf : (servedG zs t).length ≤ 17592186044416 := by unfold servedG; split; exact Nat.le_trans (filter_len _ _) hm; simp
    go_enter Try.func14, Try.ntmps14
    go_wp2_with fail
    refine (toIntS_any _ _ _ _ hr hm).mono ?_; rintro e w1 ⟨A1, c1, rfl, o1, b1⟩
    go_wp2_with fail
    refine (specServed_any _ _ _ _ _ o1.cells hm).mono ?_; rintro e w2 ⟨A2, c2, rfl, o2, b2⟩
    have hr2 := (hr.below b1).below b2
    go_wp2_with fail
    refine (toIntS_any _ _ _ _ hr2 hm).mono ?_; rintro e w3 ⟨A3, c3, rfl, o3, b3⟩
    go_wp2_with fail
    refine (implServed_any _ _ _ _ _ o3.cells hm).mono ?_; rintro e w4 ⟨A4, c4, rfl, o4, b4⟩
    have hr4 := (hr2.below b3).below b4
    have o24 := (o2.below b3).below b4
    have o34 := o3.below b4
    go_wp2_with fail
    refine (eqIntS_true _ _ _ _ _ _ o4.cells o24.cells hf).mono ?_; rintro e w5 ⟨rfl, b5⟩
    go_wp2_with fail
    refine (toIntS_any _ _ _ _ (hr4.below b5) hm).mono ?_; rintro e w6 ⟨A6, c6, rfl, o6, b6⟩
    have o36 := (o34.below b5).below b6
    go_wp2_with fail
    refine (eqIntS_true _ _ _ _ _ _ o36.cells o6.cells hm).mono ?_; rintro e w7 ⟨rfl, b7⟩
    go_wp2_with fail
    refine (markIntS_any _ _ _ _ _ _ _ (o36.below b7) hm (by omega) (by omega)).mono ?_; rintro e w8 ⟨rfl, -, ch8⟩
    have z23 := b3.size
    have z34 := b4.size
    have o28 := (((o24.below b5).below b6).below b7).chg ch8 (.inl (Nat.le_refl _))
    have o48 := (((o4.below b5).below b6).below b7).chg ch8 (.inr (Nat.le_refl _))
    go_wp2_with fail
    refine (eqIntS_true _ _ _ _ _ _ o48.cells o28.cells hf).mono ?_; rintro e w9 ⟨rfl, b9⟩
    go_wp2_with fail
    refine (markIntS_any _ _ _ _ _ _ _ (o48.below b9) hf (by omega) (by omega)).mono ?_; rintro e w10 ⟨rfl, o410, ch10⟩
    have o210 := (o28.below b9).chg ch10 (.inl z23)
    go_wp2_with fail
    refine (heldIntS_any _ _ _ _ _ o410.cells hf (by omega) (by omega)).mono ?_; rintro e w11 ⟨rfl, b11⟩
    have z01 := b1.size
    have z12 := b2.size
    have t11 := below_step (below_chg (below_step (below_chg (below_step (below_step (below_step (below_step (below_step (below_step b1 b2) b3) b4) b5) b6) b7) ch8 (by omega)) b9) ch10 (by omega)) b11
    go_wp2_with fail
    refine (toIntS_any _ _ _ _ (hr.below t11) hm).mono ?_; rintro e w12 ⟨A12, c12, rfl, o12, b12⟩
    go_wp2_with fail
    refine (implServed_any _ _ _ _ _ o12.cells hm).mono ?_; rintro e w13 ⟨A13, c13, rfl, o13, b13⟩
    have o213 := ((o210.below b11).below b12).below b13
    go_wp2_with fail
    refine (eqIntS_true _ _ _ _ _ _ o13.cells o213.cells hf).mono ?_; rintro e w14 ⟨rfl, b14⟩
    have o414 := (((o410.below b11).below b12).below b13).below b14
    go_wp2_with fail
    refine (heldIntS_any _ _ _ _ _ o414.cells hf (by omega) (by omega)).mono ?_; rintro e w15 ⟨rfl, b15⟩
    go_wp2_with fail
    go_ret
    exact ⟨rfl, below_step (below_step (below_step (below_step t11 b12) b13) b14) b15⟩

end Go.Proofs.Ytdncdfcldnamiaa
