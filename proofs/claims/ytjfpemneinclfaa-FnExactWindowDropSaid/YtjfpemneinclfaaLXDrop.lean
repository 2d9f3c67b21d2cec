/- laws.FnExactWindowDrop: the walk. -/
import Derived.Test.YtjfpemneinclfaaLX0
import Derived.Deep.RegionWith
import Derived.Deep.CutRange
namespace Go.Proofs.Ytjfpemneinclfaa
open Go.RowKit

set_option maxRecDepth 100000 in
set_option maxHeartbeats 4000000 in
theorem exactWindowDrop_walk (A : Option Addr) (c : Nat) (l : List AskT) (x : Int) (w : World) (hr : Cells w A (asks l)) (hcm : l.length ≤ 9223372036854775807) :
    Calls Try.prog 12 #[.slice A l.length c, .int .i64 x] w (RetB w true) := by
  by_cases h20 : 1048576 < l.length
  · go_enter Try.func12, Try.ntmps12
    go_wp2_with fail
    refine (szAskS_over _ _ _ _ _ hcm (by omega) (by omega)).mono ?_; rintro e w1 ⟨rfl, rfl⟩
    go_wp2_with fail
    go_ret
    exact ⟨rfl, Below.refl _ _⟩
  · have hm : l.length ≤ 1048576 := by omega
    obtain ⟨L, r, hG⟩ : ∃ L r, dropG l x = (L, r) := ⟨_, _, rfl⟩
    have hLn := dropG_len l x
    rw [hG] at hLn
    obtain ⟨n, hn⟩ : ∃ n, L.length = n := ⟨_, rfl⟩
    have hn16 : n ≤ 1048577 := by simp only at hLn; omega
    have HG := hid hG
    have Hn := hid hn
    clear hG hLn hn h20
    go_enter Try.func12, Try.ntmps12
    go_wp2_with fail
    refine (szAskS_any _ _ _ _ _ hm (by omega) (by omega)).mono ?_; rintro e w1 ⟨rfl, rfl⟩
    go_wp2_with fail
    have b0 : Below w.heap.size w w := Below.refl _ _
    have t1 := hid (Below.refl w.heap.size w)
    have hr1 := hid hr
    clear hr
    refine (toAskS_any _ _ _ _ hr1.out hm).mono ?_; rintro e w1 ⟨A1, c1, rfl, o1, b1⟩
    go_wp2_with fail
    refine (specDrop_g HG (hid rfl) Hn hm _ _ _ o1.cells (own_cap o1.row)).mono ?_; rintro e wc ⟨A2, c2, rfl, o2', b2⟩
    have z1 := b1.size
    have z2 := b2.size
    have o2 := hid o2'
    have t2 := hid (below_step b1 b2)
    clear o1 o2' b1 b2
    go_wp2_with fail
    refine (toAskS_any _ _ _ _ (hr1.out.below t2.out) hm).mono ?_; rintro e w4 ⟨A3, c3, rfl, o34', b3⟩
    have o34 := hid o34'
    have z4 := b3.size
    have t4 := hid (below_step t2.out b3)
    have o24 := hid (o2.out.below b3)
    have hc3 : l.length ≤ c3 := own_cap o34'.row
    clear o34' b3 o2
    go_wp2_with fail
    refine (implDrop_g HG (hid rfl) Hn hm _ _ _ o34.out.cells hc3).mono ?_; rintro e w5 ⟨A5, c5, rfl, o5', b5⟩
    have o5 := hid o5'
    have z5 := b5.size
    have t5 := hid (below_step t4.out b5)
    have o25 := hid (o24.out.below b5)
    have o35 := hid (o34.out.below b5)
    clear o5' b5 o24 o34
    go_wp2_with fail
    refine (eqAskS_g Hn (by omega) _ _ _ _ _ o5.out.cells o25.out.cells).mono ?_; rintro e w6 ⟨rfl, b6⟩
    have z6 := b6.size
    have t6 := hid (below_step t5.out b6)
    have o26 := hid (o25.out.below b6)
    have o36 := hid (o35.out.below b6)
    have o56 := hid (o5.out.below b6)
    clear b6 o25 o35 o5
    go_wp2_with fail
    refine (toAskS_any _ _ _ _ (hr1.out.below t6.out) hm).mono ?_; rintro e w7 ⟨A7, c7, rfl, o7, b7⟩
    have t7 := hid (below_step t6.out b7)
    have o27 := hid (o26.out.below b7)
    have o37 := hid (o36.out.below b7)
    have o57 := hid (o56.out.below b7)
    clear o26 o36 o56
    go_wp2_with fail
    refine (eqAskS_g (hid rfl) (by omega) _ _ _ _ _ o37.out.cells o7.cells).mono ?_; rintro e w8 ⟨rfl, b8⟩
    have t8 := hid (below_step t7.out b8)
    have o28 := hid (o27.out.below b8)
    have o38 := hid (o37.out.below b8)
    have o58 := hid (o57.out.below b8)
    have zt := t2.out.size
    clear o27 o37 o57 b7 b8 o7
    go_wp2_with fail
    refine (markAskS_g (hid rfl) (by omega) _ _ _ _ _ _ o38.out (by omega) (by omega)).mono ?_; rintro e w9 ⟨rfl, -, ch9⟩
    have t9 := hid (below_chg t8.out ch9 zt)
    have o29 := hid (o28.out.chg ch9 (.inl (Nat.le_refl _)))
    have o59 := hid (o58.out.chg ch9 (.inr (by omega)))
    clear o28 o58 ch9
    go_wp2_with fail
    refine (eqAskS_g Hn (by omega) _ _ _ _ _ o59.out.cells o29.out.cells).mono ?_; rintro e w10 ⟨rfl, b10⟩
    have t10 := hid (below_step t9.out b10)
    have o210 := hid (o29.out.below b10)
    have o510 := hid (o59.out.below b10)
    clear o29 o59 b10
    go_wp2_with fail
    refine (markAskS_g Hn (by omega) _ _ _ _ _ _ o510.out (by omega) (by omega)).mono ?_; rintro e w11 ⟨rfl, om, ch11⟩
    have om11 := hid om
    have t11 := hid (below_chg t10.out ch11 (by omega))
    have o211 := hid (o210.out.chg ch11 (.inl (by omega)))
    clear om o210 o510 ch11
    go_wp2_with fail
    refine (heldAskS_any _ _ _ _ _ om11.out.cells (by omega) (by omega) (by omega)).mono ?_; rintro e w12 ⟨rfl, b12⟩
    have t12 := hid (below_step t11.out b12)
    have o212 := hid (o211.out.below b12)
    have om12 := hid (om11.out.below b12)
    clear b12 om11 o211
    go_wp2_with fail
    refine (toAskS_any _ _ _ _ (hr1.out.below t12.out) hm).mono ?_; rintro e wd ⟨Ad, cd, rfl, od, bd⟩
    go_wp2_with fail
    refine (implDrop_g HG (hid rfl) Hn hm _ _ _ od.cells (own_cap od.row)).mono ?_; rintro e we ⟨A13, c13, rfl, o13, b13'⟩
    have b13 := below_step bd b13'
    have t13 := hid (below_step t12.out b13)
    have o213 := hid (o212.out.below b13)
    have om13 := hid (om12.out.below b13)
    have o14 := hid o13
    clear o13 b13 o212 om12
    go_wp2_with fail
    refine (eqAskS_g Hn (by omega) _ _ _ _ _ o14.out.cells o213.out.cells).mono ?_; rintro e w14 ⟨rfl, b14⟩
    have om14 := hid (om13.out.below b14)
    have t14 := hid (below_step t13.out b14)
    go_wp2_with fail
    refine (heldAskS_any _ _ _ _ _ om14.out.cells (by omega) (by omega) (by omega)).mono ?_; rintro e w15 ⟨rfl, b15⟩
    go_wp2_with fail
    go_ret
    exact ⟨rfl, below_step b0 (below_step t14.out b15)⟩

end Go.Proofs.Ytjfpemneinclfaa
