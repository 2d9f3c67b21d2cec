/- laws.FnExactWindowGot: the walk. -/
import Derived.Test.YtjfpemneinclfaaLX0
import Derived.Deep.RegionWith
import Derived.Deep.CutRange
namespace Go.Proofs.Ytjfpemneinclfaa
open Go.RowKit

set_option maxRecDepth 100000 in
set_option maxHeartbeats 4000000 in
theorem exactWindowGot_walk (A : Option Addr) (c : Nat) (l : List AskT) (x y : Int) (w : World) (hr : Cells w A (asks l)) (hcm : l.length ≤ 9223372036854775807) :
    Calls Try.prog 14 #[.slice A l.length c, av x y] w (RetB w true) := by
  have b0 : Below w.heap.size w (w.alloc (.cells #[.int .i64 x, .int .i64 y] 41)) := (Below.refl _ _).alloc (Nat.le_refl _) _
  have hq := Blk.new w 41 [.int .i64 x, .int .i64 y]
  have q0 := hq.cell 0
  have q1 := hq.cell 1
  simp only [List.getElem?_cons_zero, List.getElem?_cons_succ] at q0 q1
  clear hq
  by_cases h20 : 1048576 < l.length
  · go_enter Try.func14, Try.ntmps14
    go_wp2_with fail
    refine (szAskS_over _ _ _ _ _ hcm (by omega) (by omega)).mono ?_; rintro e w1 ⟨rfl, rfl⟩
    go_wp2_with fail
    go_ret
    exact ⟨rfl, b0⟩
  · have hm : l.length ≤ 1048576 := by omega
    obtain ⟨L, r, hG⟩ : ∃ L r, gotG l (x, y) = (L, r) := ⟨_, _, rfl⟩
    have hLn := gotG_len l (x, y)
    rw [hG] at hLn
    obtain ⟨n, hn⟩ : ∃ n, L.length = n := ⟨_, rfl⟩
    have hn16 : n ≤ 1048577 := by simp only at hLn; omega
    have HG := hid hG
    have Hn := hid hn
    clear hG hLn hn h20
    go_enter Try.func14, Try.ntmps14
    go_wp2_with fail
    refine (szAskS_any _ _ _ _ _ hm (by omega) (by omega)).mono ?_; rintro e w1 ⟨rfl, rfl⟩
    go_wp2_with fail
    have t1 := hid (Below.refl (w.alloc (.cells #[.int .i64 x, .int .i64 y] 41)).heap.size (w.alloc (.cells #[.int .i64 x, .int .i64 y] 41)))
    have hr1 := hid (hr.below b0)
    have hq0 := hid q0
    have hq1 := hid q1
    generalize w.alloc (.cells #[.int .i64 x, .int .i64 y] 41) = W0 at b0 t1 hr1 hq0 hq1 q0 q1 ⊢
    clear hr
    have hS := hid (fun (W : World) (h : Below W0.heap.size W0 W) => toAskS_any A c l W (hr1.out.below (below_step t1.out h)) hm)
    go_cut [6, 7] from 21 (fun s8 s9 wx => ∃ A8 c8, s8 = .slice A8 n c8 ∧ s9 = .int .i64 r ∧ Own wx W0.heap.size wx.heap.size 34 2 A8 c8 n (asks L) ∧ Below W0.heap.size W0 wx)
    case first =>
      go_region_with (first | (go_at_call 23; ((with_reducible refine (hS.out _ ?_).mono ?_); (first | exact (Below.refl _ _).drew | exact bk); rintro e wA ⟨A7, c7, rfl, o7, b7⟩; have bs : Below W0.heap.size W0 wA := (by first | exact below_step (Below.refl W0.heap.size W0).drew b7 | exact below_step bk b7); have n0 := cell_later bs q0; have n1 := cell_later bs q1; have hc7 : l.length ≤ c7 := own_cap o7.row; have o8 := hid o7; clear o7)) | (go_at_call 33; ((with_reducible refine (toAsk_any _ _ _).mono ?_); rintro e wB ⟨rfl, b8⟩; have bk : Below W0.heap.size W0 wB := (by first | exact below_step (Below.refl W0.heap.size W0).drew b8 | exact below_step bs b8))) | (go_at_call 40; ((with_reducible refine (specGot_g HG (hid rfl) Hn hm _ _ _ ?_ hc7).mono ?_); (first | exact o8.out.cells | exact (o8.out.below b8).cells); rintro e wC ⟨A9, c9, rfl, o9, b9⟩; have O9 := hid o9; clear o9)))
      all_goals
        go_wp2_with fail
        go_meet
        have bf : Below W0.heap.size W0 wC := (by first | exact below_step bk b9 | exact below_step bs b9)
        exact ⟨A9, c9, rfl, rfl, O9.out.weak (by first | exact bk.size | exact bs.size) (Nat.le_refl _), bf⟩
    case rest =>
    obtain ⟨A2, c2, rfl, rfl, o2', b2⟩ := hcut
    have o2 := hid o2'
    have t2 := hid (below_step t1.out b2)
    have z2 := b2.size
    clear o2' b2 t1 q0 q1
    go_wp2_with fail
    refine (toAskS_any _ _ _ _ (hr1.out.below t2.out) hm).mono ?_; rintro e w3 ⟨A3, c3, rfl, o3', b3⟩
    have o3 := hid o3'
    have z3 := b3.size
    have t3 := hid (below_step t2.out b3)
    have o23 := hid (o2.out.below b3)
    have hc3 : l.length ≤ c3 := own_cap o3'.row
    clear o3' b3 o2
    have p0 := cell_later t3.out hq0.out
    have p1 := cell_later t3.out hq1.out
    go_wp2_with fail
    refine (toAsk_any _ _ _).mono ?_; rintro e w4 ⟨rfl, b4⟩
    have z4 := b4.size
    have t4 := hid (below_step t3.out b4)
    have o24 := hid (o23.out.below b4)
    have o34 := hid (o3.out.below b4)
    clear b4 o23 o3 p0 p1
    go_wp2_with fail
    refine (implGot_g HG (hid rfl) Hn hm _ _ _ o34.out.cells hc3).mono ?_; rintro e w5 ⟨A5, c5, rfl, o5', b5⟩
    have o5 := hid o5'
    have z5 := b5.size
    have t5 := hid (below_step t4.out b5)
    have o25 := hid (o24.out.below b5)
    have o35 := hid (o34.out.below b5)
    clear o5' b5 o24 o34
    go_wp2_with fail
    refine (eqAskS_g Hn (by omega) _ _ _ _ _ o5.out.cells o25.out.cells).mono ?_; rintro e w6 ⟨rfl, b6⟩
    have z6 := b6.size
    have t6 := hid (below_step t5.out b6)
    have o26 := hid (o25.out.below b6)
    have o36 := hid (o35.out.below b6)
    have o56 := hid (o5.out.below b6)
    clear b6 o25 o35 o5
    go_wp2_with fail
    refine (toAskS_any _ _ _ _ (hr1.out.below t6.out) hm).mono ?_; rintro e w7 ⟨A7, c7, rfl, o7, b7⟩
    have t7 := hid (below_step t6.out b7)
    have o27 := hid (o26.out.below b7)
    have o37 := hid (o36.out.below b7)
    have o57 := hid (o56.out.below b7)
    clear o26 o36 o56
    go_wp2_with fail
    refine (eqAskS_g (hid rfl) (by omega) _ _ _ _ _ o37.out.cells o7.cells).mono ?_; rintro e w8 ⟨rfl, b8⟩
    have t8 := hid (below_step t7.out b8)
    have o28 := hid (o27.out.below b8)
    have o38 := hid (o37.out.below b8)
    have o58 := hid (o57.out.below b8)
    have zt := t2.out.size
    clear o27 o37 o57 b7 b8 o7
    go_wp2_with fail
    refine (markAskS_g (hid rfl) (by omega) _ _ _ _ _ _ o38.out (by omega) (by omega)).mono ?_; rintro e w9 ⟨rfl, -, ch9⟩
    have t9 := hid (below_chg t8.out ch9 zt)
    have o29 := hid (o28.out.chg ch9 (.inl (Nat.le_refl _)))
    have o59 := hid (o58.out.chg ch9 (.inr (by omega)))
    clear o28 o58 ch9
    go_wp2_with fail
    refine (eqAskS_g Hn (by omega) _ _ _ _ _ o59.out.cells o29.out.cells).mono ?_; rintro e w10 ⟨rfl, b10⟩
    have t10 := hid (below_step t9.out b10)
    have o210 := hid (o29.out.below b10)
    have o510 := hid (o59.out.below b10)
    clear o29 o59 b10
    go_wp2_with fail
    refine (markAskS_g Hn (by omega) _ _ _ _ _ _ o510.out (by omega) (by omega)).mono ?_; rintro e w11 ⟨rfl, om, ch11⟩
    have om11 := hid om
    have t11 := hid (below_chg t10.out ch11 (by omega))
    have o211 := hid (o210.out.chg ch11 (.inl (by omega)))
    clear om o210 o510 ch11
    go_wp2_with fail
    refine (heldAskS_any _ _ _ _ _ om11.out.cells (by omega) (by omega) (by omega)).mono ?_; rintro e w12 ⟨rfl, b12⟩
    have t12 := hid (below_step t11.out b12)
    have o212 := hid (o211.out.below b12)
    have om12 := hid (om11.out.below b12)
    clear b12 om11 o211
    go_wp2_with fail
    have p0 := cell_later t12.out hq0.out
    have p1 := cell_later t12.out hq1.out
    have hS := hid (fun (W : World) (h : Below w12.heap.size w12 W) => toAskS_any A c l W (hr1.out.below (below_step t12.out h)) hm)
    go_cut [14, 15] from 79 (fun s8 s9 wx => ∃ A8 c8, s8 = .slice A8 n c8 ∧ s9 = .int .i64 r ∧ Own wx w12.heap.size wx.heap.size 34 2 A8 c8 n (asks L) ∧ Below w12.heap.size w12 wx)
    case first =>
      go_region_with (first | (go_at_call 23; ((with_reducible refine (hS.out _ ?_).mono ?_); (first | exact (Below.refl _ _).drew | exact bk); rintro e wA ⟨A7, c7, rfl, o7, b7⟩; have bs : Below w12.heap.size w12 wA := (by first | exact below_step (Below.refl w12.heap.size w12).drew b7 | exact below_step bk b7); have n0 := cell_later bs p0; have n1 := cell_later bs p1; have hc7 : l.length ≤ c7 := own_cap o7.row; have o8 := hid o7; clear o7)) | (go_at_call 33; ((with_reducible refine (toAsk_any _ _ _).mono ?_); rintro e wB ⟨rfl, b8⟩; have bk : Below w12.heap.size w12 wB := (by first | exact below_step (Below.refl w12.heap.size w12).drew b8 | exact below_step bs b8))) | (go_at_call 41; ((with_reducible refine (implGot_g HG (hid rfl) Hn hm _ _ _ ?_ hc7).mono ?_); (first | exact o8.out.cells | exact (o8.out.below b8).cells); rintro e wC ⟨A9, c9, rfl, o9, b9⟩; have O9 := hid o9; clear o9)))
      all_goals
        go_wp2_with fail
        go_meet
        have bf : Below w12.heap.size w12 wC := (by first | exact below_step bk b9 | exact below_step bs b9)
        exact ⟨A9, c9, rfl, rfl, O9.out.weak (by first | exact bk.size | exact bs.size) (Nat.le_refl _), bf⟩
    case rest =>
    obtain ⟨A13, c13, rfl, rfl, o13, b13⟩ := hcut
    have t13 := hid (below_step t12.out b13)
    have o213 := hid (o212.out.below b13)
    have om13 := hid (om12.out.below b13)
    have o14 := hid o13
    clear o13 b13 o212 om12
    go_wp2_with fail
    refine (eqAskS_g Hn (by omega) _ _ _ _ _ o14.out.cells o213.out.cells).mono ?_; rintro e w14 ⟨rfl, b14⟩
    have om14 := hid (om13.out.below b14)
    have t14 := hid (below_step t13.out b14)
    go_wp2_with fail
    refine (heldAskS_any _ _ _ _ _ om14.out.cells (by omega) (by omega) (by omega)).mono ?_; rintro e w15 ⟨rfl, b15⟩
    go_wp2_with fail
    go_ret
    exact ⟨rfl, below_step b0 (below_step t14.out b15)⟩

end Go.Proofs.Ytjfpemneinclfaa
