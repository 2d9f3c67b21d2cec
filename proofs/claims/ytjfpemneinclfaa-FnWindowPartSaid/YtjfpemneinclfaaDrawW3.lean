/- The draws of chapter 21, from a code. -/
import Derived.Test.YtjfpemneinclfaaDrawW2
import Derived.Deep.RegionWith
namespace Go.Proofs.Ytjfpemneinclfaa
open Go.RowKit

def SomeAsks (w : World) (e : Ending) (w' : World) : Prop :=
  ∃ A c, ∃ l : List AskT, e = .returned (.slice A l.length c) ∧ l.length ≤ 15 ∧ Own w' w.heap.size w'.heap.size 34 2 A c l.length (asks l) ∧ Below w.heap.size w w'
def SomeAsksA (w : World) (e : Ending) (w' : World) : Prop :=
  ∃ A c, ∃ l : List AskT, ∃ x y : Int, e = .returned (.tuple #[.slice A l.length c, av x y]) ∧ l.length ≤ 15 ∧ Own w' w.heap.size w'.heap.size 34 2 A c l.length (asks l) ∧ Below w.heap.size w w'
def SomeAsksAB (w : World) (e : Ending) (w' : World) : Prop :=
  ∃ A c, ∃ l : List AskT, ∃ x y : Int, ∃ en : Bool, e = .returned (.tuple #[.slice A l.length c, av x y, .bool en]) ∧ l.length ≤ 15 ∧ Own w' w.heap.size w'.heap.size 34 2 A c l.length (asks l) ∧ Below w.heap.size w w'
def SomeAsksI (w : World) (e : Ending) (w' : World) : Prop :=
  ∃ A c, ∃ l : List AskT, ∃ x : Int, e = .returned (.tuple #[.slice A l.length c, .int .i64 x]) ∧ l.length ≤ 15 ∧ Own w' w.heap.size w'.heap.size 34 2 A c l.length (asks l) ∧ Below w.heap.size w w'

set_option maxHeartbeats 400000 in
theorem drawValid_any (A : Option Addr) (c : Nat) (us : List Int) (w : World) (hr : Cells w A (bytes us)) (hu : ∀ u ∈ us, 0 ≤ u ∧ u ≤ 255) (hc : us.length ≤ c) (hm : us.length ≤ 17592186044416) :
    Calls Try.prog 28 #[.slice A us.length c] w (SomeAsks w) := by
  have Hu := hid hu
  clear hu
  go_enter Try.func28, Try.ntmps28
  go_wp2_with fail
  refine (l6Open_any _ _ _ _ hr Hu.out hc hm).mono ?_
  rintro e w1 ⟨rfl, rd, b1⟩
  go_wp2_with fail
  refine (l92Window_any _ _ _ rd (by omega)).mono ?_
  rintro e w2 ⟨A2, c2, l, p', rfl, hl, own, rd2, hp', on⟩
  have b2 := on.below (Nat.le_refl _) b1.size
  go_wp2_with fail
  go_ret
  exact ⟨A2, c2, l, rfl, hl, own.weak b1.size (Nat.le_refl _), b1.trans b2⟩

set_option maxHeartbeats 1000000 in
theorem drawDrop_any (A : Option Addr) (c : Nat) (us : List Int) (w : World) (hr : Cells w A (bytes us)) (hu : ∀ u ∈ us, 0 ≤ u ∧ u ≤ 255) (hc : us.length ≤ c) (hm : us.length ≤ 17592186044416) :
    Calls Try.prog 42 #[.slice A us.length c] w (SomeAsksI w) := by
  have Hu := hid hu
  clear hu
  go_enter Try.func42, Try.ntmps42
  go_wp2_with fail
  refine (l6Open_any _ _ _ _ hr Hu.out hc hm).mono ?_
  rintro e w1 ⟨rfl, rd, b1⟩
  go_wp2_with fail
  refine (l92Window_any _ _ _ rd (by omega)).mono ?_
  rintro e w2 ⟨A2, c2, l, p', rfl, hl, own, rd2, hp', on⟩
  have hlt : w.heap.size < w1.heap.size := rd.lt
  go_wp2_with fail
  refine (pick_any _ _ _ _ rd2 (by omega) (by omega)).mono ?_
  rintro e w3 ⟨m1, rfl, a0, a1, -, r3, o3, -⟩
  have a1 := a1 (by omega)
  go_wp2_with fail
  refine (pick_any _ _ _ _ r3 (by omega) (by omega)).mono ?_
  rintro e w4 ⟨m2, rfl, d0, d1, -, r4, o4, -⟩
  have d1 := d1 (by omega)
  go_wp2_with fail
  refine (pick_any _ _ _ _ r4 (by omega) (by omega)).mono ?_
  rintro e w5 ⟨m3, rfl, f0, f1, -, r5, o5, -⟩
  have f1 := f1 (by omega)
  have own5 := ((own.chg o3 (.inr (by omega))).chg o4 (.inr (by omega))).chg o5 (.inr (by omega))
  have on5 := ((on.trans o3).trans o4).trans o5
  have b5 := b1.trans (on5.below (Nat.le_refl _) b1.size)
  have s5 := o5.size
  have s4 := o4.size
  have s3 := o3.size
  have own6 := hid own5
  clear own5 own
  go_wp2_with fail
  go_ret2
  exact ⟨A2, c2, l, _, rfl, hl, own6.out.weak b1.size (by omega), b5⟩

set_option maxHeartbeats 1000000 in
theorem drawAsk_any (A : Option Addr) (c : Nat) (us : List Int) (w : World) (hr : Cells w A (bytes us)) (hu : ∀ u ∈ us, 0 ≤ u ∧ u ≤ 255) (hc : us.length ≤ c) (hm : us.length ≤ 17592186044416) :
    Calls Try.prog 29 #[.slice A us.length c] w (SomeAsksAB w) := by
  have Hu := hid hu
  clear hu
  have b0 : Below w.heap.size w (w.alloc (.cells #[.int .i64 0, .int .i64 0] 34)) := (Below.refl _ _).alloc (Nat.le_refl _) _
  have k0 := hid (Blk.new w 34 [.int .i64 0, .int .i64 0])
  go_enter Try.func29, Try.ntmps29
  go_wp2_with fail
  refine (l6Open_any _ _ _ _ (hr.below b0) Hu.out hc hm).mono ?_
  rintro e w1 ⟨rfl, rd, b1⟩
  have k1 := hid (k0.out.below b1 k0.out.lt)
  have s1 : w.heap.size + 1 < w1.heap.size := by have := rd.lt; simpa using this
  have g1 : (w.alloc (.cells #[.int .i64 0, .int .i64 0] 34)).heap.size = w.heap.size + 1 := by simp
  rw [g1] at rd
  have t1 := below_step b0 b1
  clear b1 k0 hr g1
  go_wp2_with fail
  refine (l92Window_any _ _ _ rd (by omega)).mono ?_
  rintro e w2 ⟨A2, c2, l, p2, rfl, hl, own2, rd2, hp2, o2⟩
  have k2 := hid (blk_only k1.out o2 (by omega))
  have O2 := hid own2
  clear rd k1 own2
  go_wp2_with fail
  refine (l92Ask_any _ _ _ rd2 (by omega)).mono ?_
  rintro e w3 ⟨x, y, p3, rfl, rd3, hp3, o3⟩
  have k3 := hid (blk_only k2.out o3 (by omega))
  have O3 := hid (O2.out.chg o3 (.inr (by omega)))
  have on3 := o2.trans o3
  have z2 : w1.heap.size ≤ w2.heap.size := o2.size
  have z3 := o3.size
  clear rd2 k2 O2 o2 o3
  have b4 : Below w3.heap.size w3 (w3.alloc (.cells #[.int .i64 x, .int .i64 y] 34)).drew := ((Below.refl _ _).alloc (Nat.le_refl _) _).drew
  have rd4 := hid (rd3.below b4)
  have k4 := hid (k3.out.below b4 k3.out.lt)
  have j4 : Hid (Blk (w3.alloc (.cells #[.int .i64 x, .int .i64 y] 34)).drew w3.heap.size 34 [.int .i64 x, .int .i64 y]) := Blk.new w3 34 [.int .i64 x, .int .i64 y]
  have O4 := hid (O3.out.belowB b4 (by omega))
  have on4 := only_step on3 b4 (by omega)
  clear rd3 k3 O3 on3
  have jc0 := j4.out.cell 0
  have jc1 := j4.out.cell 1
  simp only [List.getElem?_cons_zero, List.getElem?_cons_succ] at jc0 jc1
  go_wp2_with fail
  go_region_with (go_at_call 58; refine (pick_any _ _ _ _ rd4.out (by omega) (by omega)).mono ?_; rintro e w5 ⟨m, rfl, -, -, -, r5, o5, -⟩; have k5 := hid (blk_only k4.out o5 (by omega)); have j5 := hid (blk_only j4.out o5 (by omega)); have kc0 := k5.out.cell 0; have kc1 := k5.out.cell 1; have kf0 := k5.out.free 0; have kf1 := k5.out.free 1; have lc0 := j5.out.cell 0; have lc1 := j5.out.cell 1; simp only [List.getElem?_cons_zero, List.getElem?_cons_succ] at kc0 kc1 lc0 lc1)
  all_goals
    go_wp2
    have z5 := o5.size
    have z45 := b4.size
    have O5 := O4.out.chg o5 (.inr (by omega))
    have on5 := on4.trans o5
    refine bodyPost_ret (v := .tuple #[.slice A2 l.length c2, av x y, .bool (m == 0)]) (by simp [results, Try.results29, go_sem, kc0, kc1]) rfl ?_
    refine ⟨A2, c2, l, x, y, _, rfl, hl, ?_, ((t1.trans (on5.below (Nat.le_succ _) t1.size)).setCell (Nat.le_refl _) _).setCell (Nat.le_refl _) _⟩
    have O6 := (O5.chg (chg_set (g := w.heap.size) w5 (Nat.le_refl _) (Nat.lt_succ_self _) 0 (.int .i64 x)) (.inr (by omega))).chg (chg_set (g := w.heap.size) _ (Nat.le_refl _) (Nat.lt_succ_self _) 1 (.int .i64 y)) (.inr (by omega))
    exact O6.weak (by omega) (by simp [World.setCell]; omega)

set_option maxHeartbeats 1000000 in
theorem drawGot_any (A : Option Addr) (c : Nat) (us : List Int) (w : World) (hr : Cells w A (bytes us)) (hu : ∀ u ∈ us, 0 ≤ u ∧ u ≤ 255) (hc : us.length ≤ c) (hm : us.length ≤ 17592186044416) :
    Calls Try.prog 43 #[.slice A us.length c] w (SomeAsksA w) := by
  have Hu := hid hu
  clear hu
  have b0 : Below w.heap.size w (w.alloc (.cells #[.int .i64 0, .int .i64 0] 34)) := (Below.refl _ _).alloc (Nat.le_refl _) _
  have k0 := hid (Blk.new w 34 [.int .i64 0, .int .i64 0])
  go_enter Try.func43, Try.ntmps43
  go_wp2_with fail
  refine (l6Open_any _ _ _ _ (hr.below b0) Hu.out hc hm).mono ?_
  rintro e w1 ⟨rfl, rd, b1⟩
  have k1 := hid (k0.out.below b1 k0.out.lt)
  have s1 : w.heap.size + 1 < w1.heap.size := by have := rd.lt; simpa using this
  have g1 : (w.alloc (.cells #[.int .i64 0, .int .i64 0] 34)).heap.size = w.heap.size + 1 := by simp
  rw [g1] at rd
  have t1 := below_step b0 b1
  clear b1 k0 hr g1
  go_wp2_with fail
  refine (l92Window_any _ _ _ rd (by omega)).mono ?_
  rintro e w2 ⟨A2, c2, l, p2, rfl, hl, own2, rd2, hp2, o2⟩
  have k2 := hid (blk_only k1.out o2 (by omega))
  have O2 := hid own2
  have z2 : w1.heap.size ≤ w2.heap.size := o2.size
  clear rd k1 own2
  by_cases h0 : 0 < l.length
  · go_wp2_with fail
    refine (pick_any _ _ _ _ rd2 (by omega) (by omega)).mono ?_
    rintro e w3 ⟨s, rfl, a0, a1, -, rd3, o3, -⟩
    have k3 := hid (blk_only k2.out o3 (by omega))
    have O3 := hid (O2.out.chg o3 (.inr (by omega)))
    have on3 := o2.trans o3
    have z3 := o3.size
    clear rd2 k2 O2 o2 o3
    by_cases hs : 0 < s
    · have b4 : Below w3.heap.size w3 w3.drew := (Below.refl _ _).drew
      have rd4 := hid (rd3.below b4)
      have k4 := hid (k3.out.below b4 k3.out.lt)
      have O4 := hid (O3.out.belowB b4 (by omega))
      have on4 := only_step on3 b4 (by omega)
      clear rd3 k3 O3 on3
      go_wp2_with fail
      go_region_with (go_at_call 58; refine (pick_any _ _ _ _ rd4.out (by omega) (by omega)).mono ?_; rintro e w5 ⟨m, rfl, d0, d1, -, r5, o5, -⟩; have d1 := d1 (by omega); have z45 := b4.size; have k5 := hid (blk_only k4.out o5 (by omega)); have O5 := hid (O4.out.chg o5 (.inr (by omega))); obtain ⟨M, rfl⟩ := Int.eq_ofNat_of_zero_le d0; obtain ⟨gb, off, x, y, rfl, hz, hc, hc1⟩ := O5.out.cells.ask_at (k := M) (by omega); have kc0 := k5.out.cell 0; have kc1 := k5.out.cell 1; have kf0 := k5.out.free 0; have kf1 := k5.out.free 1; simp only [List.getElem?_cons_zero, List.getElem?_cons_succ] at kc0 kc1)
      all_goals
        go_wp2
        have z5 := o5.size
        have on5 := on4.trans o5
        refine bodyPost_ret (v := .tuple #[.slice (some ⟨gb, off, none⟩) l.length c2, av x y]) (by simp [results, Try.results43, go_sem, kc0, kc1]) rfl ?_
        refine ⟨_, c2, l, x, y, rfl, hl, ?_, ((t1.trans (on5.below (Nat.le_succ _) t1.size)).setCell (Nat.le_refl _) _).setCell (Nat.le_refl _) _⟩
        have O6 := (O5.out.chg (chg_set (g := w.heap.size) w5 (Nat.le_refl _) (Nat.lt_succ_self _) 0 (.int .i64 x)) (.inr (by omega))).chg (chg_set (g := w.heap.size) _ (Nat.le_refl _) (Nat.lt_succ_self _) 1 (.int .i64 y)) (.inr (by omega))
        exact O6.weak (by omega) (by simp [World.setCell]; omega)
    · go_wp2_with fail
      refine (l92Ask_any _ _ _ rd3 (by omega)).mono ?_
      rintro e w4 ⟨x, y, p4, rfl, rd4, hp4, o4⟩
      have k4 := hid (blk_only k3.out o4 (by omega))
      have O4 := hid (O3.out.chg o4 (.inr (by omega)))
      have on4 := on3.trans o4
      have z4 := o4.size
      have kc0 := k4.out.cell 0
      have kc1 := k4.out.cell 1
      have kf0 := k4.out.free 0
      have kf1 := k4.out.free 1
      simp only [List.getElem?_cons_zero, List.getElem?_cons_succ] at kc0 kc1
      clear rd3 k3 O3 on3 o4
      go_wp2
      refine bodyPost_ret (v := .tuple #[.slice A2 l.length c2, av x y]) (by simp [results, Try.results43, go_sem, kc0, kc1]) rfl ?_
      refine ⟨A2, c2, l, x, y, rfl, hl, ?_, ((t1.trans (on4.below (Nat.le_succ _) t1.size)).setCell (Nat.le_refl _) _).setCell (Nat.le_refl _) _⟩
      have O6 := (O4.out.chg (chg_set (g := w.heap.size) w4 (Nat.le_refl _) (Nat.lt_succ_self _) 0 (.int .i64 x)) (.inr (by omega))).chg (chg_set (g := w.heap.size) _ (Nat.le_refl _) (Nat.lt_succ_self _) 1 (.int .i64 y)) (.inr (by omega))
      exact O6.weak (by omega) (by simp [World.setCell]; omega)
  · have on3 : Only (w.heap.size + 1) w1 w2 := o2
    go_wp2_with fail
    refine (l92Ask_any _ _ _ rd2 (by omega)).mono ?_
    rintro e w4 ⟨x, y, p4, rfl, rd4, hp4, o4⟩
    have k4 := hid (blk_only k2.out o4 (by omega))
    have O4 := hid (O2.out.chg o4 (.inr (by omega)))
    have on4 := on3.trans o4
    have z4 := o4.size
    have kc0 := k4.out.cell 0
    have kc1 := k4.out.cell 1
    have kf0 := k4.out.free 0
    have kf1 := k4.out.free 1
    simp only [List.getElem?_cons_zero, List.getElem?_cons_succ] at kc0 kc1
    clear rd2 k2 O2 on3 o4 o2
    go_wp2
    refine bodyPost_ret (v := .tuple #[.slice A2 l.length c2, av x y]) (by simp [results, Try.results43, go_sem, kc0, kc1]) rfl ?_
    refine ⟨A2, c2, l, x, y, rfl, hl, ?_, ((t1.trans (on4.below (Nat.le_succ _) t1.size)).setCell (Nat.le_refl _) _).setCell (Nat.le_refl _) _⟩
    have O6 := (O4.out.chg (chg_set (g := w.heap.size) w4 (Nat.le_refl _) (Nat.lt_succ_self _) 0 (.int .i64 x)) (.inr (by omega))).chg (chg_set (g := w.heap.size) _ (Nat.le_refl _) (Nat.lt_succ_self _) 1 (.int .i64 y)) (.inr (by omega))
    exact O6.weak (by omega) (by simp [World.setCell]; omega)

end Go.Proofs.Ytjfpemneinclfaa
