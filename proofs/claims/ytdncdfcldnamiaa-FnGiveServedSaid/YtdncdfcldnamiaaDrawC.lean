/- The draws of chapter 23: some numbers, a peer, a turn. -/
import Derived.Test.YtdncdfcldnamiaaDrawGiven
namespace Go.Proofs.Ytdncdfcldnamiaa
open Go.RowKit

def SomeInts (w : World) (most : Nat) (e : Ending) (w' : World) : Prop :=
  ∃ A c zs, e = .returned (.slice A zs.length c) ∧ zs.length ≤ most ∧ Own w' w.heap.size w'.heap.size 3 1 A c zs.length (ints zs) ∧ Below w.heap.size w w'
def SomeIntsI (w : World) (most : Nat) (e : Ending) (w' : World) : Prop :=
  ∃ A c zs, ∃ n : Int, e = .returned (.tuple #[.slice A zs.length c, .int .i64 n]) ∧ zs.length ≤ most ∧ -10 ≤ n ∧ n ≤ 1000 ∧ Own w' w.heap.size w'.heap.size 3 1 A c zs.length (ints zs) ∧ Below w.heap.size w w'

set_option maxHeartbeats 400000 in
theorem drawFade_any (A : Option Addr) (c : Nat) (us : List Int) (w : World) (hr : Cells w A (bytes us)) (hu : ∀ u ∈ us, 0 ≤ u ∧ u ≤ 255) (hc : us.length ≤ c) (hm : us.length ≤ 17592186044416) :
    Calls Try.prog 25 #[.slice A us.length c] w (SomeInts w 7) := by
  have Hu := hid hu
  clear hu
  go_enter Try.func25, Try.ntmps25
  go_wp2_with fail
  refine (l6Open_any _ _ _ _ hr Hu.out hc hm).mono ?_
  rintro e w1 ⟨rfl, rd, b1⟩
  go_wp2_with fail
  refine (l92Given_any _ _ _ rd (by omega)).mono ?_
  rintro e w2 ⟨A2, c2, zs, p', rfl, hl, own, rd2, hp', on⟩
  have b2 := on.below (Nat.le_refl _) b1.size
  go_wp2_with fail
  go_ret
  exact ⟨A2, c2, zs, rfl, hl, own.weak b1.size (Nat.le_refl _), b1.trans b2⟩

set_option maxHeartbeats 1000000 in
theorem drawGive_any (A : Option Addr) (c : Nat) (us : List Int) (w : World) (hr : Cells w A (bytes us)) (hu : ∀ u ∈ us, 0 ≤ u ∧ u ≤ 255) (hc : us.length ≤ c) (hm : us.length ≤ 17592186044416) :
    Calls Try.prog 27 #[.slice A us.length c] w (SomeIntsI w 7) := by
  have Hu := hid hu
  clear hu
  go_enter Try.func27, Try.ntmps27
  go_wp2_with fail
  refine (l6Open_any _ _ _ _ hr Hu.out hc hm).mono ?_
  rintro e w1 ⟨rfl, rd, b1⟩
  go_wp2_with fail
  refine (l92Given_any _ _ _ rd (by omega)).mono ?_
  rintro e w2 ⟨A2, c2, zs, p', rfl, hl, own, rd2, hp', on⟩
  have hlt : w.heap.size < w1.heap.size := rd.lt
  by_cases h0 : zs.length < 1
  all_goals
    go_wp2_with fail
    refine (pick_any _ _ _ _ rd2 (by omega) (by omega)).mono ?_
    rintro e w3 ⟨m1, rfl, a0, a1, -, r3, o3, -⟩
    have a1 := a1 (by omega)
    go_wp2_with fail
    refine (pick_any _ _ _ _ r3 (by omega) (by omega)).mono ?_
    rintro e w4 ⟨m2, rfl, d0, d1, -, r4, o4, -⟩
    have d1 := d1 (by omega)
    go_wp2_with fail
    refine (pick_any _ _ _ _ r4 (by omega) (by omega)).mono ?_
    rintro e w5 ⟨m3, rfl, f0, f1, -, r5, o5, -⟩
    have f1 := f1 (by omega)
    have own5 := ((own.chg o3 (.inr (by omega))).chg o4 (.inr (by omega))).chg o5 (.inr (by omega))
    have on5 := ((on.trans o3).trans o4).trans o5
    have b5 := b1.trans (on5.below (Nat.le_refl _) b1.size)
    have s5 := o5.size
    have s4 := o4.size
    have s3 := o3.size
    have own6 := hid own5
    clear own5 own
    go_wp2_with fail
    go_ret2
    exact ⟨A2, c2, zs, _, rfl, hl, by omega, by omega, own6.out.weak b1.size (by omega), b5⟩

set_option maxHeartbeats 1000000 in
theorem drawServed_any (A : Option Addr) (c : Nat) (us : List Int) (w : World) (hr : Cells w A (bytes us)) (hu : ∀ u ∈ us, 0 ≤ u ∧ u ≤ 255) (hc : us.length ≤ c) (hm : us.length ≤ 17592186044416) :
    Calls Try.prog 28 #[.slice A us.length c] w (SomeIntsI w 7) := by
  have Hu := hid hu
  clear hu
  go_enter Try.func28, Try.ntmps28
  go_wp2_with fail
  refine (l6Open_any _ _ _ _ hr Hu.out hc hm).mono ?_
  rintro e w1 ⟨rfl, rd, b1⟩
  go_wp2_with fail
  refine (l92Given_any _ _ _ rd (by omega)).mono ?_
  rintro e w2 ⟨A2, c2, zs, p', rfl, hl, own, rd2, hp', on⟩
  have hlt : w.heap.size < w1.heap.size := rd.lt
  go_wp2_with fail
  refine (pick_any _ _ _ _ rd2 (by omega) (by omega)).mono ?_
  rintro e w3 ⟨m1, rfl, a0, a1, -, r3, o3, -⟩
  have a1 := a1 (by omega)
  go_wp2_with fail
  refine (pick_any _ _ _ _ r3 (by omega) (by omega)).mono ?_
  rintro e w4 ⟨m2, rfl, d0, d1, -, r4, o4, -⟩
  have d1 := d1 (by omega)
  go_wp2_with fail
  refine (pick_any _ _ _ _ r4 (by omega) (by omega)).mono ?_
  rintro e w5 ⟨m3, rfl, f0, f1, -, r5, o5, -⟩
  have f1 := f1 (by omega)
  have own5 := ((own.chg o3 (.inr (by omega))).chg o4 (.inr (by omega))).chg o5 (.inr (by omega))
  have on5 := ((on.trans o3).trans o4).trans o5
  have b5 := b1.trans (on5.below (Nat.le_refl _) b1.size)
  have s5 := o5.size
  have s4 := o4.size
  have s3 := o3.size
  have own6 := hid own5
  clear own5 own
  go_wp2_with fail
  go_ret2
  exact ⟨A2, c2, zs, _, rfl, hl, by omega, by omega, own6.out.weak b1.size (by omega), b5⟩

set_option maxHeartbeats 400000 in
theorem drawTurn_any (A : Option Addr) (c : Nat) (us : List Int) (w : World) (hr : Cells w A (bytes us)) (hu : ∀ u ∈ us, 0 ≤ u ∧ u ≤ 255) (hc : us.length ≤ c) (hm : us.length ≤ 17592186044416) :
    Calls Try.prog 34 #[.slice A us.length c] w (SomeIntsI w 7) := by
  have Hu := hid hu
  clear hu
  go_enter Try.func34, Try.ntmps34
  go_wp2_with fail
  refine (drawServed_any _ _ _ _ hr Hu.out hc hm).mono ?_
  rintro e w1 ⟨A2, c2, zs, n, rfl, hl, h1, h2, own, b⟩
  go_wp2_with fail
  go_ret2
  exact ⟨A2, c2, zs, _, rfl, hl, h1, h2, own, b⟩

end Go.Proofs.Ytdncdfcldnamiaa
