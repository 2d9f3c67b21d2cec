/- Draws of numbers, of leaves. -/
import Derived.Test.YtpnahccmdebifaaF1
import Derived.Test.YtpnahccmdebifaaDrawB
import Derived.Test.YtpnahccmdebifaaAppZ
namespace Go.Proofs.Ytpnahccmdebifaa
open Go.RowKit

/-- A drawn number; the reader has gone on; only its block has changed. -/
def DrawnZ (w : World) (g p : Nat) (e : Ending) (w' : World) : Prop :=
  ∃ (z : Int) (p' : Nat), e = .returned (.int .i64 z) ∧ -1 ≤ z ∧ z ≤ 1000 ∧ Rd w' g p' ∧ p' ≤ p + 3 ∧ Only g w w'
/-- A drawn secret that is valid. -/
def DrawnG (w : World) (g p : Nat) (e : Ending) (w' : World) : Prop :=
  ∃ (z : Int) (p' : Nat), e = .returned (.int .i64 z) ∧ 1 ≤ z ∧ z ≤ 996 ∧ Rd w' g p' ∧ p' ≤ p + 3 ∧ Only g w w'

set_option maxHeartbeats 1000000 in
theorem l91Digest_any (g p : Nat) (w : World) (hr : Rd w g p) (hp : p ≤ 1000000000) :
    Calls Try.prog 32 #[.pointer (some ⟨g, 0, none⟩)] w (DrawnZ w g p) := by
  have hgl := hr.lt
  go_enter Try.func32, Try.ntmps32
  go_wp2_with fail
  refine (pick_any _ _ _ _ hr (by omega) (by omega)).mono ?_
  rintro e w1 ⟨s, rfl, -, -, -, r1, o1, -⟩
  clear hr
  by_cases hs : s = 0
  · have hb0 : (s == 0) = true := by rw [hs]; rfl
    clear hs
    have g1 : g < w1.heap.size := r1.lt
    have bA : Below w1.heap.size w1 (w1.alloc (.cells #[.int .i64 (-1), .int .i64 0, .int .i64 990, .int .i64 991] 3)) := (Below.refl _ _).alloc (Nat.le_refl _) _
    have q1 := hid (Blk.new w1 3 [.int .i64 (-1), .int .i64 0, .int .i64 990, .int .i64 991])
    have r2 := r1.below bA
    have on2 := only_step o1 bA o1.size
    go_wp2_with fail
    refine (pick_any _ _ _ _ r2 (by omega) (by omega)).mono ?_
    rintro e w3 ⟨m, rfl, m0, m1, -, r3, o3, -⟩
    have m1 := m1 (by omega)
    have q3 := hid (blk_only q1.out o3 (by omega))
    have c0 := q3.out.cell 0
    have c1 := q3.out.cell 1
    have c2 := q3.out.cell 2
    have c3 := q3.out.cell 3
    simp only [List.getElem?_cons_zero, List.getElem?_cons_succ] at c0 c1 c2 c3
    have on3 := on2.trans o3
    clear bA q1 r2 on2 o3 r1 o1
    obtain rfl | rfl | rfl | rfl : m = 0 ∨ m = 1 ∨ m = 2 ∨ m = 3 := by omega
    all_goals
      go_wp2
      go_ret
      exact ⟨_, _, rfl, by omega, by omega, r3, by omega, on3⟩
  · have hb0 : (s == 0) = false := by rw [beq_eq_false_iff_ne]; exact hs
    clear hs
    go_wp2_with fail
    refine (pick_any _ _ _ _ r1 (by omega) (by omega)).mono ?_
    rintro e w3 ⟨m, rfl, m0, m1, -, r3, o3, -⟩
    have m1 := m1 (by omega)
    go_wp2_with fail
    refine (pick_any _ _ _ _ r3 (by omega) (by omega)).mono ?_
    rintro e w4 ⟨n, rfl, n0, n1, -, r4, o4, -⟩
    have n1 := n1 (by omega)
    have on4 := (o1.trans o3).trans o4
    clear r1 o1 r3 o3 o4
    go_wp2
    go_ret
    exact ⟨_, _, rfl, by omega, by omega, r4, by omega, on4⟩

set_option maxHeartbeats 1000000 in
theorem l91Secret_any (g p : Nat) (w : World) (hr : Rd w g p) (hp : p ≤ 1000000000) :
    Calls Try.prog 24 #[.pointer (some ⟨g, 0, none⟩)] w (DrawnZ w g p) := by
  have hgl := hr.lt
  go_enter Try.func24, Try.ntmps24
  go_wp2_with fail
  refine (pick_any _ _ _ _ hr (by omega) (by omega)).mono ?_
  rintro e w1 ⟨s, rfl, -, -, -, r1, o1, -⟩
  clear hr
  by_cases hs : s = 0
  · have hb0 : (s == 0) = true := by rw [hs]; rfl
    clear hs
    have g1 : g < w1.heap.size := r1.lt
    have bA : Below w1.heap.size w1 (w1.alloc (.cells #[.int .i64 0, .int .i64 996, .int .i64 997, .int .i64 (-1)] 3)) := (Below.refl _ _).alloc (Nat.le_refl _) _
    have q1 := hid (Blk.new w1 3 [.int .i64 0, .int .i64 996, .int .i64 997, .int .i64 (-1)])
    have r2 := r1.below bA
    have on2 := only_step o1 bA o1.size
    go_wp2_with fail
    refine (pick_any _ _ _ _ r2 (by omega) (by omega)).mono ?_
    rintro e w3 ⟨m, rfl, m0, m1, -, r3, o3, -⟩
    have m1 := m1 (by omega)
    have q3 := hid (blk_only q1.out o3 (by omega))
    have c0 := q3.out.cell 0
    have c1 := q3.out.cell 1
    have c2 := q3.out.cell 2
    have c3 := q3.out.cell 3
    simp only [List.getElem?_cons_zero, List.getElem?_cons_succ] at c0 c1 c2 c3
    have on3 := on2.trans o3
    clear bA q1 r2 on2 o3 r1 o1
    obtain rfl | rfl | rfl | rfl : m = 0 ∨ m = 1 ∨ m = 2 ∨ m = 3 := by omega
    all_goals
      go_wp2
      go_ret
      exact ⟨_, _, rfl, by omega, by omega, r3, by omega, on3⟩
  · have hb0 : (s == 0) = false := by rw [beq_eq_false_iff_ne]; exact hs
    clear hs
    go_wp2_with fail
    refine (pick_any _ _ _ _ r1 (by omega) (by omega)).mono ?_
    rintro e w3 ⟨m, rfl, m0, m1, -, r3, o3, -⟩
    have m1 := m1 (by omega)
    go_wp2_with fail
    refine (pick_any _ _ _ _ r3 (by omega) (by omega)).mono ?_
    rintro e w4 ⟨n, rfl, n0, n1, -, r4, o4, -⟩
    have n1 := n1 (by omega)
    have on4 := (o1.trans o3).trans o4
    clear r1 o1 r3 o3 o4
    go_wp2
    go_ret
    exact ⟨_, _, rfl, by omega, by omega, r4, by omega, on4⟩

set_option maxHeartbeats 1000000 in
theorem l91Good_any (g p : Nat) (w : World) (hr : Rd w g p) (hp : p ≤ 1000000000) :
    Calls Try.prog 20 #[.pointer (some ⟨g, 0, none⟩)] w (DrawnG w g p) := by
  have hgl := hr.lt
  go_enter Try.func20, Try.ntmps20
  go_wp2_with fail
  refine (pick_any _ _ _ _ hr (by omega) (by omega)).mono ?_
  rintro e w3 ⟨m, rfl, m0, m1, -, r3, o3, -⟩
  have m1 := m1 (by omega)
  go_wp2_with fail
  refine (pick_any _ _ _ _ r3 (by omega) (by omega)).mono ?_
  rintro e w4 ⟨n, rfl, n0, n1, -, r4, o4, -⟩
  have n1 := n1 (by omega)
  have on4 := o3.trans o4
  clear hr r3 o3 o4
  go_wp2
  go_ret
  exact ⟨_, _, rfl, by omega, by omega, r4, by omega, on4⟩

/-- Drawn leaves. -/
def DrawnL (w : World) (g p : Nat) (e : Ending) (w' : World) : Prop :=
  ∃ (A : Option Addr) (c n : Nat) (l : List Int) (p' : Nat), e = .returned (.slice A n c) ∧ n ≤ 28 ∧ Hid (l.length = n) ∧ Own w' w.heap.size w'.heap.size 3 1 A c n (ints l) ∧ Rd w' g p' ∧ p' ≤ p + 100 ∧ Only g w w'
theorem drawnL_of {w w' : World} {g p p' : Nat} {A : Option Addr} {c n : Nat} {l : List Int} (hn : n ≤ 28) (hl : Hid (l.length = n)) (ho : w'.ownsRow w.heap.size 3 1 (.slice A n c) n (ints l)) (hr : Rd w' g p') (hp : p' ≤ p + 100) (hon : Only g w w') : DrawnL w g p (.returned (.slice A n c)) w' :=
  ⟨A, c, n, l, p', rfl, hn, hl, Own.of_row ho, hr, hp, hon⟩

set_option maxRecDepth 100000 in
set_option maxHeartbeats 2000000 in
theorem l91Leaves_any (g p : Nat) (w : World) (hr : Rd w g p) (hp : p ≤ 900000000) :
    Calls Try.prog 21 #[.pointer (some ⟨g, 0, none⟩)] w (DrawnL w g p) := by
  have hgl := hr.lt
  have b0 : Below w.heap.size w (w.alloc (.cells #[] 3)) := (Below.refl _ _).alloc (Nat.le_refl _) _
  have r0 := hr.below b0
  have own0 := hid (own_empty w 3 1 (Nat.le_refl _))
  have on0 : Only g w (w.alloc (.cells #[] 3)) := only_grown b0 (Nat.le_refl _)
  go_enter Try.func21, Try.ntmps21
  go_wp2_with fail
  refine (pick_any _ _ _ _ r0 (by omega) (by omega)).mono ?_
  rintro e w1 ⟨n, rfl, n0, n1, -, r1, o1, -⟩
  have n1 := n1 (by omega)
  have own1 := hid (own_only own0.out hgl o1)
  have on1 := on0.trans o1
  obtain ⟨N, rfl⟩ := Int.eq_ofNat_of_zero_le n0
  clear r0 own0 on0 o1 b0 hr
  go_wp2_with fail
  go_loopw [3, 5] (fun out i wr => ∃ (k : Nat) (A' : Option Addr) (c' : Nat) (l : List Int) (p' : Nat), k ≤ N ∧ i = .int .i64 k ∧ out = .slice A' k c' ∧ Hid (l.length = k) ∧ Hid (wr.ownsRow w.heap.size 3 1 (.slice A' k c') k (ints l)) ∧ Rd wr g p' ∧ p' ≤ p + 1 + 2 * k ∧ Only g w wr) (fun _ i _ => N - (intOf i).toNat)
  case atStart => exact ⟨0, _, _, [], p + 1, Nat.zero_le _, rfl, rfl, rfl, own1, r1, by omega, on1⟩
  case round =>
    clear own1 r1 on1
    obtain ⟨k, A', c', l, p', hk, rfl, rfl, hl, own, rd, hp', on⟩ := hrel
    by_cases hlt : k < N
    · go_wp2_with fail
      refine (pick_any _ _ _ _ rd (by omega) (by omega)).mono ?_
      rintro e w2 ⟨x, rfl, x0, x1, -, r2, o2, -⟩
      have x1 := x1 (by omega)
      go_wp2_with fail
      refine (pick_any _ _ _ _ r2 (by omega) (by omega)).mono ?_
      rintro e w3 ⟨y, rfl, y0, y1, -, r3, o3, -⟩
      have y1 := y1 (by omega)
      have own3 := hid (own_only (own_only own.out hgl o2) hgl o3)
      have on3 := (on.trans o2).trans o3
      have hs3 := on3.size
      clear own rd on r2 o2 o3
      go_wp2_with (at_builtin; refine wpList_app rfl (.tmp 14) (.tmp 21) 25 rfl w.heap.size Try.underlying25 info_int rfl (by omega) (by omega) A' k c' _ rfl (own3.out.alloc _) (some ⟨w3.heap.size, 0, none⟩) 1 1 [.int .i64 (10 * x + y)] rfl rfl (cells_one _ _ _) (one_int _) (k + 1) (ints (l ++ [10 * x + y])) rfl (ints_snoc _ _) (by omega) (by simp; omega) ?_; intro A5 c5 w5 ho5 hb5)
      have hgr := ((Below.refl w.heap.size w3).alloc hs3 (.cells #[.int .i64 (10 * x + y)] 3)).trans hb5
      go_roundw
      case rel => exact ⟨k + 1, A5, c5, _, _, by omega, by go_num, rfl, by unfold Hid; rw [List.length_append, hl.out]; rfl, ho5, rd_grown r3 hgr hgl, by omega, only_step on3 hgr (Nat.le_refl _)⟩
      case measure => simp [intOf]; omega
    · obtain rfl : k = N := by omega
      clear hlt
      go_wp2_with fail
      refine (pick_any _ _ _ _ rd (by omega) (by omega)).mono ?_
      rintro e w2 ⟨s, rfl, -, -, -, r2, o2, -⟩
      have own2 := hid (own_only own.out hgl o2)
      have on2 := on.trans o2
      clear own rd on o2
      by_cases h0 : s = 0
      · have hb0 : (s == 0) = true := by rw [h0]; rfl
        clear h0
        by_cases hk0 : 0 < k
        · go_wp2_with fail
          refine (pick_any _ _ _ _ r2 (by omega) (by omega)).mono ?_
          rintro e w3 ⟨x, rfl, x0, x1, -, r3, o3, -⟩
          have x1 := x1 (by omega)
          go_wp2_with fail
          refine (l91Digest_any _ _ _ r3 (by omega)).mono ?_
          rintro e w4 ⟨z, p4, rfl, z0, z1, r4, hp4, o4⟩
          have own4 := hid (own_only (own_only own2.out hgl o3) hgl o4)
          have on4 := (on2.trans o3).trans o4
          have hs4 := on4.size
          obtain ⟨X, rfl⟩ := Int.eq_ofNat_of_zero_le x0
          obtain ⟨g9, hA9, hlo9, hhi9, h9, hf9⟩ := (Own.of_row own4.out).int_of (k := X) (z := l[X]'(by rw [hl.out]; omega)) (List.getElem?_eq_getElem _)
          subst hA9
          have hXk : X < k := by omega
          clear own2 r2 on2 r3 o3 o4
          go_wp2
          go_ret
          have OS := (Own.of_row own4.out).set X (.int .i64 z)
          rw [ints_set] at OS
          exact drawnL_of (l := l.set X z) (by omega) (by unfold Hid; rw [List.length_set]; exact hl.out) OS.row (rd_set r4 (by omega) _ _) (by omega) (only_set on4 hlo9 _ _)
        · go_wp2
          go_ret
          exact drawnL_of (by omega) hl own2.out r2 (by omega) on2
      · have hb0 : (s == 0) = false := by rw [beq_eq_false_iff_ne]; exact h0
        clear h0
        by_cases h1 : s = 1
        · have hb1 : (s == 1) = true := by rw [h1]; rfl
          subst h1
          have hs2 := on2.size
          go_wp2_with (refine wpList_zeros rfl (.tmp 38) (.const (.int .i64 12)) 25 3 rfl w.heap.size Try.underlying25 Try.underlying3 info_int rfl rfl (by omega) A' k c' _ rfl own2.out 12 rfl (by omega) (by omega) hs2 ?_; intro A5 c5 w5 ho5 hb5)
          go_ret
          refine drawnL_of (l := l ++ List.replicate 12 0) (by omega) (by unfold Hid; rw [List.length_append, hl.out, List.length_replicate]) ?_ (rd_grown r2 hb5 hgl) (by omega) (only_step on2 hb5 (Nat.le_refl _))
          have e : ints (l ++ List.replicate 12 0) = ints l ++ List.replicate 12 (.int .i64 0) := by simp [ints]
          rw [e]
          exact ho5
        · have hb1 : (s == 1) = false := by rw [beq_eq_false_iff_ne]; exact h1
          clear h1
          go_wp2
          go_ret
          exact drawnL_of (by omega) hl own2.out r2 (by omega) on2

end Go.Proofs.Ytpnahccmdebifaa
