/- The draws of chapter 13, from a code. -/
import Derived.Test.YtihjjnmhionibaaDrawJ2
namespace Go.Proofs.Ytihjjnmhionibaa
open Go.RowKit

def SomeJ (w : World) (e : Ending) (w' : World) : Prop :=
  ∃ (A : Option Addr) (c n : Nat) (s : Int) (l : List RecT), e = .returned (jv A n c s) ∧ n ≤ 30 ∧ Hid (l.length = n) ∧ Hid (SmallT l) ∧ Own w' w.heap.size w'.heap.size 35 2 A c n (recs l) ∧ Below w.heap.size w w'
def SomeJR (w : World) (e : Ending) (w' : World) : Prop :=
  ∃ (A : Option Addr) (c n : Nat) (s : Int) (l : List RecT) (i : Int) (t : ByteArray), e = .returned (.tuple #[jv A n c s, rv i t]) ∧ n ≤ 30 ∧ t.size ≤ 10 ∧ Hid (l.length = n) ∧ Hid (SmallT l) ∧ Own w' w.heap.size w'.heap.size 35 2 A c n (recs l) ∧ Below w.heap.size w w'
def SomeJI (w : World) (e : Ending) (w' : World) : Prop :=
  ∃ (A : Option Addr) (c n : Nat) (s : Int) (l : List RecT) (x : Int), e = .returned (.tuple #[jv A n c s, .int .i64 x]) ∧ n ≤ 30 ∧ -100 ≤ x ∧ x ≤ 100 ∧ Hid (l.length = n) ∧ Hid (SmallT l) ∧ Own w' w.heap.size w'.heap.size 35 2 A c n (recs l) ∧ Below w.heap.size w w'
theorem own_sets {w W : World} {A : Option Addr} {c n : Nat} {l : List RecT} {g : Nat} (h : Own W (w.heap.size + 1) W.heap.size 35 2 A c n (recs l)) (hg : g ≤ w.heap.size) (i : Nat) (u : Value) : Own (W.setCell ⟨g, i, none⟩ u) (w.heap.size + 1) (W.setCell ⟨g, i, none⟩ u).heap.size 35 2 A c n (recs l) :=
  (own_set_ne h (by omega) i u).weak (Nat.le_refl _) (by simp [World.setCell])

set_option maxHeartbeats 1000000 in
theorem drawSync_any (A : Option Addr) (c : Nat) (us : List Int) (w : World) (hr : Cells w A (bytes us)) (hu : ∀ u ∈ us, 0 ≤ u ∧ u ≤ 255) (hc : us.length ≤ c) (hm : us.length ≤ 17592186044416) :
    Calls Try.prog 27 #[.slice A us.length c] w (SomeJ w) := by
  have Hu := hid hu
  clear hu
  have b0 : Below w.heap.size w (w.alloc (.cells #[.slice none 0 0, .int .i64 0] 29)) := (Below.refl _ _).alloc (Nat.le_refl _) _
  have k0 := hid (Blk.new w 29 (JB none 0 0 0))
  go_enter Try.func27, Try.ntmps27
  go_wp2_with fail
  refine (l6Open_any _ _ _ _ (hr.below b0) Hu.out hc hm).mono ?_
  rintro e w1 ⟨rfl, rd, b1⟩
  have k1 := hid (k0.out.below b1 k0.out.lt)
  have s1 : w.heap.size + 1 < w1.heap.size := by have := rd.lt; simpa using this
  have g1 : (w.alloc (.cells #[.slice none 0 0, .int .i64 0] 29)).heap.size = w.heap.size + 1 := by simp
  rw [g1] at rd
  have t1 := below_step b0 b1
  clear b1 k0 hr g1
  go_wp2_with fail
  refine (l91Journal_any _ _ _ rd (by omega)).mono ?_
  rintro e w2 ⟨A2, c2, n, s, l, p2, rfl, hn, hl, hsm, own2, rd2, hp2, o2⟩
  obtain ⟨k20, k21, kf0, kf1⟩ := (blk_only k1.out o2 (by omega)).two
  have O2 := hid own2
  have on2 := hid (t1.trans (o2.below (Nat.le_succ _) t1.size))
  clear own2 rd
  go_wp2
  refine bodyPost_ret (v := jv A2 n c2 s) (by simp [results, Try.results27, go_sem, k20, k21]) rfl ?_
  exact ⟨A2, c2, n, s, l, rfl, hn, hl, hsm, (own_set_ne (own_set_ne O2.out (by omega) _ _) (by omega) _ _).weak (by omega) (by simp [World.setCell]), (on2.out.setCell (Nat.le_refl _) _).setCell (Nat.le_refl _) _⟩

theorem keep_bd {a b : Int} (a0 : 0 ≤ a) (a1 : a < 6) (b0 : 0 ≤ b) (b1 : b < 20) : -100 ≤ IntKind.i64.wrap (a - IntKind.i64.wrap (IntKind.i64.wrap (b.tdiv 19) * 6)) ∧ IntKind.i64.wrap (a - IntKind.i64.wrap (IntKind.i64.wrap (b.tdiv 19) * 6)) ≤ 100 := by
  rw [Int.tdiv_eq_ediv_of_nonneg b0]
  have h1 : IntKind.i64.wrap (b / 19) = b / 19 := IntWalk.i64_in _ (by omega)
  rw [h1]
  have h2 : IntKind.i64.wrap (b / 19 * 6) = b / 19 * 6 := IntWalk.i64_in _ (by omega)
  rw [h2]
  have h3 : IntKind.i64.wrap (a - b / 19 * 6) = a - b / 19 * 6 := IntWalk.i64_in _ (by omega)
  rw [h3]
  omega
theorem length_bd {a b d : Int} (a0 : 0 ≤ a) (a1 : a < 17) (b0 : 0 ≤ b) (b1 : b < 20) (d0 : 0 ≤ d) (d1 : d < 20) :
    -100 ≤ IntKind.i64.wrap (IntKind.i64.wrap (a + IntKind.i64.wrap (b.tdiv 19)) - IntKind.i64.wrap (IntKind.i64.wrap (d.tdiv 19) * 2)) ∧ IntKind.i64.wrap (IntKind.i64.wrap (a + IntKind.i64.wrap (b.tdiv 19)) - IntKind.i64.wrap (IntKind.i64.wrap (d.tdiv 19) * 2)) ≤ 100 := by
  rw [Int.tdiv_eq_ediv_of_nonneg b0, Int.tdiv_eq_ediv_of_nonneg d0]
  have h1 : IntKind.i64.wrap (b / 19) = b / 19 := IntWalk.i64_in _ (by omega)
  have h2 : IntKind.i64.wrap (d / 19) = d / 19 := IntWalk.i64_in _ (by omega)
  rw [h1, h2]
  have h3 : IntKind.i64.wrap (a + b / 19) = a + b / 19 := IntWalk.i64_in _ (by omega)
  have h4 : IntKind.i64.wrap (d / 19 * 2) = d / 19 * 2 := IntWalk.i64_in _ (by omega)
  rw [h3, h4]
  have h5 : IntKind.i64.wrap (a + b / 19 - d / 19 * 2) = a + b / 19 - d / 19 * 2 := IntWalk.i64_in _ (by omega)
  rw [h5]
  omega

set_option maxHeartbeats 2000000 in
theorem drawCrash_any (A : Option Addr) (c : Nat) (us : List Int) (w : World) (hr : Cells w A (bytes us)) (hu : ∀ u ∈ us, 0 ≤ u ∧ u ≤ 255) (hc : us.length ≤ c) (hm : us.length ≤ 17592186044416) :
    Calls Try.prog 31 #[.slice A us.length c] w (SomeJI w) := by
  have Hu := hid hu
  clear hu
  have b0 : Below w.heap.size w (w.alloc (.cells #[.slice none 0 0, .int .i64 0] 29)) := (Below.refl _ _).alloc (Nat.le_refl _) _
  have k0 := hid (Blk.new w 29 (JB none 0 0 0))
  go_enter Try.func31, Try.ntmps31
  go_wp2_with fail
  refine (l6Open_any _ _ _ _ (hr.below b0) Hu.out hc hm).mono ?_
  rintro e w1 ⟨rfl, rd, b1⟩
  have k1 := hid (k0.out.below b1 k0.out.lt)
  have s1 : w.heap.size + 1 < w1.heap.size := by have := rd.lt; simpa using this
  have g1 : (w.alloc (.cells #[.slice none 0 0, .int .i64 0] 29)).heap.size = w.heap.size + 1 := by simp
  rw [g1] at rd
  have t1 := below_step b0 b1
  clear b1 k0 hr g1
  go_wp2_with fail
  refine (l91Journal_any _ _ _ rd (by omega)).mono ?_
  rintro e w2 ⟨A2, c2, n, s, l, p2, rfl, hn, hl, hsm, own2, rd2, hp2, o2⟩
  have z2 : w1.heap.size ≤ w2.heap.size := o2.size
  have bA : Below w2.heap.size w2 (w2.alloc (.cells #[.slice A2 n c2, .int .i64 s] 29)).drew := ((Below.refl _ _).alloc (Nat.le_refl _) _).drew
  have k4 := hid ((blk_only k1.out o2 (by omega)).below bA (by omega))
  have j4 : Hid (Blk (w2.alloc (.cells #[.slice A2 n c2, .int .i64 s] 29)).drew w2.heap.size 29 (JB A2 n c2 s)) := Blk.new w2 29 (JB A2 n c2 s)
  have O4 := hid (own2.belowB bA (Nat.le_refl _))
  have on4 := hid (only_step (g := w.heap.size + 1) o2 bA z2)
  have rd4 := hid (rd2.below bA)
  obtain ⟨jc0, jc1, -, -⟩ := j4.out.two
  clear rd rd2 own2 k1 o2
  have hp4 : p2 ≤ 1000 := by omega
  go_wp2_with fail
  go_region_with (first | (go_at_call 60; ((with_reducible refine (pick_any _ _ _ _ rd4.out (by omega) (by omega)).mono ?_); rintro e w5 ⟨m5, rfl, a5, d5, -, r5, o5, -⟩; have d5 := d5 (by omega); have k5 := hid (blk_only k4.out o5 (by omega)); have j5 := hid (blk_only j4.out o5 (by omega)); have O5 := hid (O4.out.chg o5 (.inr (by omega))); have on5 := hid (on4.out.trans o5); have z5 := o5.size; obtain ⟨k50, k51, k5f0, k5f1⟩ := k5.out.two; obtain ⟨j50, j51, -, -⟩ := j5.out.two)) | (go_at_call 60; ((with_reducible refine (pick_any _ _ _ _ r5 (by omega) (by omega)).mono ?_); rintro e w6 ⟨m6, rfl, a6, d6, -, r6, o6, -⟩; have d6 := d6 (by omega); have k6 := hid (blk_only k5.out o6 (by omega)); have j6 := hid (blk_only j5.out o6 (by omega)); have O6 := hid (O5.out.chg o6 (.inr (by omega))); have on6 := hid (on5.out.trans o6); have z6 := o6.size; obtain ⟨k60, k61, k6f0, k6f1⟩ := k6.out.two; obtain ⟨j60, j61, -, -⟩ := j6.out.two)))
  all_goals
    have z4 := bA.size
    obtain ⟨q0, q1, -, -⟩ := k6.out.two
    go_wp2_with fail
    refine bodyPost_ret (v := .tuple #[jv A2 n c2 s, .int .i64 (IntKind.i64.wrap (m5 - IntKind.i64.wrap (IntKind.i64.wrap (m6.tdiv 19) * 6)))]) (by simp [results, Try.results31, go_sem, q0, q1]) rfl ?_
    have hx := keep_bd a5 d5 a6 d6
    exact ⟨A2, c2, n, s, l, _, rfl, hn, hx.1, hx.2, hl, hsm, (own_set_ne (own_set_ne O6.out (by omega) _ _) (by omega) _ _).weak (by omega) (by simp [World.setCell] <;> omega), ((t1.trans (on6.out.below (Nat.le_succ _) t1.size)).setCell (Nat.le_refl _) _).setCell (Nat.le_refl _) _⟩


set_option maxHeartbeats 2000000 in
theorem drawBlocks_any (A : Option Addr) (c : Nat) (us : List Int) (w : World) (hr : Cells w A (bytes us)) (hu : ∀ u ∈ us, 0 ≤ u ∧ u ≤ 255) (hc : us.length ≤ c) (hm : us.length ≤ 17592186044416) :
    Calls Try.prog 36 #[.slice A us.length c] w (SomeJI w) := by
  have Hu := hid hu
  clear hu
  have b0 : Below w.heap.size w (w.alloc (.cells #[.slice none 0 0, .int .i64 0] 29)) := (Below.refl _ _).alloc (Nat.le_refl _) _
  have k0 := hid (Blk.new w 29 (JB none 0 0 0))
  go_enter Try.func36, Try.ntmps36
  go_wp2_with fail
  refine (l6Open_any _ _ _ _ (hr.below b0) Hu.out hc hm).mono ?_
  rintro e w1 ⟨rfl, rd, b1⟩
  have k1 := hid (k0.out.below b1 k0.out.lt)
  have s1 : w.heap.size + 1 < w1.heap.size := by have := rd.lt; simpa using this
  have g1 : (w.alloc (.cells #[.slice none 0 0, .int .i64 0] 29)).heap.size = w.heap.size + 1 := by simp
  rw [g1] at rd
  have t1 := below_step b0 b1
  clear b1 k0 hr g1
  go_wp2_with fail
  refine (l91Journal_any _ _ _ rd (by omega)).mono ?_
  rintro e w2 ⟨A2, c2, n, s, l, p2, rfl, hn, hl, hsm, own2, rd2, hp2, o2⟩
  have z2 : w1.heap.size ≤ w2.heap.size := o2.size
  have bA : Below w2.heap.size w2 (w2.alloc (.cells #[.slice A2 n c2, .int .i64 s] 29)).drew := ((Below.refl _ _).alloc (Nat.le_refl _) _).drew
  have k4 := hid ((blk_only k1.out o2 (by omega)).below bA (by omega))
  have j4 : Hid (Blk (w2.alloc (.cells #[.slice A2 n c2, .int .i64 s] 29)).drew w2.heap.size 29 (JB A2 n c2 s)) := Blk.new w2 29 (JB A2 n c2 s)
  have O4 := hid (own2.belowB bA (Nat.le_refl _))
  have on4 := hid (only_step (g := w.heap.size + 1) o2 bA z2)
  have rd4 := hid (rd2.below bA)
  obtain ⟨jc0, jc1, -, -⟩ := j4.out.two
  clear rd rd2 own2 k1 o2
  have hp4 : p2 ≤ 1000 := by omega
  go_wp2_with fail
  go_region_with (first | (go_at_call 60; ((with_reducible refine (pick_any _ _ _ _ rd4.out (by omega) (by omega)).mono ?_); rintro e w5 ⟨m5, rfl, a5, d5, -, r5, o5, -⟩; have d5 := d5 (by omega); have k5 := hid (blk_only k4.out o5 (by omega)); have j5 := hid (blk_only j4.out o5 (by omega)); have O5 := hid (O4.out.chg o5 (.inr (by omega))); have on5 := hid (on4.out.trans o5); have z5 := o5.size; obtain ⟨k50, k51, k5f0, k5f1⟩ := k5.out.two; obtain ⟨j50, j51, -, -⟩ := j5.out.two)) | (go_at_call 60; ((with_reducible refine (pick_any _ _ _ _ r5 (by omega) (by omega)).mono ?_); rintro e w6 ⟨m6, rfl, a6, d6, -, r6, o6, -⟩; have d6 := d6 (by omega); have k6 := hid (blk_only k5.out o6 (by omega)); have j6 := hid (blk_only j5.out o6 (by omega)); have O6 := hid (O5.out.chg o6 (.inr (by omega))); have on6 := hid (on5.out.trans o6); have z6 := o6.size; obtain ⟨k60, k61, k6f0, k6f1⟩ := k6.out.two; obtain ⟨j60, j61, -, -⟩ := j6.out.two)) | (go_at_call 60; ((with_reducible refine (pick_any _ _ _ _ r6 (by omega) (by omega)).mono ?_); rintro e w7 ⟨m7, rfl, a7, d7, -, r7, o7, -⟩; have d7 := d7 (by omega); have k7 := hid (blk_only k6.out o7 (by omega)); have j7 := hid (blk_only j6.out o7 (by omega)); have O7 := hid (O6.out.chg o7 (.inr (by omega))); have on7 := hid (on6.out.trans o7); have z7 := o7.size; obtain ⟨k70, k71, k7f0, k7f1⟩ := k7.out.two; obtain ⟨j70, j71, -, -⟩ := j7.out.two)))
  all_goals
    have z4 := bA.size
    obtain ⟨q0, q1, -, -⟩ := k7.out.two
    go_wp2_with fail
    refine bodyPost_ret (v := .tuple #[jv A2 n c2 s, .int .i64 (IntKind.i64.wrap (IntKind.i64.wrap (m5 + IntKind.i64.wrap (m6.tdiv 19)) - IntKind.i64.wrap (IntKind.i64.wrap (m7.tdiv 19) * 2)))]) (by simp [results, Try.results36, go_sem, q0, q1]) rfl ?_
    have hx := length_bd a5 d5 a6 d6 a7 d7
    exact ⟨A2, c2, n, s, l, _, rfl, hn, hx.1, hx.2, hl, hsm, (own_set_ne (own_set_ne O7.out (by omega) _ _) (by omega) _ _).weak (by omega) (by simp [World.setCell] <;> omega), ((t1.trans (on7.out.below (Nat.le_succ _) t1.size)).setCell (Nat.le_refl _) _).setCell (Nat.le_refl _) _⟩


set_option maxHeartbeats 2000000 in
theorem drawAdd_any (A : Option Addr) (c : Nat) (us : List Int) (w : World) (hr : Cells w A (bytes us)) (hu : ∀ u ∈ us, 0 ≤ u ∧ u ≤ 255) (hc : us.length ≤ c) (hm : us.length ≤ 17592186044416) :
    Calls Try.prog 23 #[.slice A us.length c] w (SomeJR w) := by
  have Hu := hid hu
  clear hu
  have b00 : Below w.heap.size w (w.alloc (.cells #[.slice none 0 0, .int .i64 0] 29)) := (Below.refl _ _).alloc (Nat.le_refl _) _
  have b01 : Below (w.alloc (.cells #[.slice none 0 0, .int .i64 0] 29)).heap.size (w.alloc (.cells #[.slice none 0 0, .int .i64 0] 29)) ((w.alloc (.cells #[.slice none 0 0, .int .i64 0] 29)).alloc (.cells #[.int .i64 0, .string ⟨#[]⟩] 35)) := (Below.refl _ _).alloc (Nat.le_refl _) _
  have b0 := below_step b00 b01
  have k0 := hid ((Blk.new w 29 (JB none 0 0 0)).below b01 (by simp))
  have q0 : Hid (Blk ((w.alloc (.cells #[.slice none 0 0, .int .i64 0] 29)).alloc (.cells #[.int .i64 0, .string ⟨#[]⟩] 35)) (w.heap.size + 1) 35 [.int .i64 0, .string ⟨#[]⟩]) := by
    have h := Blk.new (w.alloc (.cells #[.slice none 0 0, .int .i64 0] 29)) 35 [.int .i64 0, .string ⟨#[]⟩]
    simpa [Hid] using h
  clear b00 b01
  go_enter Try.func23, Try.ntmps23
  go_wp2_with fail
  have hrr := hid (hr.below b0)
  have g1 : ((w.alloc (.cells #[.slice none 0 0, .int .i64 0] 29)).alloc (.cells #[.int .i64 0, .string ⟨#[]⟩] 35)).heap.size = w.heap.size + 2 := by simp
  generalize ((w.alloc (.cells #[.slice none 0 0, .int .i64 0] 29)).alloc (.cells #[.int .i64 0, .string ⟨#[]⟩] 35)) = W0 at b0 k0 q0 hrr g1 ⊢
  have G1 := hid g1
  clear g1 hr
  refine (l6Open_any _ _ _ _ hrr.out Hu.out hc hm).mono ?_
  rintro e w1 ⟨rfl, rd, b1⟩
  have k1 := hid (k0.out.below b1 k0.out.lt)
  have q1 := hid (q0.out.below b1 q0.out.lt)
  have s1 : w.heap.size + 2 < w1.heap.size := by have := rd.lt; rw [G1.out] at this; exact this
  rw [G1.out] at rd ⊢
  have t1 := below_step b0 b1
  clear b1 k0 q0 hrr
  go_wp2_with fail
  refine (l91Journal_any _ _ _ rd (by omega)).mono ?_
  rintro e w2 ⟨A2, c2, n, s, l, p2, rfl, hn, hl, hsm, own2, rd2, hp2, o2⟩
  have z2 : w1.heap.size ≤ w2.heap.size := o2.size
  have bA : Below w2.heap.size w2 (w2.alloc (.cells #[.slice A2 n c2, .int .i64 s] 29)).drew := ((Below.refl _ _).alloc (Nat.le_refl _) _).drew
  have k4 := hid ((blk_only k1.out o2 (by omega)).below bA (by omega))
  have q4 := hid ((blk_only q1.out o2 (by omega)).below bA (by omega))
  have j4 : Hid (Blk (w2.alloc (.cells #[.slice A2 n c2, .int .i64 s] 29)).drew w2.heap.size 29 (JB A2 n c2 s)) := Blk.new w2 29 (JB A2 n c2 s)
  have O4 := hid (own2.belowB bA (Nat.le_refl _))
  have on4 := hid (only_step (g := w.heap.size + 2) o2 bA z2)
  have rd4 := hid (rd2.below bA)
  obtain ⟨jc0, jc1, -, -⟩ := j4.out.two
  clear rd rd2 own2 k1 q1 o2
  have hp4 : p2 ≤ 1000 := by omega
  go_wp2_with fail
  go_region_with (first | (go_at_call 57; ((with_reducible refine (l91Record_any _ _ _ rd4.out (by omega)).mono ?_); rintro e w5 ⟨i, t, p5, rfl, ht, r5, hp5, o5⟩; have k5 := hid (blk_only k4.out o5 (by omega)); have q5 := hid (blk_only q4.out o5 (by omega)); have j5 := hid (blk_only j4.out o5 (by omega)); have O5 := hid (O4.out.chg o5 (.inr (by omega))); have on5 := hid (on4.out.trans o5); have z5 := o5.size; obtain ⟨k50, k51, k5f0, k5f1⟩ := k5.out.two; obtain ⟨q50, q51, q5f0, q5f1⟩ := q5.out.two; obtain ⟨j50, j51, -, -⟩ := j5.out.two)))
  all_goals
    have z4 := bA.size
    go_wp2_with fail
    refine bodyPost_ret (v := .tuple #[jv A2 n c2 s, rv i t]) (by simp [results, Try.results23, go_sem, k50, k51, q50, q51]) rfl ?_
    exact ⟨A2, c2, n, s, l, i, t, rfl, hn, ht, hl, hsm, (own_set_ne (own_set_ne (own_set_ne (own_set_ne O5.out (by omega) _ _) (by omega) _ _) (by omega) _ _) (by omega) _ _).weak (by omega) (by simp [World.setCell] <;> omega), ((((t1.trans (on5.out.below (by omega) t1.size)).setCell (Nat.le_refl _) _).setCell (Nat.le_refl _) _).setCell (by simp) _).setCell (by simp) _⟩

end Go.Proofs.Ytihjjnmhionibaa
