/- The draws of chapter 21. -/
import Derived.Test.YtjfpemneinclfaaW11
import Derived.Test.YtjfpemneinclfaaDraw
namespace Go.Proofs.Ytjfpemneinclfaa
open Go.RowKit

theorem own_only {w w' : World} {base g : Nat} {e : TypeId} {size n : Nat} {v : Value} {xs : List Value} (h : w.ownsRow base e size v n xs) (hg : g < base) (hc : Only g w w') : w'.ownsRow base e size v n xs := by
  refine ⟨h.1, ?_⟩
  rcases h.2 with hv | ⟨k, cap, cur, hv, hk, hh, r⟩
  · exact .inl hv
  · exact .inr ⟨k, cap, cur, hv, hk, by rw [hc.block k (Array.getElem?_eq_some_iff.1 hh).1 (.inr (by omega))]; exact hh, r⟩
theorem rd_grown {w w' : World} {g p B : Nat} (h : Rd w g p) (hb : Below B w w') (hB : g < B) : Rd w' g p := by
  obtain ⟨A, c, us, hk, hc, hu, hl⟩ := h
  refine ⟨A, c, us, hk.below hb hB, ?_, hu, hl⟩
  rcases hc with hc | ⟨b, off, hA, h1, h2, h3⟩
  · exact .inl hc
  · exact .inr ⟨b, off, hA, h1, by have := hb.size; omega, fun i v hv => (hb.cell (p := ⟨b, off + i, none⟩) (show b < B by omega)).trans (h3 i v hv)⟩
theorem only_grown {g B : Nat} {w w' : World} (hb : Below B w w') (hB : w.heap.size ≤ B) : Only g w w' :=
  ⟨hb.os, hb.tape, hb.output, hb.size, fun k hk _ => hb.block k (by omega)⟩
theorem only_step {g B : Nat} {a w w' : World} (h : Only g a w) (hb : Below B w w') (hB : a.heap.size ≤ B) : Only g a w' :=
  ⟨hb.os.trans h.os, hb.tape.trans h.tape, hb.output.trans h.output, Nat.le_trans h.size hb.size, fun k hk hd => (hb.block k (by omega)).trans (h.block k hk hd)⟩
theorem only_set {g gb : Nat} {a w : World} (h : Only g a w) (hB : a.heap.size ≤ gb) (i : Nat) (u : Value) : Only g a (w.setCell ⟨gb, i, none⟩ u) :=
  ⟨h.os, h.tape, h.output, by simpa [World.setCell] using h.size, fun k hk hd => (Below.heap_setCell _ _ _ _ (by simp; omega)).trans (h.block k hk hd)⟩
theorem blk_only {w w' : World} {g b : Nat} {t : TypeId} {xs : List Value} (h : Blk w b t xs) (ho : Only g w w') (hd : b ≠ g) : Blk w' b t xs := (ho.block b h.lt (by omega)).trans h
theorem rd_set {w : World} {g p gb : Nat} (h : Rd w g p) (hd : g < gb) (i : Nat) (u : Value) : Rd (w.setCell ⟨gb, i, none⟩ u) g p := h.chg (chg_set w (Nat.le_refl gb) (Nat.lt_succ_self gb) i u) hd

/-- A drawn request; the reader has gone on; only its block has changed. -/
def DrawnAsk (w : World) (g p : Nat) (e : Ending) (w' : World) : Prop :=
  ∃ x y : Int, ∃ p' : Nat, e = .returned (av x y) ∧ Rd w' g p' ∧ p' ≤ p + 10 ∧ Only g w w'

set_option maxHeartbeats 1000000 in
theorem l92Ask_any (g p : Nat) (w : World) (hr : Rd w g p) (hp : p ≤ 1000000000) :
    Calls Try.prog 57 #[.pointer (some ⟨g, 0, none⟩)] w (DrawnAsk w g p) := by
  have hgl := hr.lt
  have b0 : Below w.heap.size w (w.alloc (.cells #[.int .i64 0, .int .i64 0] 34)) := (Below.refl _ _).alloc (Nat.le_refl _) _
  have r0 := hr.below b0
  have k0 := hid (Blk.new w 34 [.int .i64 0, .int .i64 0])
  have on0 : Only g w (w.alloc (.cells #[.int .i64 0, .int .i64 0] 34)) := only_grown b0 (Nat.le_refl _)
  go_enter Try.func57, Try.ntmps57
  go_wp2_with fail
  refine (pick_any _ _ _ _ r0 (by omega) (by omega)).mono ?_
  rintro e w1 ⟨m1, rfl, -, -, -, r1, o1, -⟩
  go_wp2_with fail
  refine (pick_any _ _ _ _ r1 (by omega) (by omega)).mono ?_
  rintro e w2 ⟨m2, rfl, -, -, -, r2, o2, -⟩
  have on2 := (on0.trans o1).trans o2
  have k2 := hid (blk_only (blk_only k0.out o1 (by omega)) o2 (by omega))
  have s2 : w.heap.size < w2.heap.size := k2.out.lt
  have b3 : Below w2.heap.size w2 (w2.alloc (.cells #[.int .i64 m1, .int .i64 m2] 34)) := (Below.refl _ _).alloc (Nat.le_refl _) _
  have r3 := r2.below b3
  have k3 := hid (k2.out.below b3 s2)
  have j3 := hid (Blk.new w2 34 [.int .i64 m1, .int .i64 m2])
  have on3 := only_step on2 b3 (Nat.le_of_lt s2)
  clear r0 k0 on0 r1 o1 o2 on2 k2 r2 hr
  go_wp2_with fail
  refine (pick_any _ _ _ _ r3 (by omega) (by omega)).mono ?_
  rintro e w4 ⟨s, rfl, s0, -, -, r4, o4, -⟩
  have on4 := on3.trans o4
  have k4 := hid (blk_only k3.out o4 (by omega))
  have j4 := hid (blk_only j3.out o4 (by omega))
  clear r3 k3 j3 on3 o4 b3 b0
  by_cases h0 : s = 0
  · have hb0 : (s == 0) = true := by rw [h0]; rfl
    clear h0
    go_wp2_with fail
    refine (pick_any _ _ _ _ r4 (by omega) (by omega)).mono ?_
    rintro e w5 ⟨m, rfl, a0, a1, -, r5, o5, -⟩
    have a1 := a1 (by omega)
    have on5 := on4.trans o5
    have k5 := hid (blk_only k4.out o5 (by omega))
    have j5 := hid (blk_only j4.out o5 (by omega))
    have kc0 := k5.out.cell 0
    have kc1 := k5.out.cell 1
    have jc0 := j5.out.cell 0
    have jc1 := j5.out.cell 1
    have kf0 := k5.out.free 0
    have kf1 := k5.out.free 1
    have jf0 := j5.out.free 0
    have jf1 := j5.out.free 1
    simp only [List.getElem?_cons_zero, List.getElem?_cons_succ] at kc0 kc1 jc0 jc1
    clear on4 k4 j4 o5 r4
    go_wp2
    refine bodyPost_ret (v := av (m * 7 - 1) m2) (by simp [results, Try.results57, go_sem, kc0, kc1]) rfl ?_
    exact ⟨_, _, _, rfl, rd_set (rd_set (rd_set r5 (by omega) _ _) hgl _ _) hgl _ _, by omega, only_set (only_set (only_set on5 (Nat.le_of_lt s2) _ _) (Nat.le_refl _) _ _) (Nat.le_refl _) _ _⟩
  · have hb0 : (s == 0) = false := by rw [beq_eq_false_iff_ne]; exact h0
    by_cases h1 : s = 1
    · have hb1 : (s == 1) = true := by rw [h1]; rfl
      subst h1
      clear h0
      go_wp2_with fail
      have b5 : Below w4.heap.size w4 (w4.alloc (.cells #[.int .i64 (-1), .int .i64 15, .int .i64 16] 3)) := (Below.refl _ _).alloc (Nat.le_refl _) _
      have q5 := hid (Blk.new w4 3 [.int .i64 (-1), .int .i64 15, .int .i64 16])
      have k4' := hid (k4.out.below b5 k4.out.lt)
      have j4' := hid (j4.out.below b5 j4.out.lt)
      have on5 := only_step on4 b5 on4.size
      refine (pick_any _ _ _ _ (r4.below b5) (by omega) (by omega)).mono ?_
      rintro e w6 ⟨t, rfl, d0, d1, -, r6, o6, -⟩
      have d1 := d1 (by omega)
      have on6 := on5.trans o6
      have g4 : g < w4.heap.size := r4.lt
      have k6 := hid (blk_only k4'.out o6 (by omega))
      have j6 := hid (blk_only j4'.out o6 (by omega))
      have q6 := hid (blk_only q5.out o6 (by omega))
      have kc0 := k6.out.cell 0
      have kc1 := k6.out.cell 1
      have jc0 := j6.out.cell 0
      have jc1 := j6.out.cell 1
      have kf0 := k6.out.free 0
      have kf1 := k6.out.free 1
      have jf0 := j6.out.free 0
      have jf1 := j6.out.free 1
      have qc0 := q6.out.cell 0
      have qc1 := q6.out.cell 1
      have qc2 := q6.out.cell 2
      simp only [List.getElem?_cons_zero, List.getElem?_cons_succ] at kc0 kc1 jc0 jc1 qc0 qc1 qc2
      clear on4 k4 j4 o6 r4 b5 q5 k4' j4' on5
      obtain rfl | rfl | rfl : t = 0 ∨ t = 1 ∨ t = 2 := by omega
      · go_wp2
        refine bodyPost_ret (v := av m1 (-1)) (by simp [results, Try.results57, go_sem, kc0, kc1]) rfl ?_
        exact ⟨_, _, _, rfl, rd_set (rd_set (rd_set r6 (by omega) _ _) hgl _ _) hgl _ _, by omega, only_set (only_set (only_set on6 (Nat.le_of_lt s2) _ _) (Nat.le_refl _) _ _) (Nat.le_refl _) _ _⟩
      · go_wp2
        refine bodyPost_ret (v := av m1 15) (by simp [results, Try.results57, go_sem, kc0, kc1]) rfl ?_
        exact ⟨_, _, _, rfl, rd_set (rd_set (rd_set r6 (by omega) _ _) hgl _ _) hgl _ _, by omega, only_set (only_set (only_set on6 (Nat.le_of_lt s2) _ _) (Nat.le_refl _) _ _) (Nat.le_refl _) _ _⟩
      · go_wp2
        refine bodyPost_ret (v := av m1 16) (by simp [results, Try.results57, go_sem, kc0, kc1]) rfl ?_
        exact ⟨_, _, _, rfl, rd_set (rd_set (rd_set r6 (by omega) _ _) hgl _ _) hgl _ _, by omega, only_set (only_set (only_set on6 (Nat.le_of_lt s2) _ _) (Nat.le_refl _) _ _) (Nat.le_refl _) _ _⟩
    · have hb1 : (s == 1) = false := by rw [beq_eq_false_iff_ne]; exact h1
      have kc0 := k4.out.cell 0
      have kc1 := k4.out.cell 1
      have jc0 := j4.out.cell 0
      have jc1 := j4.out.cell 1
      have kf0 := k4.out.free 0
      have kf1 := k4.out.free 1
      simp only [List.getElem?_cons_zero, List.getElem?_cons_succ] at kc0 kc1 jc0 jc1
      clear h0 h1
      go_wp2
      refine bodyPost_ret (v := av m1 m2) (by simp [results, Try.results57, go_sem, kc0, kc1]) rfl ?_
      exact ⟨_, _, _, rfl, rd_set (rd_set r4 hgl _ _) hgl _ _, by omega, only_set (only_set on4 (Nat.le_refl _) _ _) (Nat.le_refl _) _ _⟩

end Go.Proofs.Ytjfpemneinclfaa
