/- What is right: heads, forks. -/
import Derived.Test.YtpnahccmdebifaaF1
namespace Go.Proofs.Ytpnahccmdebifaa
open Go.RowKit

def headB (p : Int) (h : HeadT) : Bool := inB p 1 996 && inB h.len 0 16 && inB h.dig 0 990 && inB h.sign 1 996 && decide (h.sign * 5 % 997 = p * (pairZ h.len h.dig + 1) % 997)
def forkB (x : ForkT) : Bool := headB x.pub x.a && headB x.pub x.b && decide (x.a.len = x.b.len) && !decide (x.a.dig = x.b.dig)
theorem Blk.seven {w : World} {g : Nat} {t : TypeId} {a b c d e f h : Value} (k : Blk w g t [a, b, c, d, e, f, h]) : w.cell? ⟨g, 0, none⟩ = some a ∧ w.cell? ⟨g, 1, none⟩ = some b ∧ w.cell? ⟨g, 2, none⟩ = some c ∧
    w.cell? ⟨g, 3, none⟩ = some d ∧ w.cell? ⟨g, 4, none⟩ = some e ∧ w.cell? ⟨g, 5, none⟩ = some f ∧ w.cell? ⟨g, 6, none⟩ = some h :=
  ⟨by have := k.cell 0; simpa using this, by have := k.cell 1; simpa using this, by have := k.cell 2; simpa using this, by have := k.cell 3; simpa using this, by have := k.cell 4; simpa using this, by have := k.cell 5; simpa using this, by have := k.cell 6; simpa using this⟩

set_option maxHeartbeats 2000000 in
theorem implHead_any (p : Int) (h : HeadT) (w : World) : Calls Try.prog 19 #[.int .i64 p, hv h] w (RetB w (headB p h)) := by
  obtain ⟨len, dig, sign⟩ := h
  have b0 : Below w.heap.size w (w.alloc (.cells #[.int .i64 len, .int .i64 dig, .int .i64 sign] 30)) := (Below.refl _ _).alloc (Nat.le_refl _) _
  obtain ⟨c0, c1, c2⟩ := (Blk.new w 30 [.int .i64 len, .int .i64 dig, .int .i64 sign]).three
  have H1 := hid (fun W => isKey_any p W)
  have H2 := hid (fun W => within_any len 0 16 W)
  have H3 := hid (fun W => isDigest_any dig W)
  have H4 := hid (fun W => isKey_any sign W)
  cases g0 : inB p 1 996
  · have hf : Hid (headB p ⟨len, dig, sign⟩ = false) := by simp [Hid, headB, g0]
    rw [g0] at H1
    clear g0
    go_enter Try.func19, Try.ntmps19
    go_wp2_with fail
    generalize w.alloc (.cells #[.int .i64 len, .int .i64 dig, .int .i64 sign] 30) = W0 at b0 c0 c1 c2 ⊢
    have iA := After.some W0
    have q0 := fun P => after_cell c0 P
    have q1 := fun P => after_cell c1 P
    have q2 := fun P => after_cell c2 P
    clear c0 c1 c2
    refine wp_region_after (by kernel_rfl) (by kernel_rfl) ?_
    repeat (go_big_quiet_step ((first | (go_at_call 28; first | (with_reducible exact Calls.after_of_same (H1.out _)) | (with_reducible exact Calls.after_of_same (H4.out _))) | (go_at_call 29; exact Calls.after_of_same (H2.out _)) | (go_at_call 30; exact Calls.after_of_same (H3.out _)))))
    refine wpQuiet_nil ?_
    rintro _ ⟨⟨w5, b5⟩, rfl⟩
    go_wp2
    go_ret
    exact ⟨by rw [hf.out]; rfl, below_step b0 b5⟩
  rw [g0] at H1
  cases g1 : inB len 0 16
  · have hf : Hid (headB p ⟨len, dig, sign⟩ = false) := by simp [Hid, headB, g0, g1]
    rw [g1] at H2
    clear g0 g1
    go_enter Try.func19, Try.ntmps19
    go_wp2_with fail
    generalize w.alloc (.cells #[.int .i64 len, .int .i64 dig, .int .i64 sign] 30) = W0 at b0 c0 c1 c2 ⊢
    have iA := After.some W0
    have q0 := fun P => after_cell c0 P
    have q1 := fun P => after_cell c1 P
    have q2 := fun P => after_cell c2 P
    clear c0 c1 c2
    refine wp_region_after (by kernel_rfl) (by kernel_rfl) ?_
    repeat (go_big_quiet_step ((first | (go_at_call 28; first | (with_reducible exact Calls.after_of_same (H1.out _)) | (with_reducible exact Calls.after_of_same (H4.out _))) | (go_at_call 29; exact Calls.after_of_same (H2.out _)) | (go_at_call 30; exact Calls.after_of_same (H3.out _)))))
    refine wpQuiet_nil ?_
    rintro _ ⟨⟨w5, b5⟩, rfl⟩
    go_wp2
    go_ret
    exact ⟨by rw [hf.out]; rfl, below_step b0 b5⟩
  rw [g1] at H2
  cases g2 : inB dig 0 990
  · have hf : Hid (headB p ⟨len, dig, sign⟩ = false) := by simp [Hid, headB, g0, g1, g2]
    rw [g2] at H3
    clear g0 g1 g2
    go_enter Try.func19, Try.ntmps19
    go_wp2_with fail
    generalize w.alloc (.cells #[.int .i64 len, .int .i64 dig, .int .i64 sign] 30) = W0 at b0 c0 c1 c2 ⊢
    have iA := After.some W0
    have q0 := fun P => after_cell c0 P
    have q1 := fun P => after_cell c1 P
    have q2 := fun P => after_cell c2 P
    clear c0 c1 c2
    refine wp_region_after (by kernel_rfl) (by kernel_rfl) ?_
    repeat (go_big_quiet_step ((first | (go_at_call 28; first | (with_reducible exact Calls.after_of_same (H1.out _)) | (with_reducible exact Calls.after_of_same (H4.out _))) | (go_at_call 29; exact Calls.after_of_same (H2.out _)) | (go_at_call 30; exact Calls.after_of_same (H3.out _)))))
    refine wpQuiet_nil ?_
    rintro _ ⟨⟨w5, b5⟩, rfl⟩
    go_wp2
    go_ret
    exact ⟨by rw [hf.out]; rfl, below_step b0 b5⟩
  rw [g2] at H3
  cases g3 : inB sign 1 996
  · have hf : Hid (headB p ⟨len, dig, sign⟩ = false) := by simp [Hid, headB, g0, g1, g2, g3]
    rw [g3] at H4
    clear g0 g1 g2 g3
    go_enter Try.func19, Try.ntmps19
    go_wp2_with fail
    generalize w.alloc (.cells #[.int .i64 len, .int .i64 dig, .int .i64 sign] 30) = W0 at b0 c0 c1 c2 ⊢
    have iA := After.some W0
    have q0 := fun P => after_cell c0 P
    have q1 := fun P => after_cell c1 P
    have q2 := fun P => after_cell c2 P
    clear c0 c1 c2
    refine wp_region_after (by kernel_rfl) (by kernel_rfl) ?_
    repeat (go_big_quiet_step ((first | (go_at_call 28; first | (with_reducible exact Calls.after_of_same (H1.out _)) | (with_reducible exact Calls.after_of_same (H4.out _))) | (go_at_call 29; exact Calls.after_of_same (H2.out _)) | (go_at_call 30; exact Calls.after_of_same (H3.out _)))))
    refine wpQuiet_nil ?_
    rintro _ ⟨⟨w5, b5⟩, rfl⟩
    go_wp2
    go_ret
    exact ⟨by rw [hf.out]; rfl, below_step b0 b5⟩
  rw [g3] at H4
  obtain ⟨l0, l1⟩ := inB_parts g1
  obtain ⟨d0, d1⟩ := inB_parts g2
  obtain ⟨s0, s1⟩ := inB_parts g3
  obtain ⟨p0, p1⟩ := inB_parts g0
  have hz := pairZ_bd len dig
  have hf : Hid (headB p ⟨len, dig, sign⟩ = (sign * 5 % 997 == p * (pairZ len dig + 1) % 997)) := by
    unfold Hid headB; rw [g0, g1, g2, g3]; simp only [Bool.true_and]; rw [Bool.eq_iff_iff]; simp
  have H5 := hid (fun W => message_any ⟨len, dig, sign⟩ W (by show 0 ≤ len; omega) (by show len ≤ 990; omega) (by show 0 ≤ dig; omega) (by show dig ≤ 990; omega))
  generalize pairZ len dig = z at hz hf H5
  obtain ⟨z0, z1⟩ := hz
  have m0 : 0 ≤ p * (z + 1) := Int.mul_nonneg (by omega) (by omega)
  have m1 : p * (z + 1) ≤ 996 * 991 := Int.mul_le_mul (by omega) (by omega) (by omega) (by omega)
  have k1 : IntKind.i64.wrap (sign * 5) = sign * 5 := IntWalk.i64_in _ (by omega)
  have k2 : (sign * 5).tmod 997 = sign * 5 % 997 := Int.tmod_eq_emod_of_nonneg (by omega)
  have k3 : IntKind.i64.wrap (sign * 5 % 997) = sign * 5 % 997 := IntWalk.i64_in _ (by omega)
  have k4 : IntKind.i64.wrap (p * (z + 1)) = p * (z + 1) := IntWalk.i64_in _ (by omega)
  have k5 : (p * (z + 1)).tmod 997 = p * (z + 1) % 997 := Int.tmod_eq_emod_of_nonneg m0
  have k6 : IntKind.i64.wrap (p * (z + 1) % 997) = p * (z + 1) % 997 := IntWalk.i64_in _ (by omega)
  clear g0 g1 g2 g3 l0 l1 d0 d1 s0 s1 p0 p1 z0 z1 m0 m1
  go_enter Try.func19, Try.ntmps19
  go_wp2_with fail
  generalize w.alloc (.cells #[.int .i64 len, .int .i64 dig, .int .i64 sign] 30) = W0 at b0 c0 c1 c2 ⊢
  have iA := After.some W0
  have q0 := fun P => after_cell c0 P
  have q1 := fun P => after_cell c1 P
  have q2 := fun P => after_cell c2 P
  clear c0 c1 c2
  refine wp_region_after (by kernel_rfl) (by kernel_rfl) ?_
  repeat (go_big_quiet_step ((first | (go_at_call 28; first | (with_reducible exact Calls.after_of_same (H1.out _)) | (with_reducible exact Calls.after_of_same (H4.out _))) | (go_at_call 29; exact Calls.after_of_same (H2.out _)) | (go_at_call 30; exact Calls.after_of_same (H3.out _)) | (go_at_call 31; exact Calls.after_of (H5.out _)))))
  refine wpQuiet_nil ?_
  rintro _ ⟨⟨w5, b5⟩, rfl⟩
  go_wp2
  go_ret
  exact ⟨by rw [hf.out]; rfl, below_step b0 b5⟩

set_option maxHeartbeats 2000000 in
theorem specHead_any (p : Int) (h : HeadT) (w : World) : Calls Try.prog 27 #[.int .i64 p, hv h] w (RetB w (headB p h)) := by
  obtain ⟨len, dig, sign⟩ := h
  have b0 : Below w.heap.size w (w.alloc (.cells #[.int .i64 len, .int .i64 dig, .int .i64 sign] 30)) := (Below.refl _ _).alloc (Nat.le_refl _) _
  obtain ⟨c0, c1, c2⟩ := (Blk.new w 30 [.int .i64 len, .int .i64 dig, .int .i64 sign]).three
  have H1 := hid (fun W => l3Key_any p W)
  have H2 := hid (fun W => l6In_any len 0 16 W)
  have H3 := hid (fun W => l1Digest_any dig W)
  have H4 := hid (fun W => l3Key_any sign W)
  cases g0 : inB p 1 996
  · have hf : Hid (headB p ⟨len, dig, sign⟩ = false) := by simp [Hid, headB, g0]
    rw [g0] at H1
    clear g0
    go_enter Try.func27, Try.ntmps27
    go_wp2_with fail
    generalize w.alloc (.cells #[.int .i64 len, .int .i64 dig, .int .i64 sign] 30) = W0 at b0 c0 c1 c2 ⊢
    have iA := After.some W0
    have q0 := fun P => after_cell c0 P
    have q1 := fun P => after_cell c1 P
    have q2 := fun P => after_cell c2 P
    clear c0 c1 c2
    refine wp_region_after (by kernel_rfl) (by kernel_rfl) ?_
    repeat (go_big_quiet_step ((first | (go_at_call 33; first | (with_reducible exact Calls.after_of_same (H1.out _)) | (with_reducible exact Calls.after_of_same (H4.out _))) | (go_at_call 48; exact Calls.after_of_same (H2.out _)) | (go_at_call 49; exact Calls.after_of_same (H3.out _)))))
    refine wpQuiet_nil ?_
    rintro _ ⟨⟨w5, b5⟩, rfl⟩
    go_wp2
    go_ret
    exact ⟨by rw [hf.out]; rfl, below_step b0 b5⟩
  rw [g0] at H1
  cases g1 : inB len 0 16
  · have hf : Hid (headB p ⟨len, dig, sign⟩ = false) := by simp [Hid, headB, g0, g1]
    rw [g1] at H2
    clear g0 g1
    go_enter Try.func27, Try.ntmps27
    go_wp2_with fail
    generalize w.alloc (.cells #[.int .i64 len, .int .i64 dig, .int .i64 sign] 30) = W0 at b0 c0 c1 c2 ⊢
    have iA := After.some W0
    have q0 := fun P => after_cell c0 P
    have q1 := fun P => after_cell c1 P
    have q2 := fun P => after_cell c2 P
    clear c0 c1 c2
    refine wp_region_after (by kernel_rfl) (by kernel_rfl) ?_
    repeat (go_big_quiet_step ((first | (go_at_call 33; first | (with_reducible exact Calls.after_of_same (H1.out _)) | (with_reducible exact Calls.after_of_same (H4.out _))) | (go_at_call 48; exact Calls.after_of_same (H2.out _)) | (go_at_call 49; exact Calls.after_of_same (H3.out _)))))
    refine wpQuiet_nil ?_
    rintro _ ⟨⟨w5, b5⟩, rfl⟩
    go_wp2
    go_ret
    exact ⟨by rw [hf.out]; rfl, below_step b0 b5⟩
  rw [g1] at H2
  cases g2 : inB dig 0 990
  · have hf : Hid (headB p ⟨len, dig, sign⟩ = false) := by simp [Hid, headB, g0, g1, g2]
    rw [g2] at H3
    clear g0 g1 g2
    go_enter Try.func27, Try.ntmps27
    go_wp2_with fail
    generalize w.alloc (.cells #[.int .i64 len, .int .i64 dig, .int .i64 sign] 30) = W0 at b0 c0 c1 c2 ⊢
    have iA := After.some W0
    have q0 := fun P => after_cell c0 P
    have q1 := fun P => after_cell c1 P
    have q2 := fun P => after_cell c2 P
    clear c0 c1 c2
    refine wp_region_after (by kernel_rfl) (by kernel_rfl) ?_
    repeat (go_big_quiet_step ((first | (go_at_call 33; first | (with_reducible exact Calls.after_of_same (H1.out _)) | (with_reducible exact Calls.after_of_same (H4.out _))) | (go_at_call 48; exact Calls.after_of_same (H2.out _)) | (go_at_call 49; exact Calls.after_of_same (H3.out _)))))
    refine wpQuiet_nil ?_
    rintro _ ⟨⟨w5, b5⟩, rfl⟩
    go_wp2
    go_ret
    exact ⟨by rw [hf.out]; rfl, below_step b0 b5⟩
  rw [g2] at H3
  cases g3 : inB sign 1 996
  · have hf : Hid (headB p ⟨len, dig, sign⟩ = false) := by simp [Hid, headB, g0, g1, g2, g3]
    rw [g3] at H4
    clear g0 g1 g2 g3
    go_enter Try.func27, Try.ntmps27
    go_wp2_with fail
    generalize w.alloc (.cells #[.int .i64 len, .int .i64 dig, .int .i64 sign] 30) = W0 at b0 c0 c1 c2 ⊢
    have iA := After.some W0
    have q0 := fun P => after_cell c0 P
    have q1 := fun P => after_cell c1 P
    have q2 := fun P => after_cell c2 P
    clear c0 c1 c2
    refine wp_region_after (by kernel_rfl) (by kernel_rfl) ?_
    repeat (go_big_quiet_step ((first | (go_at_call 33; first | (with_reducible exact Calls.after_of_same (H1.out _)) | (with_reducible exact Calls.after_of_same (H4.out _))) | (go_at_call 48; exact Calls.after_of_same (H2.out _)) | (go_at_call 49; exact Calls.after_of_same (H3.out _)))))
    refine wpQuiet_nil ?_
    rintro _ ⟨⟨w5, b5⟩, rfl⟩
    go_wp2
    go_ret
    exact ⟨by rw [hf.out]; rfl, below_step b0 b5⟩
  rw [g3] at H4
  obtain ⟨l0, l1⟩ := inB_parts g1
  obtain ⟨d0, d1⟩ := inB_parts g2
  obtain ⟨s0, s1⟩ := inB_parts g3
  obtain ⟨p0, p1⟩ := inB_parts g0
  have hz := pairZ_bd len dig
  have hf : Hid (headB p ⟨len, dig, sign⟩ = (sign * 5 % 997 == p * (pairZ len dig + 1) % 997)) := by
    unfold Hid headB; rw [g0, g1, g2, g3]; simp only [Bool.true_and]; rw [Bool.eq_iff_iff]; simp
  have H5 := hid (fun W => l3Message_any len dig W (by omega) (by omega) (by omega) (by omega))
  generalize pairZ len dig = z at hz hf H5
  obtain ⟨z0, z1⟩ := hz
  have m0 : 0 ≤ p * (z + 1) := Int.mul_nonneg (by omega) (by omega)
  have m1 : p * (z + 1) ≤ 996 * 991 := Int.mul_le_mul (by omega) (by omega) (by omega) (by omega)
  have k1 : IntKind.i64.wrap (sign * 5) = sign * 5 := IntWalk.i64_in _ (by omega)
  have k2 : (sign * 5).tmod 997 = sign * 5 % 997 := Int.tmod_eq_emod_of_nonneg (by omega)
  have k3 : IntKind.i64.wrap (sign * 5 % 997) = sign * 5 % 997 := IntWalk.i64_in _ (by omega)
  have k4 : IntKind.i64.wrap (p * (z + 1)) = p * (z + 1) := IntWalk.i64_in _ (by omega)
  have k5 : (p * (z + 1)).tmod 997 = p * (z + 1) % 997 := Int.tmod_eq_emod_of_nonneg m0
  have k6 : IntKind.i64.wrap (p * (z + 1) % 997) = p * (z + 1) % 997 := IntWalk.i64_in _ (by omega)
  clear g0 g1 g2 g3 l0 l1 d0 d1 s0 s1 p0 p1 z0 z1 m0 m1
  go_enter Try.func27, Try.ntmps27
  go_wp2_with fail
  generalize w.alloc (.cells #[.int .i64 len, .int .i64 dig, .int .i64 sign] 30) = W0 at b0 c0 c1 c2 ⊢
  have iA := After.some W0
  have q0 := fun P => after_cell c0 P
  have q1 := fun P => after_cell c1 P
  have q2 := fun P => after_cell c2 P
  clear c0 c1 c2
  refine wp_region_after (by kernel_rfl) (by kernel_rfl) ?_
  repeat (go_big_quiet_step ((first | (go_at_call 33; first | (with_reducible exact Calls.after_of_same (H1.out _)) | (with_reducible exact Calls.after_of_same (H4.out _))) | (go_at_call 48; exact Calls.after_of_same (H2.out _)) | (go_at_call 49; exact Calls.after_of_same (H3.out _)) | (go_at_call 36; exact Calls.after_of_same (H5.out _)))))
  refine wpQuiet_nil ?_
  rintro _ ⟨⟨w5, b5⟩, rfl⟩
  go_wp2
  go_ret
  exact ⟨by rw [hf.out]; rfl, below_step b0 b5⟩

set_option maxHeartbeats 2000000 in
theorem implFork_any (x : ForkT) (w : World) : Calls Try.prog 9 #[fv x] w (RetB w (forkB x)) := by
  obtain ⟨p, ⟨la, da, sa⟩, ⟨lb, db, sb⟩⟩ := x
  have b0 : Below w.heap.size w (w.alloc (.cells (fcells ⟨p, ⟨la, da, sa⟩, ⟨lb, db, sb⟩⟩).toArray 32)) := (Below.refl _ _).alloc (Nat.le_refl _) _
  have q := Blk.new w 32 (fcells ⟨p, ⟨la, da, sa⟩, ⟨lb, db, sb⟩⟩)
  simp only [fcells] at b0 q
  obtain ⟨c0, c1, c2, c3, c4, c5, c6⟩ := q.seven
  have H1 := hid (fun W => implHead_any p ⟨la, da, sa⟩ W)
  have H2 := hid (fun W => implHead_any p ⟨lb, db, sb⟩ W)
  clear q
  cases g1 : headB p ⟨la, da, sa⟩
  · have hf : Hid (forkB ⟨p, ⟨la, da, sa⟩, ⟨lb, db, sb⟩⟩ = false) := by simp [Hid, forkB, g1]
    rw [g1] at H1
    clear g1
    go_enter Try.func9, Try.ntmps9
    go_wp2_with fail
    refine (H1.out _).mono ?_; rintro e w1 ⟨rfl, b1⟩
    go_wp2_with fail
    go_ret
    exact ⟨by rw [hf.out]; rfl, below_step b0 b1⟩
  rw [g1] at H1
  cases g2 : headB p ⟨lb, db, sb⟩
  · have hf : Hid (forkB ⟨p, ⟨la, da, sa⟩, ⟨lb, db, sb⟩⟩ = false) := by simp [Hid, forkB, g1, g2]
    rw [g2] at H2
    clear g1 g2
    go_enter Try.func9, Try.ntmps9
    go_wp2_with fail
    refine (H1.out _).mono ?_; rintro e w1 ⟨rfl, b1⟩
    have e0 := cell_later b1 c0; have e1 := cell_later b1 c1; have e2 := cell_later b1 c2; have e3 := cell_later b1 c3; have e4 := cell_later b1 c4; have e5 := cell_later b1 c5; have e6 := cell_later b1 c6
    go_wp2_with fail
    refine (H2.out _).mono ?_; rintro e w2 ⟨rfl, b2⟩
    go_wp2_with fail
    go_ret
    exact ⟨by rw [hf.out]; rfl, below_step b0 (below_step b1 b2)⟩
  rw [g2] at H2
  have hf : Hid (forkB ⟨p, ⟨la, da, sa⟩, ⟨lb, db, sb⟩⟩ = ((la == lb) && !(da == db))) := by unfold Hid forkB; rw [g1, g2]; simp only [Bool.true_and]; rfl
  clear g1 g2
  go_enter Try.func9, Try.ntmps9
  go_wp2_with fail
  refine (H1.out _).mono ?_; rintro e w1 ⟨rfl, b1⟩
  have e0 := cell_later b1 c0; have e1 := cell_later b1 c1; have e2 := cell_later b1 c2; have e3 := cell_later b1 c3; have e4 := cell_later b1 c4; have e5 := cell_later b1 c5; have e6 := cell_later b1 c6
  go_wp2_with fail
  refine (H2.out _).mono ?_; rintro e w2 ⟨rfl, b2⟩
  have f0 := cell_later b2 e0; have f1 := cell_later b2 e1; have f2 := cell_later b2 e2; have f3 := cell_later b2 e3; have f4 := cell_later b2 e4; have f5 := cell_later b2 e5; have f6 := cell_later b2 e6
  by_cases hl : la = lb
  · have e9 : (la == lb) = true := by rw [beq_iff_eq]; exact hl
    clear hl
    rw [e9] at hf
    go_wp2_with fail
    go_ret
    exact ⟨by rw [hf.out]; rfl, below_step b0 (below_step b1 b2)⟩
  · have e9 : (la == lb) = false := by rw [beq_eq_false_iff_ne]; exact hl
    clear hl
    rw [e9] at hf
    go_wp2_with fail
    go_ret
    exact ⟨by rw [hf.out]; rfl, below_step b0 (below_step b1 b2)⟩

set_option maxHeartbeats 2000000 in
theorem specFork_any (x : ForkT) (w : World) : Calls Try.prog 17 #[fv x] w (RetB w (forkB x)) := by
  obtain ⟨p, ⟨la, da, sa⟩, ⟨lb, db, sb⟩⟩ := x
  have b0 : Below w.heap.size w (w.alloc (.cells (fcells ⟨p, ⟨la, da, sa⟩, ⟨lb, db, sb⟩⟩).toArray 32)) := (Below.refl _ _).alloc (Nat.le_refl _) _
  have q := Blk.new w 32 (fcells ⟨p, ⟨la, da, sa⟩, ⟨lb, db, sb⟩⟩)
  simp only [fcells] at b0 q
  obtain ⟨c0, c1, c2, c3, c4, c5, c6⟩ := q.seven
  have H1 := hid (fun W => specHead_any p ⟨la, da, sa⟩ W)
  have H2 := hid (fun W => specHead_any p ⟨lb, db, sb⟩ W)
  clear q
  cases g1 : headB p ⟨la, da, sa⟩
  · have hf : Hid (forkB ⟨p, ⟨la, da, sa⟩, ⟨lb, db, sb⟩⟩ = false) := by simp [Hid, forkB, g1]
    rw [g1] at H1
    clear g1
    go_enter Try.func17, Try.ntmps17
    go_wp2_with fail
    refine (H1.out _).mono ?_; rintro e w1 ⟨rfl, b1⟩
    go_wp2_with fail
    go_ret
    exact ⟨by rw [hf.out]; rfl, below_step b0 b1⟩
  rw [g1] at H1
  cases g2 : headB p ⟨lb, db, sb⟩
  · have hf : Hid (forkB ⟨p, ⟨la, da, sa⟩, ⟨lb, db, sb⟩⟩ = false) := by simp [Hid, forkB, g1, g2]
    rw [g2] at H2
    clear g1 g2
    go_enter Try.func17, Try.ntmps17
    go_wp2_with fail
    refine (H1.out _).mono ?_; rintro e w1 ⟨rfl, b1⟩
    have e0 := cell_later b1 c0; have e1 := cell_later b1 c1; have e2 := cell_later b1 c2; have e3 := cell_later b1 c3; have e4 := cell_later b1 c4; have e5 := cell_later b1 c5; have e6 := cell_later b1 c6
    go_wp2_with fail
    refine (H2.out _).mono ?_; rintro e w2 ⟨rfl, b2⟩
    go_wp2_with fail
    go_ret
    exact ⟨by rw [hf.out]; rfl, below_step b0 (below_step b1 b2)⟩
  rw [g2] at H2
  have hf : Hid (forkB ⟨p, ⟨la, da, sa⟩, ⟨lb, db, sb⟩⟩ = ((la == lb) && !(da == db))) := by unfold Hid forkB; rw [g1, g2]; simp only [Bool.true_and]; rfl
  clear g1 g2
  go_enter Try.func17, Try.ntmps17
  go_wp2_with fail
  refine (H1.out _).mono ?_; rintro e w1 ⟨rfl, b1⟩
  have e0 := cell_later b1 c0; have e1 := cell_later b1 c1; have e2 := cell_later b1 c2; have e3 := cell_later b1 c3; have e4 := cell_later b1 c4; have e5 := cell_later b1 c5; have e6 := cell_later b1 c6
  go_wp2_with fail
  refine (H2.out _).mono ?_; rintro e w2 ⟨rfl, b2⟩
  have f0 := cell_later b2 e0; have f1 := cell_later b2 e1; have f2 := cell_later b2 e2; have f3 := cell_later b2 e3; have f4 := cell_later b2 e4; have f5 := cell_later b2 e5; have f6 := cell_later b2 e6
  by_cases hl : la = lb
  · have e9 : (la == lb) = true := by rw [beq_iff_eq]; exact hl
    clear hl
    rw [e9] at hf
    go_wp2_with fail
    go_ret
    exact ⟨by rw [hf.out]; rfl, below_step b0 (below_step b1 b2)⟩
  · have e9 : (la == lb) = false := by rw [beq_eq_false_iff_ne]; exact hl
    clear hl
    rw [e9] at hf
    go_wp2_with fail
    go_ret
    exact ⟨by rw [hf.out]; rfl, below_step b0 (below_step b1 b2)⟩

end Go.Proofs.Ytpnahccmdebifaa
