/- The draws of chapter 13: texts and records. -/
import Derived.Test.YtihjjnmhionibaaJ10
import Derived.Test.YtihjjnmhionibaaDrawB
import Derived.Laws.BytesArg
namespace Go.Proofs.Ytihjjnmhionibaa
open Go.RowKit

def DrawnText (w : World) (g p : Nat) (e : Ending) (w' : World) : Prop :=
  ∃ (t : ByteArray) (p' : Nat), e = .returned (.string t) ∧ t.size ≤ 10 ∧ Rd w' g p' ∧ p' ≤ p + 13 ∧ Only g w w'

set_option maxHeartbeats 1000000 in
theorem l91Text_any (g p : Nat) (w : World) (hr : Rd w g p) (hp : p ≤ 1000000000) :
    Calls Try.prog 65 #[.pointer (some ⟨g, 0, none⟩)] w (DrawnText w g p) := by
  have hcv := fun W z => run_chr z W
  have hcs := chr_size
  have hgl := hr.lt
  go_enter Try.func65, Try.ntmps65
  go_wp2_with fail
  refine (pick_any _ _ _ _ hr (by omega) (by omega)).mono ?_
  rintro e w1 ⟨n, rfl, n0, n1, -, r1, on1, -⟩
  have n1 := n1 (by omega)
  go_wp2_with fail
  refine (pick_any _ _ _ _ r1 (by omega) (by omega)).mono ?_
  rintro e w2 ⟨s, rfl, -, -, -, r2, o2, -⟩
  have on2 := on1.trans o2
  clear hr on1 r1 o2
  by_cases hs : s = 0
  all_goals
    first
      | (have hb0 : (s == 0) = true := (by rw [hs]; rfl)
         clear hs
         go_wp2_with fail
         refine (pick_any _ _ _ _ r2 (by omega) (by omega)).mono ?_
         rintro e w3 ⟨x, rfl, x0, x1, -, r3, o3, -⟩
         have x1 := x1 (by omega)
         have on3 := on2.trans o3
         obtain ⟨N, hN⟩ := Int.eq_ofNat_of_zero_le (show 0 ≤ 8 + x by omega)
         have hN10 : N ≤ 10 := by omega)
      | (have hb0 : (s == 0) = false := (by rw [beq_eq_false_iff_ne]; exact hs)
         clear hs
         have r3 := r2
         have on3 := on2
         obtain ⟨N, hN⟩ := Int.eq_ofNat_of_zero_le n0
         have hN10 : N ≤ 10 := by omega)
    clear r2 on2
    go_wp2_with fail
    go_loopw [3, 5] (fun out i wr => ∃ (k : Nat) (t : ByteArray) (p' : Nat), k ≤ N ∧ i = .int .i64 k ∧ out = .string t ∧ Hid (t.size = k) ∧ Rd wr g p' ∧ p' ≤ p + 3 + k ∧ Only g w wr) (fun _ i _ => N - (intOf i).toNat)
    case atStart => exact ⟨0, ⟨#[]⟩, _, Nat.zero_le _, rfl, rfl, rfl, r3, by omega, on3⟩
    case round =>
      clear r3 on3
      obtain ⟨k, t, p', hk, rfl, rfl, hl, rd, hp', on⟩ := hrel
      by_cases hlt : k < N
      · have hlt2 : (k : Int) < N := by omega
        first | rw [← hN] at hlt2 | skip
        go_wp2_with fail
        refine (pick_any _ _ _ _ rd (by omega) (by omega)).mono ?_
        rintro e w5 ⟨q, rfl, q0, q1, -, r5, o5, -⟩
        have q1 := q1 (by omega)
        have on5 := on.trans o5
        have hs5 : g < w5.heap.size := r5.lt
        have hz5 := on5.size
        have ht10 : t.size ≤ 10 := by rw [hl.out]; omega
        clear rd on o5
        go_wp2
        go_roundw
        case rel => exact ⟨k + 1, _, _, by omega, by go_num, rfl, by unfold Hid; rw [ByteArray.size_append, hl.out]; rfl, rd_grown r5 ((Below.refl w5.heap.size w5).alloc (Nat.le_refl _) _) hs5, by omega, only_step on5 ((Below.refl w5.heap.size w5).alloc (Nat.le_refl _) _) hz5⟩
        case measure => simp [intOf]; omega
      · obtain rfl : k = N := by omega
        have hge : ¬ (k : Int) < k := by omega
        first | rw [← hN] at hge | skip
        have hsz := hl.out
        go_wp2
        go_ret
        exact ⟨t, _, rfl, by omega, rd, by omega, on⟩

def DrawnRec (w : World) (g p : Nat) (e : Ending) (w' : World) : Prop :=
  ∃ (i : Int) (t : ByteArray) (p' : Nat), e = .returned (rv i t) ∧ t.size ≤ 10 ∧ Rd w' g p' ∧ p' ≤ p + 16 ∧ Only g w w'

set_option maxHeartbeats 1000000 in
theorem l91Record_any (g p : Nat) (w : World) (hr : Rd w g p) (hp : p ≤ 900000000) :
    Calls Try.prog 57 #[.pointer (some ⟨g, 0, none⟩)] w (DrawnRec w g p) := by
  have hgl := hr.lt
  have b0 : Below w.heap.size w (w.alloc (.cells #[.int .i64 0, .string ⟨#[]⟩] 35)) := (Below.refl _ _).alloc (Nat.le_refl _) _
  have r0 := hr.below b0
  have k0 := hid (Blk.new w 35 [.int .i64 0, .string ⟨#[]⟩])
  have on0 : Only g w (w.alloc (.cells #[.int .i64 0, .string ⟨#[]⟩] 35)) := only_grown b0 (Nat.le_refl _)
  go_enter Try.func57, Try.ntmps57
  go_wp2_with fail
  refine (pick_any _ _ _ _ r0 (by omega) (by omega)).mono ?_
  rintro e w1 ⟨m1, rfl, -, -, -, r1, o1, -⟩
  go_wp2_with fail
  refine (l91Text_any _ _ _ r1 (by omega)).mono ?_
  rintro e w2 ⟨t, p2, rfl, ht, r2, hp2, o2⟩
  have on2 := (on0.trans o1).trans o2
  have k2 := hid (blk_only (blk_only k0.out o1 (by omega)) o2 (by omega))
  have s2 : w.heap.size < w2.heap.size := k2.out.lt
  have b3 : Below w2.heap.size w2 (w2.alloc (.cells #[.int .i64 m1, .string t] 35)) := (Below.refl _ _).alloc (Nat.le_refl _) _
  have r3 := r2.below b3
  have k3 := hid (k2.out.below b3 s2)
  have j3 := hid (Blk.new w2 35 [.int .i64 m1, .string t])
  have on3 := only_step on2 b3 (Nat.le_of_lt s2)
  have g2 : g < w2.heap.size := r2.lt
  clear r0 k0 on0 r1 o1 o2 on2 k2 r2 hr
  go_wp2_with fail
  refine (pick_any _ _ _ _ r3 (by omega) (by omega)).mono ?_
  rintro e w4 ⟨s, rfl, s0, -, -, r4, o4, -⟩
  have on4 := on3.trans o4
  have k4 := hid (blk_only k3.out o4 (by omega))
  have j4 := hid (blk_only j3.out o4 (by omega))
  clear r3 k3 j3 on3 o4 b3 b0
  by_cases h0 : s = 0
  · have hb0 : (s == 0) = true := by rw [h0]; rfl
    clear h0
    go_wp2_with fail
    refine (pick_any _ _ _ _ r4 (by omega) (by omega)).mono ?_
    rintro e w5 ⟨m, rfl, a0, a1, -, r5, o5, -⟩
    have a1 := a1 (by omega)
    have on5 := on4.trans o5
    have k5 := hid (blk_only k4.out o5 (by omega))
    have j5 := hid (blk_only j4.out o5 (by omega))
    obtain ⟨kc0, kc1, kf0, kf1⟩ := k5.out.two
    obtain ⟨jc0, jc1, jf0, jf1⟩ := j5.out.two
    clear on4 k4 j4 o5 r4
    go_wp2
    refine bodyPost_ret (v := rv (m * 17 - 1) t) (by simp [results, Try.results57, go_sem, kc0, kc1]) rfl ?_
    exact ⟨_, _, _, rfl, ht, rd_set (rd_set (rd_set r5 (by omega) _ _) hgl _ _) hgl _ _, by omega, only_set (only_set (only_set on5 (Nat.le_of_lt s2) _ _) (Nat.le_refl _) _ _) (Nat.le_refl _) _ _⟩
  · have hb0 : (s == 0) = false := by rw [beq_eq_false_iff_ne]; exact h0
    clear h0
    obtain ⟨kc0, kc1, kf0, kf1⟩ := k4.out.two
    obtain ⟨jc0, jc1, jf0, jf1⟩ := j4.out.two
    go_wp2
    refine bodyPost_ret (v := rv m1 t) (by simp [results, Try.results57, go_sem, kc0, kc1]) rfl ?_
    exact ⟨_, _, _, rfl, ht, rd_set (rd_set r4 hgl _ _) hgl _ _, by omega, only_set (only_set on4 (Nat.le_refl _) _ _) (Nat.le_refl _) _ _⟩

end Go.Proofs.Ytihjjnmhionibaa
