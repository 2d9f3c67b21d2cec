/- Covers, digests of trees, heads. -/
import Derived.Test.YtpnahccmdebifaaFA
namespace Go.Proofs.Ytpnahccmdebifaa
open Go.RowKit

/-- Digests in a row of the call's own. -/
def RetD (w : World) (N : Nat) (e : Ending) (w' : World) : Prop :=
  ∃ (A : Option Addr) (c j : Nat) (l : List Int), e = .returned (.slice A j c) ∧ j ≤ N ∧ Hid (l.length = j) ∧ Hid (∀ z ∈ l, 0 ≤ z ∧ z ≤ 990) ∧ Own w' w.heap.size w'.heap.size 3 1 A c j (ints l) ∧ Below w.heap.size w w'

set_option maxHeartbeats 2000000 in
theorem l2Cover_any (A : Option Addr) (c n : Nat) (zs : List Int) (w : World) (hn : Hid (zs.length = n)) (hz : Hid (∀ z ∈ zs, 0 ≤ z ∧ z ≤ 990)) (hr : Cells w A (ints zs)) (hm : n ≤ 16) (hc : n ≤ c) (hcm : c ≤ maxLen) :
    Calls Try.prog 52 #[.slice A n c, .int .i64 0] w (RetD w n) := by
  go_enter Try.func52, Try.ntmps52
  go_wp2
  go_loopw [5, 6] (fun out i wr => ∃ (k j : Nat) (A' : Option Addr) (c' : Nat) (l : List Int), k ≤ n ∧ j ≤ k ∧ i = .int .i64 k ∧ out = .slice A' j c' ∧ Hid (l.length = j) ∧ Hid (∀ z ∈ l, 0 ≤ z ∧ z ≤ 990) ∧ Hid (wr.ownsRow w.heap.size 3 1 (.slice A' j c') j (ints l)) ∧ Below w.heap.size w wr) (fun _ i _ => n - (intOf i).toNat)
  case atStart => exact ⟨0, 0, _, _, [], Nat.zero_le _, Nat.le_refl _, rfl, rfl, rfl, by simp [Hid], own_empty w 3 1 (Nat.le_refl _), (Below.refl _ _).alloc (Nat.le_refl _) _⟩
  case round =>
    obtain ⟨k, j, A', c', l, hk, hj, rfl, rfl, hl, hlz, own, hb⟩ := hrel
    by_cases hlt : k < n
    · obtain ⟨b, off, x, hA, -, -⟩ := hr.int_at (k := 0) (by rw [hn.out]; omega)
      subst hA
      have hsz := hb.size
      go_wp2_with fail
      refine (l2Size_any k n _ hlt (by omega)).mono ?_; rintro e w3 ⟨⟨s, rfl, s1, hs⟩, rfl⟩
      have hnt : Hid (((zs.drop k).take s).length = s) := by unfold Hid; rw [List.length_take, List.length_drop, hn.out]; omega
      have hzt : Hid (∀ z ∈ (zs.drop k).take s, 0 ≤ z ∧ z ≤ 990) := fun z hz2 => hz.out z (List.mem_of_mem_drop (List.mem_of_mem_take hz2))
      have ct : Cells w (some ⟨b, off + k, none⟩) (ints ((zs.drop k).take s)) := by have h := (hr.drop k).take s; unfold ints at h ⊢; rw [← List.map_drop, ← List.map_take] at h; exact h
      obtain ⟨t0, t1⟩ := rootZ_bd 16 _ hzt.out
      have H1 := hid (fun W (h : Below w.heap.size w W) => l2Root_any 16 _ (c - k) _ _ W hnt hzt (ct.below h) s1 (by omega) (by omega) (by omega) (by omega))
      generalize rootZ 16 ((zs.drop k).take s) = R at *
      clear ct hzt hnt
      have k1 : IntKind.i64.wrap ((k : Int) + (s : Int)) = ((k + s : Nat) : Int) := by push_cast; exact IntWalk.i64_in _ (by omega)
      have hne : (k == c) = false := by rw [beq_eq_false_iff_ne]; omega
      have hks : k + s ≤ c := by omega
      go_wp2_with fail
      refine (H1.out _ hb).mono ?_; rintro e w4 ⟨rfl, b4⟩
      have own4 := hid (own_below own.out b4)
      have hb4 := below_step hb b4
      have hz4 := hb4.size
      go_wp2_with (at_builtin; refine wpList_app rfl (.tmp 18) (.tmp 26) 25 rfl w.heap.size Try.underlying25 info_int rfl (by omega) (by omega) A' j c' _ rfl (own4.out.alloc _) (some ⟨w4.heap.size, 0, none⟩) 1 1 [.int .i64 R] rfl rfl (cells_one _ _ _) (one_int _) (j + 1) (ints (l ++ [R])) rfl (ints_snoc _ _) (by omega) (by simp; omega) ?_; intro A5 c5 w5 ho5 hb5)
      go_roundw
      case rel => exact ⟨k + s, j + 1, A5, c5, _, by omega, by omega, by go_num, rfl, by unfold Hid; rw [List.length_append, hl.out]; rfl, fun z hz2 => by rcases List.mem_append.1 hz2 with h | h; exact hlz.out z h; simp at h; subst h; exact ⟨t0, t1⟩, ho5, (hb4.alloc hz4 _).trans hb5⟩
      case measure => simp [intOf]; omega
    · obtain rfl : k = n := by omega
      go_wp2
      go_ret
      exact ⟨A', c', j, l, rfl, hj, hl, hlz, Own.of_row own.out, hb⟩

set_option maxHeartbeats 1000000 in
theorem treeDigest_any (A : Option Addr) (c n : Nat) (zs : List Int) (w : World) (hn : Hid (zs.length = n)) (hr : Cells w A (ints zs)) (hm : n ≤ 1000) (hc : n ≤ c) (hcm : c ≤ maxLen) :
    Calls Try.prog 35 #[.slice A n c] w fun e w' => (∃ z, e = .returned (.int .i64 z) ∧ -1 ≤ z ∧ z ≤ 990 ∧ Hid (leavesB zs = true → 0 ≤ z)) ∧ Below w.heap.size w w' := by
  have H := hid (fun W (h : Cells W A (ints zs)) => l2Leaves_any A c n zs W hn h hm)
  cases hv : leavesB zs
  · rw [hv] at H
    clear hv
    go_enter Try.func35, Try.ntmps35
    go_wp2_with fail
    refine (H.out _ hr).mono ?_; rintro e w3 ⟨rfl, rfl⟩
    go_wp2
    go_ret
    exact ⟨⟨-1, rfl, by omega, by omega, by simp [Hid]⟩, Below.refl _ _⟩
  · obtain ⟨hz, h16⟩ := leavesB_parts hv
    have Hz := hid hz
    rw [hn.out] at h16
    rw [hv] at H
    clear hv hz
    go_enter Try.func35, Try.ntmps35
    go_wp2_with fail
    refine (H.out _ hr).mono ?_; rintro e w3 ⟨rfl, rfl⟩
    go_wp2_with fail
    refine (l2Cover_any A c n zs _ hn Hz hr h16 hc hcm).mono ?_; rintro e w4 ⟨A2, c2, j, l, rfl, hj, hl, hlz, o4, b4⟩
    go_wp2_with fail
    refine (l2Fold_any A2 c2 j l n _ hl hlz o4.cells (by omega) h16).mono ?_; rintro e w5 ⟨⟨z, rfl, z0, z1⟩, rfl⟩
    go_wp2
    go_ret
    exact ⟨⟨z, rfl, by omega, z1, fun _ => z0⟩, b4⟩

set_option maxHeartbeats 1000000 in
theorem headPublic_any (s : Int) (w : World) (s0 : 1 ≤ s) (s1 : s ≤ 996) : Calls Try.prog 22 #[.int .i64 s] w fun e w' => (∃ z, e = .returned (.int .i64 z)) ∧ w = w' := by
  have H := hid (l3Key_any s w)
  rw [inB_true s0 s1] at H
  go_enter Try.func22, Try.ntmps22
  go_wp2_with fail
  refine H.out.mono ?_; rintro e w3 ⟨rfl, rfl⟩
  go_wp2
  go_ret
  exact ⟨⟨_, rfl⟩, rfl⟩

/-- A made head. -/
def RetH (w : World) (e : Ending) (w' : World) : Prop := ∃ (h : HeadT) (b : Bool), e = .returned (.tuple #[hv h, .bool b]) ∧ Below w.heap.size w w'

set_option maxHeartbeats 2000000 in
theorem headMake_any (s : Int) (A : Option Addr) (c n : Nat) (zs : List Int) (w : World) (s0 : 1 ≤ s) (s1 : s ≤ 996) (hn : Hid (zs.length = n)) (hr : Cells w A (ints zs)) (hm : n ≤ 1000) (hc : n ≤ c) (hcm : c ≤ maxLen) :
    Calls Try.prog 23 #[.int .i64 s, .slice A n c] w (RetH w) := by
  have H := hid (fun W => l3Key_any s W)
  rw [inB_true s0 s1] at H
  have H2 := hid (fun W (h : Cells W A (ints zs)) => l2Leaves_any A c n zs W hn h hm)
  have b0 : Below w.heap.size w (w.alloc (.cells #[.int .i64 0, .int .i64 0, .int .i64 0] 30)) := (Below.refl _ _).alloc (Nat.le_refl _) _
  cases hv : leavesB zs
  · rw [hv] at H2
    clear hv
    go_enter Try.func23, Try.ntmps23
    go_wp2_with fail
    refine (H.out _).mono ?_; rintro e w3 ⟨rfl, rfl⟩
    go_wp2_with fail
    refine (H2.out _ (hr.below b0)).mono ?_; rintro e w3 ⟨rfl, rfl⟩
    go_wp2
    obtain ⟨c0, c1, c2⟩ := (Blk.new w 30 [.int .i64 0, .int .i64 0, .int .i64 0]).three
    refine bodyPost_ret (v := .tuple #[hv ⟨0, 0, 0⟩, .bool false]) (by simp [results, Try.results23, go_sem, c0, c1, c2]) rfl ?_
    exact ⟨⟨0, 0, 0⟩, false, rfl, b0⟩
  · obtain ⟨hz, h16⟩ := leavesB_parts hv
    rw [hn.out] at h16
    rw [hv] at H2
    have Hv := hid hv
    clear hv hz
    go_enter Try.func23, Try.ntmps23
    go_wp2_with fail
    refine (H.out _).mono ?_; rintro e w3 ⟨rfl, rfl⟩
    go_wp2_with fail
    refine (H2.out _ (hr.below b0)).mono ?_; rintro e w3 ⟨rfl, rfl⟩
    go_wp2_with fail
    refine (treeDigest_any A c n zs _ hn (hr.below b0) hm hc hcm).mono ?_; rintro e w4 ⟨⟨d, rfl, -, d1, hd⟩, b4⟩
    have d0 := hd.out Hv.out
    have q4 := hid ((Blk.new w 30 [.int .i64 0, .int .i64 0, .int .i64 0]).below b4 (Blk.new w 30 [.int .i64 0, .int .i64 0, .int .i64 0]).lt)
    obtain ⟨c0, c1, c2⟩ := q4.out.three
    have f0 := q4.out.free 0
    have f1 := q4.out.free 1
    have f2 := q4.out.free 2
    have M := hid (fun W => l3Message_any n d W (by omega) (by omega) d0 (by omega))
    have hp := pairZ_bd n d
    generalize pairZ n d = z at M hp
    obtain ⟨z0, z1⟩ := hp
    have m0 : 0 ≤ s * (z + 1) := Int.mul_nonneg (by omega) (by omega)
    have m1 : s * (z + 1) ≤ 996 * 991 := Int.mul_le_mul (by omega) (by omega) (by omega) (by omega)
    have k4 : IntKind.i64.wrap (s * (z + 1)) = s * (z + 1) := IntWalk.i64_in _ (by omega)
    have k5 : (s * (z + 1)).tmod 997 = s * (z + 1) % 997 := Int.tmod_eq_emod_of_nonneg m0
    have k6 : IntKind.i64.wrap (s * (z + 1) % 997) = s * (z + 1) % 997 := IntWalk.i64_in _ (by omega)
    go_wp2_with fail
    refine (M.out _).mono ?_; rintro e w5 ⟨rfl, rfl⟩
    go_wp2
    have q5 := ((q4.out.set 0 (.int .i64 n)).set 1 (.int .i64 d)).set 2 (.int .i64 (s * (z + 1) % 997))
    obtain ⟨y0, y1, y2⟩ := Blk.three q5
    have hb := below_chg (below_chg (below_chg (below_step b0 b4) (chg_set _ (Nat.le_refl _) (Nat.lt_succ_self _) 0 (.int .i64 n)) (Nat.le_refl _)) (chg_set _ (Nat.le_refl _) (Nat.lt_succ_self _) 1 (.int .i64 d)) (Nat.le_refl _)) (chg_set _ (Nat.le_refl _) (Nat.lt_succ_self _) 2 (.int .i64 (s * (z + 1) % 997))) (Nat.le_refl _)
    refine bodyPost_ret (v := .tuple #[hv ⟨n, d, s * (z + 1) % 997⟩, .bool true]) (by simp [results, Try.results23, go_sem, y0, y1, y2]) rfl ?_
    exact ⟨⟨n, d, _⟩, true, rfl, hb⟩

end Go.Proofs.Ytpnahccmdebifaa
