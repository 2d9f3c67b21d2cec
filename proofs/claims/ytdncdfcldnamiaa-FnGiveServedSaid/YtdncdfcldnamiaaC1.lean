/- Contracts of the small helpers over slices of int: copies, comparisons, marks. -/
import Derived.Test.YtdncdfcldnamiaaBase
import Derived.Test.YtdncdfcldnamiaaChecked
namespace Go.Proofs.Ytdncdfcldnamiaa
open Go.RowKit

theorem info_int : (Try.prog.info? 3).map (fun i => (i.zero, i.size, i.bytes)) = some (some (.int .i64 0), 1, 8) := by kernel_rfl

/-- A slice of ints in new memory; nothing that was there has changed. -/
def RetInts (w : World) (zs : List Int) (e : Ending) (w' : World) : Prop :=
  ∃ A c, e = .returned (.slice A zs.length c) ∧ Own w' w.heap.size w'.heap.size 3 1 A c zs.length (ints zs) ∧ Below w.heap.size w w'
/-- A bool, and nothing that was there has changed. -/
def RetB (w : World) (b : Bool) (e : Ending) (w' : World) : Prop := e = .returned (.bool b) ∧ Below w.heap.size w w'

def inB (n lo hi : Int) : Bool := decide (lo ≤ n ∧ n ≤ hi)

set_option maxHeartbeats 400000 in
theorem l6In_any (n lo hi : Int) (w : World) : Calls Try.prog 37 #[.int .i64 n, .int .i64 lo, .int .i64 hi] w fun e w' => e = .returned (.bool (inB n lo hi)) ∧ w = w' := by
  go_enter Try.func37, Try.ntmps37
  go_wp2
  all_goals go_ret
  all_goals (refine ⟨?_, rfl⟩; unfold inB; simp_all)
  all_goals omega

set_option maxHeartbeats 400000 in
theorem within_any (n lo hi : Int) (w : World) : Calls Try.prog 38 #[.int .i64 n, .int .i64 lo, .int .i64 hi] w fun e w' => e = .returned (.bool (inB n lo hi)) ∧ w = w' := by
  go_enter Try.func38, Try.ntmps38
  go_wp2
  all_goals go_ret
  all_goals (refine ⟨?_, rfl⟩; unfold inB; simp_all)
  all_goals omega

set_option maxHeartbeats 400000 in
theorem toIntS_any (A : Option Addr) (c : Nat) (zs : List Int) (w : World) (hr : Cells w A (ints zs)) (hm : zs.length ≤ 17592186044416) :
    Calls Try.prog 18 #[.slice A zs.length c] w (RetInts w zs) := by
  have hmk := fun W => run_make_ints (P := Try.prog) 22 3 Try.underlying22 info_int rfl zs.length (by omega) (by omega) W
  go_enter Try.func18, Try.ntmps18
  go_wp2
  go_loopw [4] (fun i wr => ∃ k : Nat, k ≤ zs.length ∧ i = .int .i64 k ∧ Below w.heap.size w wr ∧ Blk wr w.heap.size 3 (part zs k)) (fun i _ => zs.length - (intOf i).toNat)
  case atStart => exact ⟨0, Nat.zero_le _, rfl, (Below.refl _ _).alloc (Nat.le_refl _) _, by rw [part_zero]; exact Blk.new _ _ _⟩
  case round =>
    obtain ⟨k, hk, rfl, hbel, hblk⟩ := hrel
    have hr' := hr.below hbel
    by_cases hlt : k < zs.length
    · obtain ⟨b, off, z, rfl, hz, hc⟩ := hr'.int_at hlt
      have hcell := hblk.cell k
      rw [part_at zs hlt] at hcell
      have hfr := hblk.free k
      have hb2 := hid hblk
      clear hblk
      go_wp2
      go_roundw
      case rel => exact ⟨k + 1, by omega, by go_num, hbel.setCell (Nat.le_refl _) _, by rw [← part_set zs hz.out]; exact hb2.out.set _ _⟩
      case measure => simp [intOf]; omega
    · obtain rfl : k = zs.length := by omega
      rw [part_all] at hblk
      have hb2 := hid hblk
      clear hblk hlt
      go_wp2
      go_ret
      exact ⟨_, _, rfl, Own.of_row (hb2.out.own (Nat.le_refl _) (ints_length zs) (by simp only [maxLen]; omega)), hbel⟩

set_option maxHeartbeats 400000 in
theorem eqIntS_true (A B : Option Addr) (c d : Nat) (zs : List Int) (w : World) (hA : Cells w A (ints zs)) (hB : Cells w B (ints zs)) (hm : zs.length ≤ 17592186044416) :
    Calls Try.prog 20 #[.slice A zs.length c, .slice B zs.length d] w (RetB w true) := by
  go_enter Try.func20, Try.ntmps20
  go_wp2
  go_loopw [5] (fun i wr => ∃ k : Nat, k ≤ zs.length ∧ i = .int .i64 k ∧ ∃ n, wr = w.drewN n) (fun i _ => zs.length - (intOf i).toNat)
  case atStart => exact ⟨0, Nat.zero_le _, rfl, 0, rfl⟩
  case round =>
    obtain ⟨k, hk, rfl, n, rfl⟩ := hrel
    by_cases hlt : k < zs.length
    · obtain ⟨b, off, z, rfl, hz, hc⟩ := hA.int_at hlt
      obtain ⟨b2, off2, rfl, hc2⟩ := hB.int_of hz.out
      go_wp2
      go_quiet (fail)
      go_wp2
      go_roundw
      case rel => exact ⟨k + 1, by omega, by go_num, _, rfl⟩
      case measure => simp [intOf]; omega
    · go_wp2
      go_ret
      exact ⟨rfl, below_drawn _ _ _⟩

set_option maxHeartbeats 400000 in
theorem markIntS_any (A : Option Addr) (c lo hi : Nat) (zs : List Int) (k : Int) (w : World) (ho : Own w lo hi 3 1 A c zs.length (ints zs)) (hm : zs.length ≤ 17592186044416) (hk0 : 0 ≤ k) (hk : k ≤ 17592186044416) :
    Calls Try.prog 21 #[.slice A zs.length c, .int .i64 k] w fun e w' => e = .returned (.int .i64 (k + zs.length)) ∧ Own w' lo hi 3 1 A c zs.length (ints (upw k zs.length)) ∧ Chg lo hi w w' := by
  go_enter Try.func21, Try.ntmps21
  go_wp2
  go_loopw [1, 5] (fun q i wr => ∃ j : Nat, j ≤ zs.length ∧ i = .int .i64 j ∧ q = .int .i64 (k + j) ∧ Own wr lo hi 3 1 A c zs.length (ints ((upw k zs.length).take j ++ zs.drop j)) ∧ Chg lo hi w wr) (fun _ i _ => zs.length - (intOf i).toNat)
  case atStart => exact ⟨0, Nat.zero_le _, rfl, by simp, by simpa using ho, Chg.refl _ _ _⟩
  case round =>
    obtain ⟨j, hj, rfl, rfl, ho', hch⟩ := hrel
    by_cases hlt : j < zs.length
    · have hl : j < (ints ((upw k zs.length).take j ++ zs.drop j)).length := by simp [ints, upw_length]; omega
      obtain ⟨g, v, rfl, hlo, hhi, _, hc, hf⟩ := ho'.at_ hl
      have hs2 := hid (mark_step k zs j hlt)
      have ho2 := hid ho'
      clear ho' ho hl
      go_wp2
      go_roundw
      case rel => exact ⟨j + 1, by omega, by go_num, by go_num, by rw [← hs2.out]; exact ho2.out.set _ _, hch.trans (chg_set _ hlo hhi _ _)⟩
      case measure => simp [intOf]; omega
    · obtain rfl : j = zs.length := by omega
      have ho2 : Hid (Own wr lo hi 3 1 A c zs.length (ints (upw k zs.length))) := by
        have : (upw k zs.length).take zs.length = upw k zs.length := List.take_of_length_le (by rw [upw_length]; exact Nat.le_refl _)
        simpa [this, Hid] using ho'
      clear ho' ho hlt
      go_wp2
      go_ret
      exact ⟨rfl, ho2.out, hch⟩

set_option maxHeartbeats 400000 in
theorem heldIntS_any (A : Option Addr) (c n : Nat) (k : Int) (w : World) (hA : Cells w A (ints (upw k n))) (hm : n ≤ 17592186044416) (hk0 : 0 ≤ k) (hk : k ≤ 17592186044416) :
    Calls Try.prog 22 #[.slice A n c, .int .i64 k] w fun e w' => e = .returned (.int .i64 (k + n)) ∧ Below w.heap.size w w' := by
  go_enter Try.func22, Try.ntmps22
  go_wp2
  go_loop [1, 5] (fun q i => ∃ j : Nat, j ≤ n ∧ i = .int .i64 j ∧ q = .int .i64 (k + j)) (fun _ i => n - (intOf i).toNat)
  case atStart => exact ⟨0, Nat.zero_le _, rfl, by simp⟩
  case round =>
    obtain ⟨j, hj, rfl, rfl⟩ := hrel
    by_cases hlt : j < n
    · obtain ⟨b, off, rfl, hc⟩ := hA.int_of (upw_get k n j hlt)
      clear hA
      go_wp2
      go_round
      case rel => exact ⟨j + 1, by omega, by go_num, by go_num⟩
      case measure => simp [intOf]; omega
    · obtain rfl : j = n := by omega
      go_wp2
      go_ret
      exact ⟨rfl, Below.refl _ _⟩

end Go.Proofs.Ytdncdfcldnamiaa
