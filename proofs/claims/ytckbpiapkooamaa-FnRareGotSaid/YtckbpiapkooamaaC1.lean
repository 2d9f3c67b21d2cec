/- Contracts of the small helpers over slices of int: copies, comparisons, marks. -/
import Derived.Test.YtckbpiapkooamaaBase
import Derived.Test.YtckbpiapkooamaaChecked
namespace Go.Proofs.Ytckbpiapkooamaa
open Go.RowKit

theorem info_int : (Try.prog.info? 3).map (fun i => (i.zero, i.size, i.bytes)) = some (some (.int .i64 0), 1, 8) := by kernel_rfl

/-- A slice of ints in new memory; nothing that was there has changed. -/
def RetInts (w : World) (zs : List Int) (e : Ending) (w' : World) : Prop :=
  ∃ A c, e = .returned (.slice A zs.length c) ∧ Own w' w.heap.size w'.heap.size 3 1 A c zs.length (ints zs) ∧ Below w.heap.size w w'
/-- A bool, and nothing that was there has changed. -/
def RetB (w : World) (b : Bool) (e : Ending) (w' : World) : Prop := e = .returned (.bool b) ∧ Below w.heap.size w w'

def inB (n lo hi : Int) : Bool := decide (lo ≤ n ∧ n ≤ hi)

set_option maxHeartbeats 400000 in
theorem l6In_any (n lo hi : Int) (w : World) : Calls Try.prog 44 #[.int .i64 n, .int .i64 lo, .int .i64 hi] w fun e w' => e = .returned (.bool (inB n lo hi)) ∧ w = w' := by
  go_enter Try.func44, Try.ntmps44
  go_wp2
  all_goals go_ret
  all_goals (refine ⟨?_, rfl⟩; unfold inB; simp_all)
  all_goals omega
set_option maxHeartbeats 400000 in
theorem within_any (n lo hi : Int) (w : World) : Calls Try.prog 47 #[.int .i64 n, .int .i64 lo, .int .i64 hi] w fun e w' => e = .returned (.bool (inB n lo hi)) ∧ w = w' := by
  go_enter Try.func47, Try.ntmps47
  go_wp2
  all_goals go_ret
  all_goals (refine ⟨?_, rfl⟩; unfold inB; simp_all)
  all_goals omega
set_option maxHeartbeats 400000 in
theorem eqIntS_true (A B : Option Addr) (c d : Nat) (zs : List Int) (w : World) (hA : Cells w A (ints zs)) (hB : Cells w B (ints zs)) (hm : zs.length ≤ 17592186044416) :
    Calls Try.prog 37 #[.slice A zs.length c, .slice B zs.length d] w (RetB w true) := by
  go_enter Try.func37, Try.ntmps37
  go_wp2
  go_loopw [5] (fun i wr => ∃ k : Nat, k ≤ zs.length ∧ i = .int .i64 k ∧ ∃ n, wr = w.drewN n) (fun i _ => zs.length - (intOf i).toNat)
  case atStart => exact ⟨0, Nat.zero_le _, rfl, 0, rfl⟩
  case round =>
    obtain ⟨k, hk, rfl, n, rfl⟩ := hrel
    by_cases hlt : k < zs.length
    · obtain ⟨b, off, z, rfl, hz, hc⟩ := hA.int_at hlt
      obtain ⟨b2, off2, rfl, hc2⟩ := hB.int_of hz.out
      go_wp2
      go_quiet (fail)
      go_wp2
      go_roundw
      case rel => exact ⟨k + 1, by omega, by go_num, _, rfl⟩
      case measure => simp [intOf]; omega
    · go_wp2
      go_ret
      exact ⟨rfl, below_drawn _ _ _⟩
set_option maxHeartbeats 400000 in
theorem markIntS_any (A : Option Addr) (c lo hi : Nat) (zs : List Int) (k : Int) (w : World) (ho : Own w lo hi 3 1 A c zs.length (ints zs)) (hm : zs.length ≤ 17592186044416) (hk0 : 0 ≤ k) (hk : k ≤ 17592186044416) :
    Calls Try.prog 40 #[.slice A zs.length c, .int .i64 k] w fun e w' => e = .returned (.int .i64 (k + zs.length)) ∧ Own w' lo hi 3 1 A c zs.length (ints (upw k zs.length)) ∧ Chg lo hi w w' := by
  go_enter Try.func40, Try.ntmps40
  go_wp2
  go_loopw [1, 5] (fun q i wr => ∃ j : Nat, j ≤ zs.length ∧ i = .int .i64 j ∧ q = .int .i64 (k + j) ∧ Own wr lo hi 3 1 A c zs.length (ints ((upw k zs.length).take j ++ zs.drop j)) ∧ Chg lo hi w wr) (fun _ i _ => zs.length - (intOf i).toNat)
  case atStart => exact ⟨0, Nat.zero_le _, rfl, by simp, by simpa using ho, Chg.refl _ _ _⟩
  case round =>
    obtain ⟨j, hj, rfl, rfl, ho', hch⟩ := hrel
    by_cases hlt : j < zs.length
    · have hl : j < (ints ((upw k zs.length).take j ++ zs.drop j)).length := by simp [ints, upw_length]; omega
      obtain ⟨g, v, rfl, hlo, hhi, _, hc, hf⟩ := ho'.at_ hl
      have hs2 := hid (mark_step k zs j hlt)
      have ho2 := hid ho'
      clear ho' ho hl
      go_wp2
      go_roundw
      case rel => exact ⟨j + 1, by omega, by go_num, by go_num, by rw [← hs2.out]; exact ho2.out.set _ _, hch.trans (chg_set _ hlo hhi _ _)⟩
      case measure => simp [intOf]; omega
    · obtain rfl : j = zs.length := by omega
      have ho2 : Hid (Own wr lo hi 3 1 A c zs.length (ints (upw k zs.length))) := by
        have : (upw k zs.length).take zs.length = upw k zs.length := List.take_of_length_le (by rw [upw_length]; exact Nat.le_refl _)
        simpa [this, Hid] using ho'
      clear ho' ho hlt
      go_wp2
      go_ret
      exact ⟨rfl, ho2.out, hch⟩
set_option maxHeartbeats 400000 in
theorem heldIntS_any (A : Option Addr) (c n : Nat) (k : Int) (w : World) (hA : Cells w A (ints (upw k n))) (hm : n ≤ 17592186044416) (hk0 : 0 ≤ k) (hk : k ≤ 17592186044416) :
    Calls Try.prog 41 #[.slice A n c, .int .i64 k] w fun e w' => e = .returned (.int .i64 (k + n)) ∧ Below w.heap.size w w' := by
  go_enter Try.func41, Try.ntmps41
  go_wp2
  go_loop [1, 5] (fun q i => ∃ j : Nat, j ≤ n ∧ i = .int .i64 j ∧ q = .int .i64 (k + j)) (fun _ i => n - (intOf i).toNat)
  case atStart => exact ⟨0, Nat.zero_le _, rfl, by simp⟩
  case round =>
    obtain ⟨j, hj, rfl, rfl⟩ := hrel
    by_cases hlt : j < n
    · obtain ⟨b, off, rfl, hc⟩ := hA.int_of (upw_get k n j hlt)
      clear hA
      go_wp2
      go_round
      case rel => exact ⟨j + 1, by omega, by go_num, by go_num⟩
      case measure => simp [intOf]; omega
    · obtain rfl : j = n := by omega
      go_wp2
      go_ret
      exact ⟨rfl, Below.refl _ _⟩

end Go.Proofs.Ytckbpiapkooamaa
