/- Comparisons of texts and of bools. -/
import Derived.Test.YtihjjnmhionibaaJ12
namespace Go.Proofs.Ytihjjnmhionibaa
open Go.RowKit

theorem Cells.cell_at {w : World} {A : Option Addr} {xs : List Value} (h : Cells w A xs) {k : Nat} {v : Value} (hv : xs[k]? = some v) : ∃ b off, A = some ⟨b, off, none⟩ ∧ w.cell? ⟨b, off + k, none⟩ = some v := h.of_get hv

set_option maxHeartbeats 400000 in
theorem eqBoolS_true (A B : Option Addr) (c d : Nat) (bs : List Bool) (w : World) (hA : Cells w A (bools bs)) (hB : Cells w B (bools bs)) (hm : bs.length ≤ 17592186044416) :
    Calls Try.prog 43 #[.slice A bs.length c, .slice B bs.length d] w (RetB w true) := by
  go_enter Try.func43, Try.ntmps43
  go_wp2
  go_loopw [5] (fun i wr => ∃ k : Nat, k ≤ bs.length ∧ i = .int .i64 k ∧ ∃ n, wr = w.drewN n) (fun i _ => bs.length - (intOf i).toNat)
  case atStart => exact ⟨0, Nat.zero_le _, rfl, 0, rfl⟩
  case round =>
    obtain ⟨k, hk, rfl, n, rfl⟩ := hrel
    by_cases hlt : k < bs.length
    · obtain ⟨z, hz⟩ : ∃ z, bs[k]? = some z := ⟨_, List.getElem?_eq_getElem hlt⟩
      obtain ⟨b, off, rfl, hc⟩ := hA.cell_at (bools_get hz)
      obtain ⟨b2, off2, rfl, hc2⟩ := hB.cell_at (bools_get hz)
      clear hz
      go_wp2
      go_quiet (fail)
      go_wp2
      go_roundw
      case rel => exact ⟨k + 1, by omega, by go_num, _, rfl⟩
      case measure => simp [intOf]; omega
    · go_wp2
      go_ret
      exact ⟨rfl, below_drawn _ _ _⟩

set_option maxHeartbeats 400000 in
theorem sameBools_true (A B : Option Addr) (c d : Nat) (bs : List Bool) (w : World) (hA : Cells w A (bools bs)) (hB : Cells w B (bools bs)) (hm : bs.length ≤ 17592186044416) :
    Calls Try.prog 39 #[.slice A bs.length c, .slice B bs.length d] w (RetB w true) := by
  go_enter Try.func39, Try.ntmps39
  go_wp2
  go_loopw [5] (fun i wr => ∃ k : Nat, k ≤ bs.length ∧ i = .int .i64 k ∧ ∃ n, wr = w.drewN n) (fun i _ => bs.length - (intOf i).toNat)
  case atStart => exact ⟨0, Nat.zero_le _, rfl, 0, rfl⟩
  case round =>
    obtain ⟨k, hk, rfl, n, rfl⟩ := hrel
    by_cases hlt : k < bs.length
    · obtain ⟨z, hz⟩ : ∃ z, bs[k]? = some z := ⟨_, List.getElem?_eq_getElem hlt⟩
      obtain ⟨b, off, rfl, hc⟩ := hA.cell_at (bools_get hz)
      obtain ⟨b2, off2, rfl, hc2⟩ := hB.cell_at (bools_get hz)
      clear hz
      go_wp2
      go_quiet (fail)
      go_wp2
      go_roundw
      case rel => exact ⟨k + 1, by omega, by go_num, _, rfl⟩
      case measure => simp [intOf]; omega
    · go_wp2
      go_ret
      exact ⟨rfl, below_drawn _ _ _⟩

set_option maxHeartbeats 400000 in
theorem eqStringS_true (A B : Option Addr) (c d : Nat) (bs : List ByteArray) (w : World) (hA : Cells w A (strs bs)) (hB : Cells w B (strs bs)) (hm : bs.length ≤ 17592186044416) :
    Calls Try.prog 42 #[.slice A bs.length c, .slice B bs.length d] w (RetB w true) := by
  go_enter Try.func42, Try.ntmps42
  go_wp2
  go_loopw [5] (fun i wr => ∃ k : Nat, k ≤ bs.length ∧ i = .int .i64 k ∧ ∃ n, wr = w.drewN n) (fun i _ => bs.length - (intOf i).toNat)
  case atStart => exact ⟨0, Nat.zero_le _, rfl, 0, rfl⟩
  case round =>
    obtain ⟨k, hk, rfl, n, rfl⟩ := hrel
    by_cases hlt : k < bs.length
    · obtain ⟨z, hz⟩ : ∃ z, bs[k]? = some z := ⟨_, List.getElem?_eq_getElem hlt⟩
      obtain ⟨b, off, rfl, hc⟩ := hA.cell_at (strs_get hz)
      obtain ⟨b2, off2, rfl, hc2⟩ := hB.cell_at (strs_get hz)
      clear hz
      go_wp2
      go_quiet (fail)
      go_wp2
      go_roundw
      case rel => exact ⟨k + 1, by omega, by go_num, _, rfl⟩
      case measure => simp [intOf]; omega
    · go_wp2
      go_ret
      exact ⟨rfl, below_drawn _ _ _⟩

set_option maxHeartbeats 400000 in
theorem sameTexts_true (A B : Option Addr) (c d : Nat) (bs : List ByteArray) (w : World) (hA : Cells w A (strs bs)) (hB : Cells w B (strs bs)) (hm : bs.length ≤ 17592186044416) :
    Calls Try.prog 38 #[.slice A bs.length c, .slice B bs.length d] w (RetB w true) := by
  go_enter Try.func38, Try.ntmps38
  go_wp2
  go_loopw [5] (fun i wr => ∃ k : Nat, k ≤ bs.length ∧ i = .int .i64 k ∧ ∃ n, wr = w.drewN n) (fun i _ => bs.length - (intOf i).toNat)
  case atStart => exact ⟨0, Nat.zero_le _, rfl, 0, rfl⟩
  case round =>
    obtain ⟨k, hk, rfl, n, rfl⟩ := hrel
    by_cases hlt : k < bs.length
    · obtain ⟨z, hz⟩ : ∃ z, bs[k]? = some z := ⟨_, List.getElem?_eq_getElem hlt⟩
      obtain ⟨b, off, rfl, hc⟩ := hA.cell_at (strs_get hz)
      obtain ⟨b2, off2, rfl, hc2⟩ := hB.cell_at (strs_get hz)
      clear hz
      go_wp2
      go_quiet (fail)
      go_wp2
      go_roundw
      case rel => exact ⟨k + 1, by omega, by go_num, _, rfl⟩
      case measure => simp [intOf]; omega
    · go_wp2
      go_ret
      exact ⟨rfl, below_drawn _ _ _⟩

end Go.Proofs.Ytihjjnmhionibaa
