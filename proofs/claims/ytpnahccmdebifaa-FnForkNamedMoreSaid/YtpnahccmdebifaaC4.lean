/- Contracts of the laws' own helpers over ints: sameInts, hasInt. -/
import Derived.Test.YtpnahccmdebifaaC1
namespace Go.Proofs.Ytpnahccmdebifaa
open Go.RowKit

set_option maxHeartbeats 400000 in
theorem sameInts_true (A B : Option Addr) (c d : Nat) (zs : List Int) (w : World) (hA : Cells w A (ints zs)) (hB : Cells w B (ints zs)) (hm : zs.length ≤ 17592186044416) :
    Calls Try.prog 8 #[.slice A zs.length c, .slice B zs.length d] w (RetB w true) := by
  go_enter Try.func8, Try.ntmps8
  go_wp2
  go_loopw [5] (fun i wr => ∃ k : Nat, k ≤ zs.length ∧ i = .int .i64 k ∧ ∃ n, wr = w.drewN n) (fun i _ => zs.length - (intOf i).toNat)
  case atStart => exact ⟨0, Nat.zero_le _, rfl, 0, rfl⟩
  case round =>
    obtain ⟨k, hk, rfl, n, rfl⟩ := hrel
    by_cases hlt : k < zs.length
    · obtain ⟨b, off, z, rfl, hz, hc⟩ := hA.int_at hlt
      obtain ⟨b2, off2, rfl, hc2⟩ := hB.int_of hz.out
      go_wp2
      go_quiet (fail)
      go_wp2
      go_roundw
      case rel => exact ⟨k + 1, by omega, by go_num, _, rfl⟩
      case measure => simp [intOf]; omega
    · go_wp2
      go_ret
      exact ⟨rfl, below_drawn _ _ _⟩

theorem hasB_no {zs : List Int} {x : Int} (h : ∀ z ∈ zs, z ≠ x) : decide (x ∈ zs) = false := by
  rw [decide_eq_false_iff_not]
  exact fun hx => h x hx rfl

set_option maxHeartbeats 400000 in
theorem hasInt_any (A : Option Addr) (c : Nat) (zs : List Int) (x : Int) (w : World) (hA : Cells w A (ints zs)) (hm : zs.length ≤ 17592186044416) :
    Calls Try.prog 10 #[.slice A zs.length c, .int .i64 x] w fun e w' => e = .returned (.bool (decide (x ∈ zs))) ∧ w = w' := by
  go_enter Try.func10, Try.ntmps10
  go_wp2
  go_loop [5] (fun i => ∃ k : Nat, k ≤ zs.length ∧ i = .int .i64 k ∧ Hid (∀ z ∈ zs.take k, z ≠ x)) (fun i => zs.length - (intOf i).toNat)
  case atStart => exact ⟨0, Nat.zero_le _, rfl, by simp [Hid]⟩
  case round =>
    obtain ⟨k, hk, rfl, hall⟩ := hrel
    by_cases hlt : k < zs.length
    · obtain ⟨b, off, z, rfl, hz, hc⟩ := hA.int_at hlt
      by_cases hzx : z = x
      · subst hzx
        go_wp2
        go_ret
        exact ⟨ret_bool (by have := List.mem_of_getElem? hz.out; simp [this]), rfl⟩
      · have hb : (z == x) = false := by rw [beq_eq_false_iff_ne]; exact hzx
        have hn := hid hzx
        clear hzx
        go_wp2
        go_round
        case rel => exact ⟨k + 1, by omega, by go_num, by unfold Hid; rw [take_snoc _ _ _ hz.out]; intro y hy; rcases List.mem_append.1 hy with h | h; exact hall.out y h; simp at h; subst h; exact hn.out⟩
        case measure => simp [intOf]; omega
    · go_wp2
      go_ret
      exact ⟨ret_bool (hasB_no (zs := zs) (x := x) (fun z hz => hall.out z (by rw [List.take_of_length_le (by omega)]; exact hz))).symm, rfl⟩

end Go.Proofs.Ytpnahccmdebifaa
