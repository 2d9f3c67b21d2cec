/- Marks on texts. -/
import Derived.Test.YtihjjnmhionibaaJ9
import Derived.Laws.BytesArg
namespace Go.Proofs.Ytihjjnmhionibaa
open Go.RowKit

/-- One digit ahead of a text. -/
def chr (z : Int) : ByteArray := strOfNums [z]
theorem chr_size (z : Int) : (chr z).size = 1 := rfl
def mtF : Nat → Nat → ByteArray → ByteArray
  | 0, _, out => out
  | f + 1, k, out => if k = 0 then out else mtF f (k / 10) (chr (48 + (k : Int) % 10) ++ out)
theorem mtF_step (f : Nat) {q : Nat} (out : ByteArray) (h : q ≠ 0) : mtF (f + 1) q out = mtF f (q / 10) (chr (48 + (q : Int) % 10) ++ out) := by rw [mtF, if_neg h]
theorem run_chr (z : Int) (W : World) : (convert 33 9 (.slice (some ⟨W.heap.size, 0, none⟩) 1 1)).run Try.prog (W.alloc (.cells #[.int .u8 z] 5)) = .ok (.string (chr z)) (W.alloc (.cells #[.int .u8 z] 5)) := by
  refine run_convert_bytes_arg _ _ _ Try.underlying33 Try.underlying5 _ 0 1 1 [z] rfl (fun i hi => ?_) _ Try.underlying9
  obtain rfl : i = 0 := by omega
  simp

set_option maxHeartbeats 1000000 in
theorem markText_any (k : Nat) (w : World) (h0 : 1 ≤ k) (hk : k ≤ 17592186044416) :
    Calls Try.prog 63 #[.int .i64 k] w fun e w' => e = .returned (.string (⟨#[109]⟩ ++ mtF k k ⟨#[]⟩)) ∧ Below w.heap.size w w' := by
  have hcv := fun W z => run_chr z W
  have hcs := chr_size
  go_enter Try.func63, Try.ntmps63
  go_wp2
  go_loopw [0, 3] (fun i s wr => ∃ (q f : Nat) (out : ByteArray), i = .int .i64 q ∧ s = .string out ∧ q ≤ f ∧ q ≤ k ∧ out.size + q ≤ k ∧ Hid (mtF f q out = mtF k k ⟨#[]⟩) ∧ Below w.heap.size w wr) (fun i _ _ => (intOf i).toNat)
  case atStart => exact ⟨k, k, _, rfl, rfl, Nat.le_refl _, Nat.le_refl _, by simp [ByteArray.size], rfl, Below.refl _ _⟩
  case round =>
    obtain ⟨q, f, out, rfl, rfl, hqf, hqk, hsz, hm, hbel⟩ := hrel
    by_cases hq : 0 < q
    · have hst : Hid (mtF (f - 1) (q / 10) (chr (48 + (q : Int) % 10) ++ out) = mtF k k ⟨#[]⟩) := by
        obtain ⟨f', rfl⟩ : ∃ f', f = f' + 1 := ⟨f - 1, by omega⟩
        exact (mtF_step f' out (by omega)).symm.trans hm.out
      have hsz2 : Hid ((chr (48 + (q : Int) % 10) ++ out).size = out.size + 1) := by unfold Hid; rw [ByteArray.size_append, chr_size]; omega
      go_wp2
      go_roundw
      case rel => exact ⟨q / 10, f - 1, _, by go_num, rfl, by omega, by omega, by rw [hsz2.out]; omega, hst, hbel.alloc hbel.size _⟩
      case measure => simp [intOf]; omega
    · obtain rfl : q = 0 := by omega
      have he : Hid (out = mtF k k ⟨#[]⟩) := by
        rw [← hm.out]
        cases f <;> rfl
      go_wp2
      go_ret
      exact ⟨by rw [he.out]; rfl, hbel⟩

end Go.Proofs.Ytihjjnmhionibaa
