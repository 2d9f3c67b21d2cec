/- What a record reads as. -/
import Derived.Test.YtihjjnmhionibaaOpenJournal
namespace Go.Proofs.Ytihjjnmhionibaa
open Go.ChangeShapes Go.WideShapes Go.ChangeAt Go.RowKit Go.Deep Go.Joins

section
variable {H : Type} {enc : TypeId × Value → H} {W : World} {v : Value} {d : DataW H} {p : List MemPlace} {r : Reach} {b0 : Nat}
theorem open_record (hv : Value.okWide Try.prog W r b0 55 v) (h : DataW.Trod enc Try.prog W 0 (fun _ => true) true 55 v d p) :
    ∃ (i : Int) (t : ByteArray), v = .agg #[.int .i64 i, .string t] ∧ t.size ≤ 9223372036854775807 := by
  obtain ⟨v0, v1, y0, y1, n, rfl, o0, _, t0, t1⟩ := open_agg2 Try.underlying55 (by kernel_rfl) (by kernel_rfl) hv h
  obtain ⟨z0, e0, _⟩ := DataW.trod_int Try.underlying3 t0
  obtain ⟨z1, e1, _, hz1⟩ := DataW.trod_string Try.underlying9 t1
  injection e0 with e0; injection e1 with e1
  subst e0; subst e1
  exact ⟨z0, z1, rfl, by simp only [maxLen] at hz1; omega⟩
end

end Go.Proofs.Ytihjjnmhionibaa
