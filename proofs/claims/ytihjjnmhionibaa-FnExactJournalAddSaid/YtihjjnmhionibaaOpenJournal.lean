/- What a journal reads as (under way: not built). -/
import Derived.Test.YtihjjnmhionibaaOpen
import Derived.Test.YtihjjnmhionibaaJ1
import Derived.Deep.SlicePairs
import Derived.Lib.SmallJoins
namespace Go.Proofs.Ytihjjnmhionibaa
open Go.ChangeShapes Go.WideShapes Go.ChangeAt Go.RowKit Go.Deep Go.Joins

section
variable {H : Type} {enc : TypeId × Value → H} {W : World} {v : Value} {d : DataW H} {p : List MemPlace} {r : Reach} {b0 : Nat}

theorem recS_of {a : Addr} {len m : Nat} {n0 : Nat → Int} {n1 : Nat → ByteArray} (hm : len ≤ m) (hc : ∀ i, i < m → W.cell? (a.add (i * 2)) = some (.int .i64 (n0 i)) ∧ W.cell? (a.add (i * 2 + 1)) = some (.string (n1 i))) :
    Cells W (some a) (recs ((List.range len).map fun i => (n0 i, n1 i))) := by
  by_cases h0 : len = 0
  · left; simp [h0, recs]
  · obtain ⟨b, off, spot⟩ := a
    have h1 := (hc 0 (by omega)).1
    have hspot : spot = none := by simpa [Addr.add] using World.cell?_spot h1
    subst hspot
    refine .inr ⟨b, off, rfl, ?_, fun i u hu => ?_⟩
    · have := World.block_lt_of_cell? W _ h1
      simpa [Addr.add] using this
    · have hi := (List.getElem?_eq_some_iff.1 hu).1
      rw [recs_length, List.length_map, List.length_range] at hi
      have hk : ((List.range len).map fun i => (n0 i, n1 i))[i / 2]? = some (n0 (i / 2), n1 (i / 2)) := by
        rw [List.getElem?_map, List.getElem?_range (by omega)]; rfl
      have hg := recs_get hk
      have h2 := hc (i / 2) (by omega)
      rw [Addr.add_lit, Addr.add_lit] at h2
      rcases Nat.mod_two_eq_zero_or_one i with h | h
      · have e : i / 2 * 2 = i := by omega
        rw [e] at h2 hg
        rw [hg.1] at hu; injection hu with hu; subst hu; exact h2.1
      · have e : i / 2 * 2 + 1 = i := by omega
        rw [e] at h2 hg
        rw [hg.2] at hu; injection hu with hu; subst hu; exact h2.2

theorem open_recF {fuel : Nat} {v0 : Value} {y : DataW H × List MemPlace} (hf : DataW.trod enc Try.prog W 0 (fun _ => true) true fuel 22 [v0] = some y) :
    ∃ A c l, v0 = .slice A l.length c ∧ Cells W A (recs l) ∧ l.length ≤ 9223372036854775807 ∧ ∀ x ∈ l, x.2.size ≤ 9223372036854775807 := by
  rcases open_slice_pairs Try.underlying22 Try.underlying55 (by kernel_rfl) rfl rfl (by kernel_rfl) (by kernel_rfl) hf with ⟨hcs, _⟩ | ⟨a, len, cap, m, n, V0, V1, D0, D1, P0, P1, hcs, _, hl, hmx, hmm, _, hx⟩
  · simp at hcs
    subst hcs
    exact ⟨none, 0, [], rfl, .inl rfl, Nat.zero_le _, by simp⟩
  · simp at hcs
    subst hcs
    simp at hmm
    subst hmm
    have hx2 : ∀ i, i < m → ∃ z : RecT, (W.cell? (a.add (i * 2)) = some (.int .i64 z.1) ∧ W.cell? (a.add (i * 2 + 1)) = some (.string z.2)) ∧ z.2.size ≤ 9223372036854775807 := by
      intro i hi
      obtain ⟨g0, g1, t0, t1⟩ := hx i hi
      obtain ⟨z0, e0, _⟩ := DataW.trod_int Try.underlying3 t0
      obtain ⟨z1, e1, _, hz1⟩ := DataW.trod_string Try.underlying9 t1
      injection e0 with e0; injection e1 with e1
      exact ⟨(z0, z1), ⟨by rw [g0, e0], by rw [g1, e1]⟩, by simp only [maxLen] at hz1; omega⟩
    obtain ⟨f, hfz⟩ := choose_lt hx2
    exact ⟨some a, m, (List.range len).map fun i => ((f i).1, (f i).2), by simp, recS_of hl (fun i hi => (hfz i hi).1), by simp only [maxLen] at hmx; simp; omega, by intro x hx; simp only [List.mem_map, List.mem_range] at hx; obtain ⟨i, hi, rfl⟩ := hx; exact (hfz i (by omega)).2⟩

theorem open_journal (hv : Value.okWide Try.prog W r b0 24 v) (h : DataW.Trod enc Try.prog W 0 (fun _ => true) true 24 v d p) :
    ∃ A c l, ∃ s : Int, v = .agg #[.slice A l.length c, .int .i64 s] ∧ Cells W A (recs l) ∧ l.length ≤ 9223372036854775807 ∧ ∀ x ∈ l, x.2.size ≤ 9223372036854775807 := by
  obtain ⟨v0, v1, y0, y1, n, rfl, o0, _, t0, t1⟩ := open_agg2 Try.underlying24 (by kernel_rfl) (by kernel_rfl) hv h
  obtain ⟨A, c, l, rfl, h1, h2, h3⟩ := open_recF t0
  obtain ⟨z1, e1, _⟩ := DataW.trod_int Try.underlying3 t1
  injection e1 with e1
  subst e1
  exact ⟨A, c, l, z1, rfl, h1, h2, h3⟩
end

end Go.Proofs.Ytihjjnmhionibaa
