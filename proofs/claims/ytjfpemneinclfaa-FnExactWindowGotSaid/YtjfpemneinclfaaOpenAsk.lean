/- What an argument of requests reads as. -/
import Derived.Test.YtjfpemneinclfaaOpen
import Derived.Test.YtjfpemneinclfaaW1
import Derived.Deep.SlicePairs
import Derived.Lib.SmallJoins
namespace Go.Proofs.Ytjfpemneinclfaa
open Go.ChangeShapes Go.WideShapes Go.ChangeAt Go.RowKit Go.Deep Go.Joins

section
variable {H : Type} {enc : TypeId × Value → H} {W : World} {v : Value} {d : DataW H} {p : List MemPlace} {r : Reach} {b0 : Nat}

theorem askS_of {a : Addr} {len m : Nat} {n0 n1 : Nat → Int} (hm : len ≤ m) (hc : ∀ i, i < m → W.cell? (a.add (i * 2)) = some (.int .i64 (n0 i)) ∧ W.cell? (a.add (i * 2 + 1)) = some (.int .i64 (n1 i))) :
    Cells W (some a) (asks ((List.range len).map fun i => (n0 i, n1 i))) := by
  by_cases h0 : len = 0
  · left; simp [h0, asks]
  · obtain ⟨b, off, spot⟩ := a
    have h1 := (hc 0 (by omega)).1
    have hspot : spot = none := by simpa [Addr.add] using World.cell?_spot h1
    subst hspot
    refine .inr ⟨b, off, rfl, ?_, fun i u hu => ?_⟩
    · have := World.block_lt_of_cell? W _ h1
      simpa [Addr.add] using this
    · have hi := (List.getElem?_eq_some_iff.1 hu).1
      rw [asks_length, List.length_map, List.length_range] at hi
      have hk : ((List.range len).map fun i => (n0 i, n1 i))[i / 2]? = some (n0 (i / 2), n1 (i / 2)) := by
        rw [List.getElem?_map, List.getElem?_range (by omega)]; rfl
      have hg := asks_get hk
      have h2 := hc (i / 2) (by omega)
      rw [Addr.add_lit, Addr.add_lit] at h2
      rcases Nat.mod_two_eq_zero_or_one i with h | h
      · have e : i / 2 * 2 = i := by omega
        rw [e] at h2 hg
        rw [hg.1] at hu; injection hu with hu; subst hu; exact h2.1
      · have e : i / 2 * 2 + 1 = i := by omega
        rw [e] at h2 hg
        rw [hg.2] at hu; injection hu with hu; subst hu; exact h2.2

theorem open_askS (hv : Value.okWide Try.prog W r b0 22 v) (h : DataW.Trod enc Try.prog W 0 (fun _ => true) true 22 v d p) :
    ∃ A c l, v = .slice A l.length c ∧ Cells W A (asks l) ∧ l.length ≤ 9223372036854775807 := by
  obtain ⟨a0, len0, cap0, rfl⟩ := okWide_slice Try.underlying22 hv
  obtain ⟨fuel, hf⟩ := h
  rcases open_slice_pairs Try.underlying22 Try.underlying41 (by kernel_rfl) rfl rfl (by kernel_rfl) (by kernel_rfl) hf with ⟨hcs, _⟩ | ⟨a, len, cap, m, n, V0, V1, D0, D1, P0, P1, hcs, _, hl, hmx, hmm, _, hx⟩
  · simp [Value.cells] at hcs
    obtain ⟨rfl, rfl, rfl⟩ := hcs
    exact ⟨none, 0, [], rfl, .inl rfl, Nat.zero_le _⟩
  · simp [Value.cells] at hcs
    obtain ⟨rfl, rfl, rfl⟩ := hcs
    simp at hmm
    subst hmm
    have hx2 : ∀ i, i < m → ∃ z : Int × Int, W.cell? (a.add (i * 2)) = some (.int .i64 z.1) ∧ W.cell? (a.add (i * 2 + 1)) = some (.int .i64 z.2) := by
      intro i hi
      obtain ⟨g0, g1, t0, t1⟩ := hx i hi
      obtain ⟨z0, e0, _⟩ := DataW.trod_int Try.underlying3 t0
      obtain ⟨z1, e1, _⟩ := DataW.trod_int Try.underlying3 t1
      injection e0 with e0; injection e1 with e1
      exact ⟨(z0, z1), by rw [g0, e0], by rw [g1, e1]⟩
    obtain ⟨f, hfz⟩ := choose_lt hx2
    exact ⟨some a, m, (List.range len0).map fun i => ((f i).1, (f i).2), by simp, askS_of hl hfz, by simp only [maxLen] at hmx; simp; omega⟩

theorem open_ask (hv : Value.okWide Try.prog W r b0 41 v) (h : DataW.Trod enc Try.prog W 0 (fun _ => true) true 41 v d p) :
    ∃ x y : Int, v = .agg #[.int .i64 x, .int .i64 y] := by
  obtain ⟨v0, v1, y0, y1, n, rfl, _, _, t0, t1⟩ := open_agg2 Try.underlying41 (by kernel_rfl) (by kernel_rfl) hv h
  obtain ⟨z0, e0, _⟩ := DataW.trod_int Try.underlying3 t0
  obtain ⟨z1, e1, _⟩ := DataW.trod_int Try.underlying3 t1
  injection e0 with e0; injection e1 with e1
  subst e0; subst e1
  exact ⟨z0, z1, rfl⟩

theorem open_boolP (hv : Value.okWide Try.prog W r b0 4 v) (h : DataW.Trod enc Try.prog W 0 (fun _ => true) true 4 v d p) : ∃ n : Bool, v = .bool n := by
  obtain ⟨n, rfl, _, _⟩ := open_bool Try.underlying4 hv h
  exact ⟨n, rfl⟩
end

end Go.Proofs.Ytjfpemneinclfaa
