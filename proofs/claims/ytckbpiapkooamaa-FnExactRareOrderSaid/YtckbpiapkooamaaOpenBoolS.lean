/- What arguments of bits, and of rows of bits, read as. -/
import Derived.Test.YtckbpiapkooamaaOpen
import Derived.Test.YtckbpiapkooamaaR1
import Derived.Deep.Grids
namespace Go.Proofs.Ytckbpiapkooamaa
open Go.ChangeShapes Go.WideShapes Go.ChangeAt Go.RowKit Go.Deep

section
variable {H : Type} {enc : TypeId × Value → H} {W : World} {v : Value} {d : DataW H} {p : List MemPlace} {r : Reach} {b0 : Nat}

theorem boolS_of {a : Addr} {len cap : Nat} {B : Nat → Bool} (hl : len ≤ cap) (hc : ∀ i, i < cap → W.cell? (a.add i) = some (.bool (B i))) : Cells W (some a) (bools ((List.range len).map B)) := by
  by_cases h0 : len = 0
  · left; simp [h0, bools]
  · obtain ⟨b, off, spot⟩ := a
    have h1 := hc 0 (by omega)
    have hspot : spot = none := by simpa [Addr.add] using World.cell?_spot h1
    subst hspot
    refine .inr ⟨b, off, rfl, ?_, fun i u hu => ?_⟩
    · have := World.block_lt_of_cell? W _ h1
      simpa [Addr.add] using this
    · have hi := (List.getElem?_eq_some_iff.1 hu).1
      rw [bools_length, List.length_map, List.length_range] at hi
      have h2 := hc i (by omega)
      rw [Addr.add_lit] at h2
      rw [h2, ← hu]
      exact (bools_get (by rw [List.getElem?_map, List.getElem?_range hi]; rfl)).symm

theorem open_boolS (hv : Value.okWide Try.prog W r b0 31 v) (h : DataW.Trod enc Try.prog W 0 (fun _ => true) true 31 v d p) :
    ∃ A c bs, v = .slice A (List.length bs) c ∧ Cells W A (bools bs) ∧ bs.length ≤ 9223372036854775807 := by
  obtain ⟨a0, len0, cap0, rfl⟩ := okWide_slice Try.underlying31 hv
  obtain ⟨fuel, hf⟩ := h
  rcases open_bools Try.underlying31 Try.underlying4 (by kernel_rfl) hf with ⟨hcs, _⟩ | ⟨a, len, cap, B, hcs, _, hl, hmx, _, hx⟩
  · simp [Value.cells] at hcs
    obtain ⟨rfl, rfl, rfl⟩ := hcs
    exact ⟨none, 0, [], rfl, .inl rfl, Nat.zero_le _⟩
  · simp [Value.cells] at hcs
    obtain ⟨rfl, rfl, rfl⟩ := hcs
    exact ⟨some a, cap0, (List.range len0).map B, by simp, boolS_of hl hx, by simp only [maxLen] at hmx; simp; omega⟩

theorem open_boolSS (hv : Value.okWide Try.prog W r b0 22 v) (h : DataW.Trod enc Try.prog W 0 (fun _ => true) true 22 v d p) :
    ∃ A c ps, v = .slice A (List.length ps) c ∧ Mat W A ps ∧ ps.length ≤ 9223372036854775807 ∧ ∀ bs ∈ ps, List.length bs ≤ 9223372036854775807 := by
  obtain ⟨a0, len0, cap0, rfl⟩ := okWide_slice Try.underlying22 hv
  obtain ⟨fuel, hf⟩ := h
  rcases open_bool_rows Try.underlying22 Try.underlying31 Try.underlying4 (by kernel_rfl) (by kernel_rfl) hf with ⟨hcs, _⟩ | ⟨a, len, cap, A, L, C, B, hcs, _, hl, hmx, _, hx⟩
  · simp [Value.cells] at hcs
    obtain ⟨rfl, rfl, rfl⟩ := hcs
    exact ⟨none, 0, [], rfl, ⟨[], .inl rfl, Heads.nil⟩, Nat.zero_le _, by simp⟩
  · simp [Value.cells] at hcs
    obtain ⟨rfl, rfl, rfl⟩ := hcs
    have hrow : ∀ i, i < len0 → L i ≤ 9223372036854775807 ∧ Cells W (A i) (bools ((List.range (L i)).map (B i))) := by
      intro i hi
      obtain ⟨h1, h2, h3, h4, h5⟩ := hx i (by omega)
      refine ⟨by simp only [maxLen] at h3; omega, ?_⟩
      cases hA : A i with
      | none =>
        have := h4 hA
        obtain h0 : L i = 0 := by omega
        left; simp [h0, bools]
      | some a' => exact boolS_of h2 (h5 a' hA).2
    refine ⟨some a, cap0, (List.range len0).map fun i => (List.range (L i)).map (B i), by simp, ⟨(List.range len0).map fun i => .slice (A i) (L i) (C i), ?_, by simp, ?_⟩, by simp only [maxLen] at hmx; simp; omega, ?_⟩
    · by_cases h0 : len0 = 0
      · left; simp [h0]
      · obtain ⟨b, off, spot⟩ := a
        have h1 := (hx 0 (by omega)).1
        have hspot : spot = none := by simpa [Addr.add] using World.cell?_spot h1
        subst hspot
        refine .inr ⟨b, off, rfl, ?_, fun i u hu => ?_⟩
        · have := World.block_lt_of_cell? W _ h1
          simpa [Addr.add] using this
        · have hi := (List.getElem?_eq_some_iff.1 hu).1
          rw [List.length_map, List.length_range] at hi
          have h2 := (hx i (by omega)).1
          rw [Addr.add_lit] at h2
          rw [h2, ← hu, List.getElem?_map, List.getElem?_range hi]; rfl
    · intro k bs hk
      rw [List.getElem?_map] at hk
      cases hr : (List.range len0)[k]? with
      | none => rw [hr] at hk; cases hk
      | some k' =>
        rw [hr] at hk
        obtain ⟨hk1, hk2⟩ := List.getElem?_eq_some_iff.1 hr
        rw [List.getElem_range] at hk2
        subst hk2
        simp at hk hk1
        subst hk
        exact ⟨A k, C k, by rw [List.getElem?_map, hr]; simp, (hrow k hk1).2⟩
    · intro bs hb
      obtain ⟨i, hi, rfl⟩ := List.mem_map.1 hb
      have := (hrow i (List.mem_range.1 hi)).1
      simpa using this
end

end Go.Proofs.Ytckbpiapkooamaa
