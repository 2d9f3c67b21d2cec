/- slices.Compact at []int. -/
import Derived.Test.YtpnahccmdebifaaC1
import Derived.Test.YtpnahccmdebifaaBase2
import Derived.Lib.SliceRun
namespace Go.Proofs.Ytpnahccmdebifaa
open Go.RowKit

/-- The first m elements, each run of equal ones once. -/
def compTo (l : List Int) : Nat → List Int
  | 0 => []
  | m + 1 => compTo l m ++ if (l[m]? = l[m - 1]? ∧ 0 < m) then [] else (l[m]?).toList
theorem compTo_same {l : List Int} {m : Nat} (h0 : 0 < m) {x : Int} (h1 : l[m]? = some x) (h2 : l[m - 1]? = some x) : compTo l (m + 1) = compTo l m := by
  rw [compTo, if_pos ⟨h1.trans h2.symm, h0⟩, List.append_nil]
theorem compTo_new {l : List Int} {m : Nat} {x y : Int} (h1 : l[m]? = some x) (h2 : l[m - 1]? = some y) (hne : x ≠ y) : compTo l (m + 1) = compTo l m ++ [x] := by
  rw [compTo, if_neg (by rw [h1, h2]; intro h; exact hne (by have := h.1; injection this)), h1]; rfl
theorem compTo_one {l : List Int} {x : Int} (h1 : l[0]? = some x) : compTo l 1 = [x] := by
  rw [compTo, if_neg (by omega), h1]; rfl
theorem compTo_mem {l : List Int} {m : Nat} {z : Int} (hm : m ≤ l.length) : z ∈ compTo l m ↔ z ∈ l.take m := by
  induction m with
  | zero => simp [compTo]
  | succ m ih =>
    have hx : l[m]? = some l[m] := List.getElem?_eq_getElem (by omega)
    rw [take_snoc _ _ _ hx, compTo, List.mem_append, List.mem_append, ih (by omega), hx]
    constructor
    · rintro (h | h)
      · exact .inl h
      · split at h
        · simp at h
        · exact .inr h
    · rintro (h | h)
      · exact .inl h
      · by_cases e : l[m]? = l[m - 1]? ∧ 0 < m
        · left
          simp at h; subst h
          rw [hx] at e
          have : (l.take m)[m - 1]? = some l[m] := by rw [List.getElem?_take, if_pos (by omega)]; exact e.1.symm
          exact List.mem_of_getElem? this
        · right; rw [← hx, if_neg e, hx]; exact h
theorem compTo_sorted {l : List Int} (hl : l.Pairwise (· ≤ ·)) {m : Nat} (hm : m ≤ l.length) : (compTo l m).Pairwise (· < ·) := by
  induction m with
  | zero => exact List.Pairwise.nil
  | succ m ih =>
    have hx : l[m]? = some l[m] := List.getElem?_eq_getElem (by omega)
    rw [compTo]
    split
    · rw [List.append_nil]; exact ih (by omega)
    · rename_i hne
      rw [hx]
      show (compTo l m ++ [l[m]]).Pairwise _
      rw [List.pairwise_append]
      refine ⟨ih (by omega), by simp, fun a ha b hb => ?_⟩
      simp at hb; subst hb
      have hmem := (compTo_mem (by omega)).1 ha
      obtain ⟨i, hi, rfl⟩ := List.getElem_of_mem hmem
      have hi2 : i < m := by simp at hi; omega
      rw [List.getElem_take]
      have hp := List.pairwise_iff_getElem.1 hl
      rcases Nat.lt_or_ge i (m - 1) with h | h
      · have h1 := hp i (m - 1) (by omega) (by omega) h
        have h2 := hp (m - 1) m (by omega) (by omega) (by omega)
        have h3 : l[m] ≠ l[m - 1] := by
          intro e; apply hne; rw [hx, List.getElem?_eq_getElem (by omega : m - 1 < l.length), e]; exact ⟨rfl, by omega⟩
        omega
      · obtain rfl : i = m - 1 := by omega
        have h2 := hp (m - 1) m (by omega) (by omega) (by omega)
        have h3 : l[m] ≠ l[m - 1] := by
          intro e; apply hne; rw [hx, List.getElem?_eq_getElem (by omega : m - 1 < l.length), e]; exact ⟨rfl, by omega⟩
        omega
theorem compTo_len (l : List Int) (m : Nat) : (compTo l m).length ≤ m := by
  induction m with
  | zero => simp [compTo]
  | succ m ih =>
    rw [compTo, List.length_append]
    split
    · simp; omega
    · cases l[m]? <;> simp <;> omega

/-- A row's beginning. -/
theorem Own.front {w : World} {lo hi : Nat} {e : TypeId} {n c : Nat} {A : Option Addr} {xs : List Value} (h : Own w lo hi e 1 A c n xs) {k : Nat} (hk : k ≤ n) : Own w lo hi e 1 A c k (xs.take k) := by
  have hl : xs.length = n * 1 := h.row.1
  refine ⟨⟨by rw [List.length_take]; omega, ?_⟩, h.lt⟩
  rcases h.row.2 with ⟨hv, hn⟩ | ⟨g, cap, cur, hv, hg, hh, h1, h2, h3, h4⟩
  · injection hv with hA hn2 hc
    refine .inl ⟨by rw [hA, hc, show k = 0 by omega], by omega⟩
  · injection hv with hA hn2 hc
    refine .inr ⟨g, cap, cur, by rw [hA, hc], hg, hh, by omega, h2, h3, ?_⟩
    rw [← h4, List.take_take, Nat.mul_one, Nat.mul_one, Nat.min_eq_left hk]
theorem Own.cleared {w : World} {lo hi : Nat} {e : TypeId} {n c g : Nat} {xs : List Value} (h : Own w lo hi e 1 (some ⟨g, 0, none⟩) c n xs) (v : Value) : ∀ (m o : Nat), n ≤ o → Own (w.setCells g o (List.replicate m v)) lo hi e 1 (some ⟨g, 0, none⟩) c n xs ∧ Chg lo hi w (w.setCells g o (List.replicate m v))
  | 0, o, _ => ⟨h, Chg.refl _ _ _⟩
  | m + 1, o, ho => by
    have hl : xs.length = n * 1 := h.row.1
    have h1 := h.set o v
    rw [List.set_eq_of_length_le (by omega)] at h1
    have hc : Chg lo hi w (w.setCell ⟨g, o, none⟩ v) := by
      rcases h.row.2 with ⟨hv, hn⟩ | ⟨g', cap, cur, hv, hg, _⟩
      · cases hv
      · injection hv with hA; injection hA with hA; injection hA with hA; subst hA
        exact chg_set w hg (h.lt _ rfl) _ _
    obtain ⟨h2, h3⟩ := h1.cleared v m (o + 1) (by omega)
    rw [List.replicate_succ]
    exact ⟨h2, hc.trans h3⟩
theorem wpList_clear {P : Program} {ops : Array Oper} {rest : List Oper} {o : Oper} {a : Act} {w : World} {Q : Exit → Act → World → Prop} (hgd : o.guard = none) (hdst : o.dst = none) (s : Operand) (t e : TypeId)
    (ho : o.op = .call { callee := .builtin .clear, args := #[s], argTypes := #[t] }) (z : Value) (ht : P.underlying t = some (.slice e)) (hv : ∀ w, (zeroValue e).run P w = .ok z w) (hz : z.cells = #[z]) (h1 : z.oneCell' = true)
    (b off n c : Nat) (hs : a.eval s = .slice (some ⟨b, off, none⟩) n c) (hn : 0 < n) (hc : ∀ j, j < n → (w.cell? ⟨b, off + j, none⟩).isSome = true) (hf : ∀ j, j < n → w.frozen? ⟨b, off + j, none⟩ = false)
    (h : wpList P ops Q rest a (w.setCells b off (List.replicate n z))) : wpList P ops Q (o :: rest) a w := by
  refine wpList_plain hgd fun K hK => ?_
  have hrun := Lib.run_clear_slice (P := P) w t e o.type z ht hv hz h1 b off n c hn hc hf
  unfold Oper.wp execOp
  simp only [ho, resolve, invoke, builtin, Sem.run_bind, Sem.run_pure, Result.andThen_ok, List.map_toArray, List.map_cons, List.map_nil, hs, hrun]
  exact hK _ _ (by rw [hdst]; exact h)

end Go.Proofs.Ytpnahccmdebifaa
