/- append of a made slice: so many zeros behind a row of the call's own. -/
import Derived.Test.YtpnahccmdebifaaBase2
import Derived.Test.YtpnahccmdebifaaF4
import Derived.Lib.AppendZeros
namespace Go.Proofs.Ytpnahccmdebifaa
open Go.RowKit

section
variable {P : Program} (w : World)
theorem run_zeros_grow (t tn ty e : TypeId) (i : TypeInfo) (z : Value) (k kn : IntKind) (ht : P.underlying t = some (.slice e)) (htn : P.underlying tn = some (.int kn)) (hi : P.info? e = some i) (hz : i.zero = some z)
    (b : Addr) (sLen sCap : Nat) (olds : List Value) (hlo : olds.length = sLen * i.size) (holds : ∀ j v, olds[j]? = some v → w.cell? (b.add j) = some v)
    (n : Nat) (h0 : 0 < n) (hs : 0 < i.size) (hg : sCap < sLen + n) (h63 : ((sLen + n : Nat) : Int) ≤ 9223372036854775807) (hfit : Builtin.nextslicecap (sLen + n) sCap * i.bytes ≤ 281474976710656) (h48 : n * i.bytes ≤ 281474976710656) :
    (Builtin.append_ #[t, tn] ty #[.slice (some b) sLen sCap, .int k n]).run P w =
      .ok (.slice (some ⟨w.heap.size, 0, none⟩) (sLen + n) (grownCap w (sLen + n) sCap e))
        (w.drew.alloc (.cells (olds.toArray ++ Builtin.zeroCells z.cells n ++ Builtin.zeroCells z.cells (grownCap w (sLen + n) sCap e - (sLen + n))) e)) := by
  have hn : n ≠ 0 := by omega
  have hw : IntKind.i64.wrap (n : Int) = n := by rw [IntKind.wrap_i64]; omega
  have hng : ¬ (sLen + n ≤ sCap) := by omega
  have h63' : ¬ (9223372036854775807 < ((sLen : Int) + (n : Int))) := by omega
  have h48' : ¬ (281474976710656 < Builtin.nextslicecap (sLen + n) sCap * i.bytes) := by omega
  have h48i : ¬ (281474976710656 < (n : Int) * (i.bytes : Int)) := by
    rw [← Int.natCast_mul]
    omega
  have hneg : ¬ ((n : Int) < 0) := by omega
  have hns : ¬ (n * i.size = 0) := Nat.mul_ne_zero hn (by omega)
  have hfo := run_firstCells_some (P := P) w.drew i.size sLen b sLen sCap olds hlo (by simpa using holds)
  simp [Builtin.append_, run_underlying ht, run_underlying htn, sizeOf, typeInfo, zeroValue, hi, hz, asInt, asIntOf, hw, hng, hneg, hns, h63', h48', h48i, Question.forced, hfo, newRow, grownCap]
theorem run_zeros_room (t tn ty e : TypeId) (i : TypeInfo) (z : Value) (k kn : IntKind) (ht : P.underlying t = some (.slice e)) (htn : P.underlying tn = some (.int kn)) (hi : P.info? e = some i) (hz : i.zero = some z)
    (hs1 : i.size = 1) (hz1 : z.cells = #[z]) (h1 : z.oneCell' = true) (g sLen sCap n : Nat) (h0 : 0 < n) (hroom : sLen + n ≤ sCap) (h63 : (n : Int) ≤ 9223372036854775807) (h48 : n * i.bytes ≤ 281474976710656)
    (hc : ∀ j, j < n → (w.cell? ⟨g, sLen + j, none⟩).isSome = true) (hf : ∀ j, j < n → w.frozen? ⟨g, sLen + j, none⟩ = false) :
    (Builtin.append_ #[t, tn] ty #[.slice (some ⟨g, 0, none⟩) sLen sCap, .int k n]).run P w = .ok (.slice (some ⟨g, 0, none⟩) (sLen + n) sCap) (w.setCells g sLen (List.replicate n z)) := by
  have hn : n ≠ 0 := by omega
  have hw : IntKind.i64.wrap (n : Int) = n := by rw [IntKind.wrap_i64]; omega
  have h48i : ¬ (281474976710656 < (n : Int) * (i.bytes : Int)) := by
    rw [← Int.natCast_mul]
    omega
  have hneg : ¬ ((n : Int) < 0) := by omega
  have hns : ¬ (n * i.size = 0) := Nat.mul_ne_zero hn (by omega)
  have hzc : (Builtin.zeroCells z.cells n).toList = List.replicate n z := by
    rw [hz1]
    simp [Builtin.zeroCells]
    apply List.ext_getElem
    · simp
    · intro i h1 h2
      simp [Nat.mod_one]
  have hst := run_storeCells_cells (P := P) g sLen (List.replicate n z) 0 w (by simpa using hc) (by simpa using hf) (by intro v hv'; rw [List.eq_of_mem_replicate hv']; exact h1)
  simp only [Nat.add_zero] at hst
  have hst' : (storeCells ((⟨g, 0, none⟩ : Addr).add sLen) (List.replicate n z)).run P w = .ok () (w.setCells g sLen (List.replicate n z)) := by
    rw [Addr.add_lit, Nat.zero_add]; exact hst
  simp [Builtin.append_, run_underlying ht, run_underlying htn, sizeOf, typeInfo, zeroValue, hi, hz, asInt, asIntOf, hw, hn, hneg, h48i, hroom, hs1, hzc, hst']
end

theorem Own.zeros {lo hi : Nat} {e : TypeId} {n c g : Nat} (v : Value) : ∀ (m o : Nat) (w : World) (xs : List Value), Own w lo hi e 1 (some ⟨g, 0, none⟩) c n xs → o + m = n → Own (w.setCells g o (List.replicate m v)) lo hi e 1 (some ⟨g, 0, none⟩) c n (xs.take o ++ List.replicate m v) ∧ Chg lo hi w (w.setCells g o (List.replicate m v))
  | 0, o, w, xs, h, ho => by
    have hl : xs.length = n * 1 := h.row.1
    refine ⟨?_, Chg.refl _ _ _⟩
    rw [List.take_of_length_le (by omega)]
    show Own w _ _ _ _ _ _ _ _
    rw [List.replicate_zero, List.append_nil]; exact h
  | m + 1, o, w, xs, h, ho => by
    have hl : xs.length = n * 1 := h.row.1
    have h1 := h.set o v
    have hc : Chg lo hi w (w.setCell ⟨g, o, none⟩ v) := by
      rcases h.row.2 with ⟨hv, hn⟩ | ⟨g', cap, cur, hv, hg, _⟩
      · cases hv
      · injection hv with hA; injection hA with hA; injection hA with hA; subst hA
        exact chg_set w hg (h.lt _ rfl) _ _
    obtain ⟨h2, h3⟩ := Own.zeros v m (o + 1) _ _ h1 (by omega)
    rw [List.replicate_succ]
    refine ⟨?_, hc.trans h3⟩
    have e : (xs.set o v).take (o + 1) ++ List.replicate m v = xs.take o ++ v :: List.replicate m v := by
      rw [take_snoc _ _ v (by rw [List.getElem?_set_self (by omega)]), List.take_set_of_le (Nat.le_refl _), List.append_assoc]; rfl
    rw [e] at h2
    exact h2

theorem wpList_zeros {P : Program} {ops : Array Oper} {rest : List Oper} {o : Oper} {a : Act} {w : World} {Q : Exit → Act → World → Prop} (hgd : o.guard = none) (s x : Operand) (t tn : TypeId)
    (ho : o.op = .call { callee := .builtin .append, args := #[s, x], argTypes := #[t, tn] })
    (base : Nat) {e : TypeId} {z : Value} {bytes : Nat} {k kn : IntKind} (ht : P.underlying t = some (.slice e)) (htn : P.underlying tn = some (.int kn)) (hinfo : (P.info? e).map (fun i => (i.zero, i.size, i.bytes)) = some (some z, 1, bytes))
    (hz1 : z.cells = #[z]) (h1 : z.oneCell' = true) (hby : 0 < bytes)
    (A : Option Addr) (n c : Nat) (xs : List Value) (hs : a.eval s = .slice A n c) (hown : w.ownsRow base e 1 (.slice A n c) n xs)
    (m : Nat) (hx : a.eval x = .int k m) (h0 : 0 < m) (hbytes : (n + m) * bytes ≤ 140737488355328) (hbase : base ≤ w.heap.size)
    (h : ∀ A' c' w', w'.ownsRow base e 1 (.slice A' (n + m) c') (n + m) (xs ++ List.replicate m z) → Below base w w' → wpList P ops Q rest (a.put o.dst (.slice A' (n + m) c')) w') : wpList P ops Q (o :: rest) a w := by
  obtain ⟨i, hi, hz, hsize, hb⟩ := info_parts hinfo
  have hl : xs.length = n := by have := hown.1; omega
  have hnm : n + m ≤ 140737488355328 := by
    have h2 : (n + m) * 1 ≤ (n + m) * bytes := Nat.mul_le_mul_left _ hby
    omega
  have hmb : m * i.bytes ≤ 281474976710656 := by
    have h2 : m * bytes ≤ (n + m) * bytes := Nat.mul_le_mul_right _ (by omega)
    rw [hb]; omega
  have hzs : z.cells.size = 1 := by rw [hz1]; rfl
  have hzr : ∀ q, (Builtin.zeroCells z.cells q).toList = List.replicate q z := by
    intro q
    rw [hz1]
    simp [Builtin.zeroCells]
    apply List.ext_getElem
    · simp
    · intro i h1 h2
      simp [Nat.mod_one]
  have fin : ∀ old, old < n + m → (w.drew.alloc (.cells (xs.toArray ++ Builtin.zeroCells z.cells m ++ Builtin.zeroCells z.cells (grownCap w (n + m) old e - (n + m))) e)).ownsRow base e 1 (.slice (some ⟨w.heap.size, 0, none⟩) (n + m) (grownCap w (n + m) old e)) (n + m) (xs ++ List.replicate m z) ∧
      Below base w (w.drew.alloc (.cells (xs.toArray ++ Builtin.zeroCells z.cells m ++ Builtin.zeroCells z.cells (grownCap w (n + m) old e - (n + m))) e)) := by
    intro old ho
    have hge := grownCap_ge w (n + m) old e
    have hcm : grownCap w (n + m) old e ≤ maxLen := grownCap_le_maxLen w (n + m) old e (by simp only [maxLen]; omega)
    refine ⟨⟨by simp; omega, .inr ⟨w.heap.size, _, _, rfl, hbase, heap_alloc_new w.drew _, hge, hcm, ?_, ?_⟩⟩, (Below.refl base w).drew.alloc hbase _⟩
    · simp only [Array.size_append, List.size_toArray, size_zeroCells, hzs]; omega
    · simp only [Array.toList_append, List.append_assoc, hzr]
      rw [← List.append_assoc]
      exact List.take_left' (by simp; omega)
  rcases hown.2 with ⟨hv, hn⟩ | ⟨g, cap, cur, hv, hbg, hg, hnc, hcm, hcs, htake⟩
  · injection hv with hA hn2 hc2
    subst hA; subst hn; subst hc2
    have hx0 : xs = [] := List.eq_nil_of_length_eq_zero hl
    subst hx0
    have hr := Lib.run_append_nil_zeros (P := P) w t tn o.type e i z k kn ht htn hi hz m h0 (by omega) (by omega) hmb
    have hf := fin 0 (by omega)
    simp only [Nat.zero_add, List.nil_append, Array.empty_append] at hf
    refine Lib.wpList_append_run w hgd s x t tn ho _ _ hs hx _ _ hr ?_
    have := h (some ⟨w.heap.size, 0, none⟩) (grownCap w m 0 e) _ (by simpa using hf.1) (by simpa using hf.2)
    simpa using this
  · injection hv with hA hn2 hc2
    subst hA
    rw [← hc2] at hcs hnc hcm
    clear hc2
    by_cases hroom : n + m ≤ c
    · have hown2 : Own w base (g + 1) e 1 (some ⟨g, 0, none⟩) c (n + m) (cur.toList.take (n + m)) :=
        ⟨⟨by simp; omega, .inr ⟨g, c, cur, rfl, hbg, hg, hroom, hcm, hcs, by rw [Nat.mul_one]⟩⟩, fun ad e => by injection e with e; subst e; exact Nat.lt_succ_self _⟩
      have hcell : ∀ j, j < m → ∃ u, w.cell? ⟨g, n + j, none⟩ = some u ∧ w.frozen? ⟨g, n + j, none⟩ = false := by
        intro j hj
        obtain ⟨g', v', hA, _, _, _, h4, h5⟩ := hown2.at_ (i := n + j) (by simp; omega)
        injection hA with hA; injection hA with hA; subst hA
        exact ⟨v', h4, h5⟩
      have hr := run_zeros_room (P := P) w t tn o.type e i z k kn ht htn hi hz hsize hz1 h1 g n c m h0 hroom (by omega) hmb (fun j hj => by obtain ⟨u, h2, _⟩ := hcell j hj; rw [h2]; rfl) (fun j hj => (hcell j hj).choose_spec.2)
      refine Lib.wpList_append_run w hgd s x t tn ho _ _ hs hx _ _ hr ?_
      obtain ⟨o2, c2⟩ := Own.zeros z m n w _ hown2 rfl
      have e2 : (cur.toList.take (n + m)).take n = xs := by rw [List.take_take, Nat.min_eq_left (by omega)]; rw [Nat.mul_one] at htake; exact htake
      rw [e2] at o2
      exact h _ _ _ o2.row (c2.below (Nat.le_refl _) hbase)
    · have hr := run_zeros_grow (P := P) w t tn o.type e i z k kn ht htn hi hz ⟨g, 0, none⟩ n c xs (by rw [hsize]; omega) (hown.cells rfl) m h0 (by omega) (by omega) (by omega) (by rw [hb]; exact growslice_fits (by omega) hbytes) hmb
      refine Lib.wpList_append_run w hgd s x t tn ho _ _ hs hx _ _ hr ?_
      exact h _ _ _ (fin c (by omega)).1 (fin c (by omega)).2

end Go.Proofs.Ytpnahccmdebifaa
