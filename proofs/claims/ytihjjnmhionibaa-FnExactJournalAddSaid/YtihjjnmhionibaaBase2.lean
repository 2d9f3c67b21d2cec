/- More small lemmas on slices: parts of a row. -/
import Derived.Test.YtihjjnmhionibaaBase
import Derived.Maps.AppendAt
namespace Go.Proofs.Ytihjjnmhionibaa
open Go.RowKit

theorem own_cap {w : World} {base : Nat} {e : TypeId} {size n c : Nat} {A : Option Addr} {xs : List Value} (h : w.ownsRow base e size (.slice A n c) n xs) : n ≤ c := by
  rcases h.2 with ⟨hv, hn⟩ | ⟨g, cap, cur, hv, _, _, hnc, _⟩
  · omega
  · injection hv with _ _ hc; omega
theorem own_capM {w : World} {base : Nat} {e : TypeId} {size n c : Nat} {A : Option Addr} {xs : List Value} (h : w.ownsRow base e size (.slice A n c) n xs) : c ≤ maxLen := by
  rcases h.2 with ⟨hv, hn⟩ | ⟨g, cap, cur, hv, _, _, _, hm, _⟩
  · injection hv with _ _ hc; subst hc; simp [maxLen]
  · injection hv with _ _ hc; omega
theorem Cells.take {w : World} {A : Option Addr} {xs : List Value} (h : Cells w A xs) (t : Nat) : Cells w A (xs.take t) := by
  rcases h with h | ⟨b, off, hA, hb, hc⟩
  · left; simp [h]
  · refine .inr ⟨b, off, hA, hb, fun i v hv => hc i v ?_⟩
    rw [List.getElem?_take] at hv
    split at hv
    · exact hv
    · cases hv
theorem Cells.drop {w : World} {b off : Nat} {xs : List Value} (h : Cells w (some ⟨b, off, none⟩) xs) (t : Nat) : Cells w (some ⟨b, off + t, none⟩) (xs.drop t) := by
  rcases h with h | ⟨b', off', hA, hb, hc⟩
  · left; simp [h]
  · injection hA with hA; injection hA with h1 h2; subst h1; subst h2
    refine .inr ⟨b, off + t, rfl, hb, fun i v hv => ?_⟩
    rw [List.getElem?_drop] at hv
    rw [Nat.add_assoc]
    exact hc _ v hv

/-- append, and where the row lies behind it. -/
theorem wpList_app2 {P : Program} {ops : Array Oper} {rest : List Oper} {o : Oper} {a : Act} {w : World} {Q : Exit → Act → World → Prop} (hgd : o.guard = none) (s x : Operand) (t : TypeId)
    (ho : o.op = .call { callee := .builtin .append, args := #[s, x], argTypes := #[t, t] })
    (base : Nat) {e : TypeId} {z : Value} {size bytes : Nat} (ht : P.underlying t = some (.slice e)) (hinfo : (P.info? e).map (fun i => (i.zero, i.size, i.bytes)) = some (some z, size, bytes))
    (hzs : z.cells.size = size) (hsz : 0 < size) (hby : 0 < bytes)
    (A : Option Addr) (n c : Nat) (xs : List Value) (hs : a.eval s = .slice A n c) (hown : w.ownsRow base e size (.slice A n c) n xs)
    (b off : Nat) (m c2 : Nat) (news : List Value) (hx : a.eval x = .slice (some ⟨b, off, none⟩) m c2) (hl : news.length = m * size) (hnews : Cells w (some ⟨b, off, none⟩) news) (h1 : ∀ u ∈ news, u.oneCell' = true)
    (N : Nat) (L : List Value) (hN : n + m = N) (hL : xs ++ news = L) (hbytes : N * bytes ≤ 140737488355328) (hbase : base ≤ w.heap.size)
    (h : ∀ A' c' w', w'.ownsRow base e size (.slice A' N c') N L → w.grownBy w' (Value.slice A n c).ownBlock → (∀ ad, A' = some ad → (∃ ad', A = some ad' ∧ ad'.block = ad.block) ∨ ad.block = w.heap.size) →
      wpList P ops Q rest (a.put o.dst (.slice A' N c')) w') : wpList P ops Q (o :: rest) a w := by
  subst hN; subst hL
  obtain ⟨i, hi, hz, hsize, hb⟩ := info_parts hinfo
  have h63 : n + m ≤ maxLen := by
    have h2 : (n + m) * 1 ≤ (n + m) * bytes := Nat.mul_le_mul_left _ hby
    simp only [maxLen]; omega
  have hcells : ∀ j u, news[j]? = some u → w.cell? ((⟨b, off, none⟩ : Addr).add j) = some u := by
    intro j u hu
    rcases hnews with h0 | ⟨b', off', hA, _, hc⟩
    · subst h0; simp at hu
    · injection hA with hA; injection hA with h1 h2; subst h1; subst h2
      rw [Addr.add_lit]; exact hc j u hu
  obtain ⟨v', w', hrun, h2, h3, _, h5⟩ := run_append_own_at (P := P) w base t o.type e i z size bytes ht hi hz hsize hb hzs hsz (.slice A n c) n xs hown ⟨b, off, none⟩ m c2 news hl hcells h1 h63 hbytes hbase
  obtain ⟨A', c', rfl⟩ := own_shape h2
  refine wpList_plain hgd fun K hK => ?_
  unfold Oper.wp execOp
  simp only [ho, resolve, invoke, builtin, Sem.run_bind, Sem.run_pure, Result.andThen_ok, List.map_toArray, List.map_cons, List.map_nil, hs, hx, hrun]
  refine hK _ _ (h A' c' w' h2 h3 fun ad hA => ?_)
  subst hA
  rcases h5 with h5 | h5
  · rcases A with _ | ad'
    · simp [Value.ownBlock] at h5
    · simp [Value.ownBlock] at h5; exact .inl ⟨ad', rfl, h5.symm⟩
  · simp [Value.ownBlock] at h5; exact .inr h5
theorem Own.grown {w w' : World} {lo hi : Nat} {e : TypeId} {size n c : Nat} {A : Option Addr} {xs : List Value} (h : Own w lo hi e size A c n xs) {row : Option Nat} (hg : w.grownBy w' row) (hd : ∀ k, row = some k → k < lo ∨ hi ≤ k) : Own w' lo hi e size A c n xs := by
  refine ⟨⟨h.row.1, ?_⟩, h.lt⟩
  rcases h.row.2 with hv | ⟨g, cap, cur, hv, hg2, hh, r⟩
  · exact .inl hv
  · have hlt : g < hi := by injection hv with hA; exact h.lt _ hA
    have hgs := (Array.getElem?_eq_some_iff.1 hh).1
    refine .inr ⟨g, cap, cur, hv, hg2, ?_, r⟩
    rw [hg.block g hgs (fun e => by have := hd g e.symm; omega)]; exact hh

theorem Own.belowB {w w' : World} {lo hi : Nat} {e : TypeId} {size n c : Nat} {A : Option Addr} {xs : List Value} (h : Own w lo hi e size A c n xs) {B : Nat} (hb : Below B w w') (hB : hi ≤ B) : Own w' lo hi e size A c n xs := by
  refine ⟨⟨h.row.1, ?_⟩, h.lt⟩
  rcases h.row.2 with hv | ⟨g, cap, cur, hv, hg2, hh, r⟩
  · exact .inl hv
  · have hlt : g < hi := by injection hv with hA; exact h.lt _ hA
    exact .inr ⟨g, cap, cur, hv, hg2, by rw [hb.block g (by omega)]; exact hh, r⟩

/-- append as one step of a region that draws its order. -/
theorem step_app {P : Program} {ops : Array Oper} {o : Oper} {a : Act} {w : World} {K : Act → World → Prop} {Q : Exit → Act → World → Prop} {E : Prop} (hgd : o.guard = none) (s x : Operand) (t : TypeId)
    (ho : o.op = .call { callee := .builtin .append, args := #[s, x], argTypes := #[t, t] })
    (base : Nat) {e : TypeId} {z : Value} {size bytes : Nat} (ht : P.underlying t = some (.slice e)) (hinfo : (P.info? e).map (fun i => (i.zero, i.size, i.bytes)) = some (some z, size, bytes))
    (hzs : z.cells.size = size) (hsz : 0 < size) (hby : 0 < bytes)
    (A : Option Addr) (n c : Nat) (xs : List Value) (hs : a.eval s = .slice A n c) (hown : w.ownsRow base e size (.slice A n c) n xs)
    (b off : Nat) (m c2 : Nat) (news : List Value) (hx : a.eval x = .slice (some ⟨b, off, none⟩) m c2) (hl : news.length = m * size) (hnews : Cells w (some ⟨b, off, none⟩) news) (h1 : ∀ u ∈ news, u.oneCell' = true)
    (N : Nat) (L : List Value) (hN : n + m = N) (hL : xs ++ news = L) (hbytes : N * bytes ≤ 140737488355328) (hbase : base ≤ w.heap.size)
    (h : ∀ A' c' w', w'.ownsRow base e size (.slice A' N c') N L → Below base w w' → K (a.put o.dst (.slice A' N c')) w') : if Region.wanted o (yielded ops a.tmps) = true then Oper.wp P o a w K Q else E := by
  subst hN; subst hL
  obtain ⟨i, hi, hz, hsize, hb⟩ := info_parts hinfo
  have h63 : n + m ≤ maxLen := by
    have h2 : (n + m) * 1 ≤ (n + m) * bytes := Nat.mul_le_mul_left _ hby
    simp only [maxLen]; omega
  have hcells : ∀ j u, news[j]? = some u → w.cell? ((⟨b, off, none⟩ : Addr).add j) = some u := by
    intro j u hu
    rcases hnews with h0 | ⟨b', off', hA, _, hc⟩
    · subst h0; simp at hu
    · injection hA with hA; injection hA with h1 h2; subst h1; subst h2
      rw [Addr.add_lit]; exact hc j u hu
  obtain ⟨v', w', hrun, h2, h3, _, h5⟩ := run_append_own_at (P := P) w base t o.type e i z size bytes ht hi hz hsize hb hzs hsz (.slice A n c) n xs hown ⟨b, off, none⟩ m c2 news hl hcells h1 h63 hbytes hbase
  obtain ⟨A', c', rfl⟩ := own_shape h2
  have hw : Region.wanted o (yielded ops a.tmps) = true := by simp [Region.wanted, hgd]
  rw [if_pos hw]
  unfold Oper.wp execOp
  simp only [ho, resolve, invoke, builtin, Sem.run_bind, Sem.run_pure, Result.andThen_ok, List.map_toArray, List.map_cons, List.map_nil, hs, hx, hrun]
  exact h A' c' w' h2 (below_grown h3 hbase fun k hk => (hown.lt k hk).1)

end Go.Proofs.Ytihjjnmhionibaa
