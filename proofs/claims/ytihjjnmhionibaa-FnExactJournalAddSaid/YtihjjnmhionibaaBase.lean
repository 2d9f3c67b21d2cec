/- What a slice reads as, and how it is kept: small lemmas over any program. -/
import Derived.WalkKit
import Derived.ProofKit
import Derived.WalkSpells
import Derived.WalkLawsBesides
import Derived.Deep.QuietTactic
import Derived.BigQuiet
import Derived.Deep.Draws
namespace Go.Proofs.Ytihjjnmhionibaa
open Go.RowKit

theorem hid {p : Prop} (h : p) : Hid p := h

/-- The cells from address A on are xs (nothing is said of A where xs is empty). -/
def Cells (w : World) (A : Option Addr) (xs : List Value) : Prop :=
  xs = [] ∨ ∃ b off, A = some ⟨b, off, none⟩ ∧ b < w.heap.size ∧ ∀ i v, xs[i]? = some v → w.cell? ⟨b, off + i, none⟩ = some v

def ints (zs : List Int) : List Value := zs.map (Value.int .i64)
theorem ints_length (zs : List Int) : (ints zs).length = zs.length := by simp [ints]
theorem ints_get (zs : List Int) (k : Nat) : (ints zs)[k]? = zs[k]?.map (Value.int .i64) := by simp [ints]

theorem Cells.keep {w w' : World} {A : Option Addr} {xs : List Value} (h : Cells w A xs) (hs : w.heap.size ≤ w'.heap.size)
    (hk : ∀ p : Addr, p.block < w.heap.size → w'.cell? p = w.cell? p) : Cells w' A xs := by
  rcases h with h | ⟨b, off, hA, hb, hc⟩
  · exact .inl h
  · exact .inr ⟨b, off, hA, by omega, fun i v hv => (hk _ hb).trans (hc i v hv)⟩
theorem Cells.below {w w' : World} {A : Option Addr} {xs : List Value} (h : Cells w A xs) (hb : Below w.heap.size w w') : Cells w' A xs :=
  h.keep hb.size fun _ hp => hb.cell hp
theorem Cells.drewN {w : World} {A : Option Addr} {xs : List Value} (h : Cells w A xs) (n : Nat) : Cells (w.drewN n) A xs := h
theorem below_drewN {B : Nat} {a w : World} (h : Below B a w) (n : Nat) : Below B a (w.drewN n) := ⟨h.os, h.tape, h.output, h.size, h.block⟩
theorem below_drawn (B : Nat) (w : World) (n : Nat) : Below B w (w.drewN n) := below_drewN (Below.refl _ _) n

theorem Cells.at_ {w : World} {A : Option Addr} {xs : List Value} (h : Cells w A xs) {k : Nat} (hk : k < xs.length) :
    ∃ b off, A = some ⟨b, off, none⟩ ∧ b < w.heap.size ∧ w.cell? ⟨b, off + k, none⟩ = some xs[k] := by
  rcases h with h | ⟨b, off, hA, hb, hc⟩
  · subst h; simp at hk
  · exact ⟨b, off, hA, hb, hc k _ (List.getElem?_eq_getElem hk)⟩

theorem Cells.int_at {w : World} {A : Option Addr} {zs : List Int} (h : Cells w A (ints zs)) {k : Nat} (hk : k < zs.length) :
    ∃ b off z, A = some ⟨b, off, none⟩ ∧ Hid (zs[k]? = some z) ∧ w.cell? ⟨b, off + k, none⟩ = some (.int .i64 z) := by
  obtain ⟨b, off, hA, _, hc⟩ := h.at_ (k := k) (by rw [ints_length]; exact hk)
  refine ⟨b, off, zs[k], hA, hid (List.getElem?_eq_getElem hk), ?_⟩
  rw [hc]; simp [ints]


/-! ### Rows that the call itself made -/
section
variable {w w' : World} {base : Nat} {e : TypeId} {size n : Nat} {v : Value} {xs : List Value}

theorem own_shape (h : w.ownsRow base e size v n xs) : ∃ A c, v = .slice A n c := by
  rcases h.2 with ⟨rfl, rfl⟩ | ⟨g, cap, cur, rfl, _⟩
  · exact ⟨none, 0, rfl⟩
  · exact ⟨_, _, rfl⟩

theorem own_cells {A : Option Addr} {c : Nat} (h : w.ownsRow base e size (.slice A n c) n xs) : Cells w A xs := by
  rcases h.2 with ⟨hv, hn⟩ | ⟨g, cap, cur, hv, _, hg, _, _, _, ht⟩
  · exact .inl (List.eq_nil_of_length_eq_zero (by rw [h.1, hn]; simp))
  · injection hv with hA
    refine .inr ⟨g, 0, hA, (Array.getElem?_eq_some_iff.1 hg).1, fun i u hu => ?_⟩
    rw [cell_of_row w g (0 + i) cur e (0, 0) hg, Nat.zero_add]
    rw [← ht, List.getElem?_take] at hu
    split at hu
    · simpa using hu
    · cases hu

theorem own_below (h : w.ownsRow base e size v n xs) (hb : Below w.heap.size w w') : w'.ownsRow base e size v n xs := by
  refine ⟨h.1, ?_⟩
  rcases h.2 with hv | ⟨g, cap, cur, hv, hg, hh, r⟩
  · exact .inl hv
  · exact .inr ⟨g, cap, cur, hv, hg, by rw [hb.block g (Array.getElem?_eq_some_iff.1 hh).1]; exact hh, r⟩

theorem own_mono {base' : Nat} (h : w.ownsRow base e size v n xs) (hb : base' ≤ base) : w.ownsRow base' e size v n xs := by
  refine ⟨h.1, ?_⟩
  rcases h.2 with hv | ⟨g, cap, cur, hv, hg, r⟩
  · exact .inl hv
  · exact .inr ⟨g, cap, cur, hv, by omega, r⟩

theorem below_grown {B : Nat} {row : Option Nat} (hg : w.grownBy w' row) (hB : B ≤ w.heap.size) (hr : ∀ k, row = some k → B ≤ k) : Below B w w' :=
  (Below.refl B w).grown hg hB hr
end

theorem cells_one (w : World) (u : Value) (t : TypeId) : Cells (w.alloc (.cells #[u] t)) (some ⟨w.heap.size, 0, none⟩) [u] := by
  refine .inr ⟨w.heap.size, 0, rfl, by simp, fun i v hv => ?_⟩
  rw [cell_of_row _ w.heap.size (0 + i) #[u] t (0, 0) (heap_alloc_new w _), Nat.zero_add]
  rcases i with _ | i
  · simpa using hv
  · simp at hv

theorem wpList_app {P : Program} {ops : Array Oper} {rest : List Oper} {o : Oper} {a : Act} {w : World} {Q : Exit → Act → World → Prop} (hgd : o.guard = none) (s x : Operand) (t : TypeId)
    (ho : o.op = .call { callee := .builtin .append, args := #[s, x], argTypes := #[t, t] })
    (base : Nat) {e : TypeId} {z : Value} {size bytes : Nat} (ht : P.underlying t = some (.slice e)) (hinfo : (P.info? e).map (fun i => (i.zero, i.size, i.bytes)) = some (some z, size, bytes))
    (hzs : z.cells.size = size) (hsz : 0 < size) (hby : 0 < bytes)
    (A : Option Addr) (n c : Nat) (xs : List Value) (hs : a.eval s = .slice A n c) (hown : w.ownsRow base e size (.slice A n c) n xs)
    (A2 : Option Addr) (m c2 : Nat) (news : List Value) (hx : a.eval x = .slice A2 m c2) (hl : news.length = m * size) (hnews : Cells w A2 news) (h1 : ∀ u ∈ news, u.oneCell' = true)
    (N : Nat) (L : List Value) (hN : n + m = N) (hL : xs ++ news = L) (hbytes : N * bytes ≤ 140737488355328) (hbase : base ≤ w.heap.size)
    (h : ∀ A' c' w', w'.ownsRow base e size (.slice A' N c') N L → Below base w w' → wpList P ops Q rest (a.put o.dst (.slice A' N c')) w') : wpList P ops Q (o :: rest) a w := by
  subst hN; subst hL
  obtain ⟨i, hi, hz, hsize, hb⟩ := info_parts hinfo
  have h63 : n + m ≤ maxLen := by
    have h2 : (n + m) * 1 ≤ (n + m) * bytes := Nat.mul_le_mul_left _ hby
    simp only [maxLen]; omega
  have hrow : ∀ k, (Value.slice A n c).ownBlock = some k → base ≤ k := fun k hk => (hown.lt k hk).1
  rcases A2 with _ | ad
  · have hm : news = [] := by
      rcases hnews with h0 | ⟨_, _, h0, _⟩
      · exact h0
      · cases h0
    subst hm
    have hm0 : m = 0 := by
      rcases Nat.eq_zero_or_pos m with h0 | h0
      · exact h0
      · have := Nat.mul_pos h0 hsz; simp at hl; omega
    subst hm0
    refine wpList_plain hgd fun K hK => ?_
    have hrun : (Builtin.append_ #[t, t] o.type #[.slice A n c, .slice none 0 c2]).run P w = .ok (.slice A n c) w := by
      rcases hown.2 with ⟨hv, rfl⟩ | ⟨g, cap, cur, hv, _, _, hnc, _⟩
      · rw [hv]; simp [Builtin.append_, run_underlying ht, sizeOf, typeInfo, hi, Builtin.lenOf, Builtin.firstCells]
      · rw [hv]; simp [Builtin.append_, run_underlying ht, sizeOf, typeInfo, hi, Builtin.lenOf, Builtin.firstCells, hnc, storeCells]
    unfold Oper.wp execOp
    simp only [ho, resolve, invoke, builtin, Sem.run_bind, Sem.run_pure, Result.andThen_ok, List.map_toArray, List.map_cons, List.map_nil, hs, hx, hrun]
    exact hK _ _ (h A c w (by simpa using hown) (Below.refl _ _))
  · have hcells : ∀ j u, news[j]? = some u → w.cell? (ad.add j) = some u := by
      intro j u hu
      rcases hnews with h0 | ⟨b, off, hA, _, hc⟩
      · subst h0; simp at hu
      · injection hA with hA; subst hA
        rw [Addr.add_lit]; exact hc j u hu
    refine wpList_append_own w hgd s x t ho base e i z size bytes ht hi hz hsize hb hzs hsz (.slice A n c) n xs hs hown ad m c2 news hx hl hcells h1 h63 hbytes hbase ?_
    intro v' w' hown' hg _
    obtain ⟨A', c', rfl⟩ := own_shape hown'
    exact h A' c' w' hown' (below_grown hg hbase hrow)

/-- make([]T, n): the n zero cells. -/
theorem run_make_ints {P : Program} (t e : TypeId) {z : Value} {bytes : Nat} (ht : P.underlying t = some (.slice e)) (hinfo : (P.info? e).map (fun i => (i.zero, i.size, i.bytes)) = some (some z, 1, bytes))
    (hz1 : z.cells = #[z]) (n : Nat) (hn : n * bytes ≤ 281474976710656) (h63 : n ≤ 9223372036854775807) (W : World) :
    (Instr.makeSlice t (.int .i64 (n : Int)) (.int .i64 (n : Int))).run P W = .ok (.slice (some ⟨W.heap.size, 0, none⟩) n n) (W.alloc (.cells (List.replicate n z).toArray e)) := by
  obtain ⟨i, hi, hz, hs, hb⟩ := info_parts hinfo
  have hb' : (i.bytes : Int) * (n : Int) ≤ 281474976710656 := by
    have h : ((i.bytes * n : Nat) : Int) ≤ 281474976710656 := by rw [hb, Nat.mul_comm]; omega
    rwa [Int.natCast_mul] at h
  have hr := run_make (P := P) W t e i z ht hi hz .i64 .i64 n n (by omega) (Int.le_refl _) hb' (by omega)
  simp only [Int.toNat_natCast] at hr
  rw [hr, hs, Nat.mul_one]
  congr 3
  apply Array.ext
  · simp [size_madeCells]
  · intro k h1 h2; simp [madeCells, hz1, Nat.mod_one]

/-- A block known whole. -/
def Blk (w : World) (g : Nat) (t : TypeId) (xs : List Value) : Prop := w.heap[g]? = some (.cells xs.toArray t (0, 0))
section
variable {w w' : World} {g : Nat} {t : TypeId} {xs : List Value}
theorem Blk.lt (h : Blk w g t xs) : g < w.heap.size := (Array.getElem?_eq_some_iff.1 h).1
theorem Blk.cell (h : Blk w g t xs) (i : Nat) : w.cell? ⟨g, i, none⟩ = xs[i]? := by rw [cell_of_row w g i _ t (0, 0) h]; simp
theorem Blk.free (h : Blk w g t xs) (i : Nat) : w.frozen? ⟨g, i, none⟩ = false := by
  unfold Blk at h
  simp [World.frozen?, h]
theorem Blk.new (w : World) (t : TypeId) (xs : List Value) : Blk (w.alloc (.cells xs.toArray t)) w.heap.size t xs := heap_alloc_new w _
theorem Blk.below (h : Blk w g t xs) {B : Nat} (hb : Below B w w') (hg : g < B) : Blk w' g t xs := (hb.block g hg).trans h
theorem Blk.set (h : Blk w g t xs) (i : Nat) (u : Value) : Blk (w.setCell ⟨g, i, none⟩ u) g t (xs.set i u) := by
  unfold Blk at h ⊢
  simp [World.setCell, Array.getElem?_modify, h]
theorem Blk.cells (h : Blk w g t xs) : Cells w (some ⟨g, 0, none⟩) xs := .inr ⟨g, 0, rfl, h.lt, fun i v hv => by rw [h.cell, Nat.zero_add]; exact hv⟩
theorem Blk.own (h : Blk w g t xs) {base n : Nat} (hb : base ≤ g) (hn : xs.length = n) (hm : n ≤ maxLen) : w.ownsRow base t 1 (.slice (some ⟨g, 0, none⟩) n n) n xs :=
  ⟨by omega, .inr ⟨g, n, xs.toArray, rfl, hb, h, Nat.le_refl _, hm, by simp [hn], by simp [← hn]⟩⟩
end
/-- The first k of zs are in place, zeros behind. -/
def part (zs : List Int) (k : Nat) : List Value := ints (zs.take k) ++ List.replicate (zs.length - k) (.int .i64 0)
theorem part_zero (zs : List Int) : part zs 0 = List.replicate zs.length (.int .i64 0) := by simp [part, ints]
theorem part_all (zs : List Int) : part zs zs.length = ints zs := by simp [part]
theorem part_length (zs : List Int) {k : Nat} (hk : k ≤ zs.length) : (part zs k).length = zs.length := by simp [part, ints]; omega
theorem part_at (zs : List Int) {k : Nat} (hk : k < zs.length) : (part zs k)[k]? = some (.int .i64 0) := by
  have hl : (ints (zs.take k)).length = k := by simp [ints, Nat.min_eq_left (Nat.le_of_lt hk)]
  unfold part; rw [List.getElem?_append_right (by omega), hl, Nat.sub_self, List.getElem?_replicate, if_pos (by omega)]
theorem part_set (zs : List Int) {k : Nat} {z : Int} (hz : zs[k]? = some z) : (part zs k).set k (.int .i64 z) = part zs (k + 1) := by
  have hk : k < zs.length := (List.getElem?_eq_some_iff.1 hz).1
  have e : zs.length - k = (zs.length - (k + 1)) + 1 := by omega
  unfold part
  rw [List.set_append_right _ _ (by simp [ints]; omega), List.take_add_one, hz, e, List.replicate_succ]
  simp [ints, Nat.min_eq_left (Nat.le_of_lt hk)]

/-- Only blocks from lo up to (not with) hi may have changed; no block has gone. -/
structure Chg (lo hi : Nat) (w w' : World) : Prop where
  os : w'.os = w.os
  tape : w'.tape = w.tape
  output : w'.output = w.output
  size : w.heap.size ≤ w'.heap.size
  block : ∀ k, k < w.heap.size → k < lo ∨ hi ≤ k → w'.heap[k]? = w.heap[k]?
theorem Chg.below {lo hi : Nat} {w w' : World} (h : Chg lo hi w w') {B : Nat} (hB : B ≤ lo) (hs : B ≤ w.heap.size) : Below B w w' :=
  ⟨h.os, h.tape, h.output, h.size, fun k hk => h.block k (by omega) (.inl (by omega))⟩

/-- A row of the call's own that lies in a block from lo up to (not with) hi. -/
structure Own (w : World) (lo hi : Nat) (e : TypeId) (size : Nat) (A : Option Addr) (c n : Nat) (xs : List Value) : Prop where
  row : w.ownsRow lo e size (.slice A n c) n xs
  lt : ∀ ad, A = some ad → ad.block < hi
section
variable {w w' : World} {lo hi : Nat} {e : TypeId} {size n c : Nat} {A : Option Addr} {xs : List Value}
theorem Own.of_row (h : w.ownsRow lo e size (.slice A n c) n xs) : Own w lo w.heap.size e size A c n xs :=
  ⟨h, fun ad hA => by subst hA; exact (h.lt ad.block rfl).2⟩
theorem Own.cells (h : Own w lo hi e size A c n xs) : Cells w A xs := own_cells h.row
theorem Own.below (h : Own w lo hi e size A c n xs) (hb : Below w.heap.size w w') : Own w' lo hi e size A c n xs := ⟨own_below h.row hb, h.lt⟩
theorem Own.weak (h : Own w lo hi e size A c n xs) {lo' hi' : Nat} (h1 : lo' ≤ lo) (h2 : hi ≤ hi') : Own w lo' hi' e size A c n xs :=
  ⟨own_mono h.row h1, fun ad hA => by have := h.lt ad hA; omega⟩
theorem Own.chg (h : Own w lo hi e size A c n xs) {lo' hi' : Nat} (hc : Chg lo' hi' w w') (hd : hi ≤ lo' ∨ hi' ≤ lo) : Own w' lo hi e size A c n xs := by
  refine ⟨⟨h.row.1, ?_⟩, h.lt⟩
  rcases h.row.2 with hv | ⟨g, cap, cur, hv, hg, hh, r⟩
  · exact .inl hv
  · have hg2 : g < hi := by injection hv with hA; exact h.lt _ hA
    have hgs := (Array.getElem?_eq_some_iff.1 hh).1
    exact .inr ⟨g, cap, cur, hv, hg, by rw [hc.block g hgs (by omega)]; exact hh, r⟩
end
theorem Cells.chg {w w' : World} {A : Option Addr} {xs : List Value} (h : Cells w A xs) {lo hi B : Nat} (hc : Chg lo hi w w') (hA : ∀ ad, A = some ad → ad.block < B) (hd : B ≤ lo) : Cells w' A xs := by
  rcases h with h | ⟨b, off, hAd, hb, hcell⟩
  · exact .inl h
  · refine .inr ⟨b, off, hAd, by have := hc.size; omega, fun i v hv => ?_⟩
    have hbB : b < B := hA _ hAd
    rw [← hcell i v hv]
    exact World.cell?_of_block (hc.block b hb (.inl (by omega)))

/-- A store into an owned row of one-cell elements. -/
theorem Own.set {w : World} {lo hi : Nat} {e : TypeId} {n c : Nat} {g : Nat} {xs : List Value} (h : Own w lo hi e 1 (some ⟨g, 0, none⟩) c n xs) (i : Nat) (u : Value) :
    Own (w.setCell ⟨g, i, none⟩ u) lo hi e 1 (some ⟨g, 0, none⟩) c n (xs.set i u) := by
  refine ⟨⟨by rw [List.length_set]; exact h.row.1, ?_⟩, h.lt⟩
  rcases h.row.2 with ⟨hv, _⟩ | ⟨g', cap, cur, hv, hg, hh, h1, h2, h3, h4⟩
  · cases hv
  · injection hv with hA hn hc
    injection hA with hA; injection hA with hgg; subst hgg
    refine .inr ⟨g, cap, cur.setIfInBounds i u, by rw [hc], hg, ?_, h1, h2, by simpa using h3, ?_⟩
    · simp [World.setCell, Array.getElem?_modify, hh]
    · rw [Array.toList_setIfInBounds, List.take_set, h4]
theorem Own.sets {w : World} {lo hi : Nat} {e : TypeId} {size n c : Nat} {g : Nat} {xs : List Value} (h : Own w lo hi e size (some ⟨g, 0, none⟩) c n xs) (i : Nat) (u : Value) :
    Own (w.setCell ⟨g, i, none⟩ u) lo hi e size (some ⟨g, 0, none⟩) c n (xs.set i u) := by
  refine ⟨⟨by rw [List.length_set]; exact h.row.1, ?_⟩, h.lt⟩
  rcases h.row.2 with ⟨hv, _⟩ | ⟨g', cap, cur, hv, hg, hh, h1, h2, h3, h4⟩
  · cases hv
  · injection hv with hA hn hc
    injection hA with hA; injection hA with hgg; subst hgg
    refine .inr ⟨g, cap, cur.setIfInBounds i u, by rw [hc], hg, ?_, h1, h2, by simpa using h3, ?_⟩
    · simp [World.setCell, Array.getElem?_modify, hh]
    · rw [Array.toList_setIfInBounds, List.take_set, h4]
/-- An owned row's cell i: where it lies, what it holds, that it may be written. -/
theorem Own.at_ {w : World} {lo hi : Nat} {e : TypeId} {size n c : Nat} {A : Option Addr} {xs : List Value} (h : Own w lo hi e size A c n xs) {i : Nat} (hi' : i < xs.length) :
    ∃ g v, A = some ⟨g, 0, none⟩ ∧ lo ≤ g ∧ g < hi ∧ Hid (xs[i]? = some v) ∧ w.cell? ⟨g, i, none⟩ = some v ∧ w.frozen? ⟨g, i, none⟩ = false := by
  rcases h.row.2 with ⟨hv, hn⟩ | ⟨g, cap, cur, hv, hg, hh, h1, h2, h3, h4⟩
  · have h0 : xs.length = n * size := h.row.1
    rw [hn, Nat.zero_mul] at h0; omega
  · injection hv with hA hn hc
    refine ⟨g, xs[i], hA, hg, by have := h.lt _ hA; simpa using this, List.getElem?_eq_getElem hi', ?_, by simp [World.frozen?, hh]⟩
    rw [cell_of_row w g i cur e (0, 0) hh]
    have hx : xs[i]? = some xs[i] := List.getElem?_eq_getElem hi'
    have h5 : (cur.toList.take (n * size))[i]? = some xs[i] := by rw [h4]; exact hx
    rw [List.getElem?_take] at h5
    split at h5
    · simpa using h5
    · cases h5
theorem chg_set {lo hi g : Nat} (w : World) (h1 : lo ≤ g) (h2 : g < hi) (i : Nat) (u : Value) : Chg lo hi w (w.setCell ⟨g, i, none⟩ u) :=
  ⟨rfl, rfl, rfl, by simp [World.setCell], fun k _ hk => Below.heap_setCell _ _ _ _ (by simp; omega)⟩
theorem Chg.refl (lo hi : Nat) (w : World) : Chg lo hi w w := ⟨rfl, rfl, rfl, Nat.le_refl _, fun _ _ _ => rfl⟩
theorem Chg.trans {lo hi : Nat} {a b c : World} (h : Chg lo hi a b) (k : Chg lo hi b c) : Chg lo hi a c :=
  ⟨k.os.trans h.os, k.tape.trans h.tape, k.output.trans h.output, Nat.le_trans h.size k.size, fun i hi' hd => (k.block i (Nat.lt_of_lt_of_le hi' h.size) hd).trans (h.block i hi' hd)⟩

/-- The numbers k, k+1, .. : n of them. -/
def upw (k : Int) : Nat → List Int
  | 0 => []
  | n + 1 => k :: upw (k + 1) n
theorem upw_length (k : Int) (n : Nat) : (upw k n).length = n := by
  induction n generalizing k with
  | zero => rfl
  | succ n ih => simp [upw, ih]
theorem upw_get (k : Int) (n i : Nat) (h : i < n) : (upw k n)[i]? = some (k + i) := by
  induction n generalizing k i with
  | zero => omega
  | succ n ih =>
    rcases i with _ | i
    · simp [upw]
    · simp only [upw, List.getElem?_cons_succ]
      rw [ih (k + 1) i (by omega)]; congr 1; push_cast; omega

theorem Cells.of_get {w : World} {A : Option Addr} {xs : List Value} (h : Cells w A xs) {k : Nat} {v : Value} (hv : xs[k]? = some v) :
    ∃ b off, A = some ⟨b, off, none⟩ ∧ w.cell? ⟨b, off + k, none⟩ = some v := by
  rcases h with h | ⟨b, off, hA, _, hc⟩
  · subst h; simp at hv
  · exact ⟨b, off, hA, hc k v hv⟩
theorem Cells.int_of {w : World} {A : Option Addr} {zs : List Int} (h : Cells w A (ints zs)) {k : Nat} {z : Int} (hz : zs[k]? = some z) :
    ∃ b off, A = some ⟨b, off, none⟩ ∧ w.cell? ⟨b, off + k, none⟩ = some (.int .i64 z) := h.of_get (by rw [ints_get, hz]; rfl)

theorem ret_bool {a b : Bool} (h : a = b) : Ending.returned (.bool a) = .returned (.bool b) := by rw [h]
theorem ret_int {a b : Int} (h : a = b) : Ending.returned (.int .i64 a) = .returned (.int .i64 b) := by rw [h]
theorem all_snoc {α} (p : α → Bool) (zs : List α) (k : Nat) (z : α) (h : zs[k]? = some z) : (zs.take (k + 1)).all p = ((zs.take k).all p && p z) := by
  rw [List.take_add_one, h]; simp
theorem all_stop {α} (p : α → Bool) (zs : List α) (k : Nat) (z : α) (h : zs[k]? = some z) (hp : p z = false) : zs.all p = false := by
  rw [List.all_eq_false]
  exact ⟨z, List.mem_of_getElem? h, by simp [hp]⟩
theorem any_snoc {α} (p : α → Bool) (zs : List α) (k : Nat) (z : α) (h : zs[k]? = some z) : (zs.take (k + 1)).any p = ((zs.take k).any p || p z) := by
  rw [List.take_add_one, h]; simp
theorem any_stop {α} (p : α → Bool) (zs : List α) (k : Nat) (z : α) (h : zs[k]? = some z) (hp : p z = true) : zs.any p = true :=
  List.any_eq_true.2 ⟨z, List.mem_of_getElem? h, hp⟩
theorem take_snoc {α} (zs : List α) (k : Nat) (z : α) (h : zs[k]? = some z) : zs.take (k + 1) = zs.take k ++ [z] := by
  rw [List.take_add_one, h]; rfl

/-- n zero elements of size cells each. -/
def zcells (z : Value) (size n : Nat) : Array Value := madeCells z.cells (n * size)

/-- make([]T, 0, n): a row of the call's own, still empty. -/
theorem run_make_cap {P : Program} (t e : TypeId) {z : Value} {size bytes : Nat} (ht : P.underlying t = some (.slice e)) (hinfo : (P.info? e).map (fun i => (i.zero, i.size, i.bytes)) = some (some z, size, bytes))
    (n : Nat) (hn : n * bytes ≤ 281474976710656) (h63 : n ≤ 9223372036854775807) (W : World) :
    (Instr.makeSlice t (.int .i64 0) (.int .i64 (n : Int))).run P W = .ok (.slice (some ⟨W.heap.size, 0, none⟩) 0 n) (W.alloc (.cells (zcells z size n) e)) := by
  obtain ⟨i, hi, hz, hs, hb⟩ := info_parts hinfo
  have hb' : (i.bytes : Int) * (n : Int) ≤ 281474976710656 := by
    have h : ((i.bytes * n : Nat) : Int) ≤ 281474976710656 := by rw [hb, Nat.mul_comm]; omega
    rwa [Int.natCast_mul] at h
  have hr := run_make (P := P) W t e i z ht hi hz .i64 .i64 0 n (by omega) (by omega) hb' (by omega)
  simp only [Int.toNat_natCast, Int.toNat_zero] at hr
  rw [hr, hs]; rfl
theorem own_made (W : World) (e : TypeId) (z : Value) (size n : Nat) (h63 : n ≤ 9223372036854775807) {base : Nat} (hb : base ≤ W.heap.size) :
    (W.alloc (.cells (zcells z size n) e)).ownsRow base e size (.slice (some ⟨W.heap.size, 0, none⟩) 0 n) 0 [] :=
  World.ownsRow_made W _ n hb (by simp only [maxLen]; omega) (size_madeCells _ _)

theorem ints_set (zs : List Int) (j : Nat) (z : Int) : (ints zs).set j (.int .i64 z) = ints (zs.set j z) := by
  unfold ints; rw [List.map_set]
theorem mark_step (k : Int) (zs : List Int) (j : Nat) (h : j < zs.length) :
    (ints ((upw k zs.length).take j ++ zs.drop j)).set j (.int .i64 (k + j)) = ints ((upw k zs.length).take (j + 1) ++ zs.drop (j + 1)) := by
  have hl2 : ((upw k zs.length).take j).length = j := by rw [List.length_take, upw_length]; omega
  rw [ints_set, List.set_append_right _ _ (by omega), hl2, Nat.sub_self, List.drop_eq_getElem_cons h, List.set_cons_zero, take_snoc _ _ _ (upw_get k zs.length j h), List.append_assoc]
  rfl

/-- []T{}: a row of the call's own, still empty. -/
theorem own_empty (W : World) (e : TypeId) (size : Nat) {base : Nat} (hb : base ≤ W.heap.size) :
    (W.alloc (.cells #[] e)).ownsRow base e size (.slice (some ⟨W.heap.size, 0, none⟩) 0 0) 0 [] :=
  World.ownsRow_made W _ 0 hb (by simp only [maxLen]; omega) (by simp)
theorem one_int (z : Int) : ∀ u ∈ [Value.int .i64 z], u.oneCell' = true := by simp [Value.oneCell']
theorem ints_snoc (l : List Int) (z : Int) : ints l ++ [.int .i64 z] = ints (l ++ [z]) := by simp [ints]
theorem map_snoc (f : Int → Int) (zs : List Int) (k : Nat) (z : Int) (h : zs[k]? = some z) : ints ((zs.take k).map f) ++ [.int .i64 (f z)] = ints ((zs.take (k + 1)).map f) := by
  rw [take_snoc _ _ _ h, List.map_append, ints_snoc]; rfl

theorem below_step {w a b : World} (h : Below w.heap.size w a) (k : Below a.heap.size a b) : Below w.heap.size w b := h.trans (k.mono h.size)
theorem below_chg {w a b : World} {lo hi : Nat} (h : Below w.heap.size w a) (k : Chg lo hi a b) (hl : w.heap.size ≤ lo) : Below w.heap.size w b := h.trans (k.below hl h.size)

theorem Own.of_get {w : World} {lo hi : Nat} {e : TypeId} {size n c : Nat} {A : Option Addr} {xs : List Value} (h : Own w lo hi e size A c n xs) {k : Nat} {v : Value} (hv : xs[k]? = some v) :
    ∃ g, A = some ⟨g, 0, none⟩ ∧ lo ≤ g ∧ g < hi ∧ w.cell? ⟨g, k, none⟩ = some v ∧ w.frozen? ⟨g, k, none⟩ = false := by
  obtain ⟨g, v', hA, h1, h2, h3, h4, h5⟩ := h.at_ (List.getElem?_eq_some_iff.1 hv).1
  have := h3.out; rw [hv] at this; injection this with this; subst this
  exact ⟨g, hA, h1, h2, h4, h5⟩
theorem Own.int_of {w : World} {lo hi : Nat} {e : TypeId} {n c : Nat} {A : Option Addr} {zs : List Int} (h : Own w lo hi e 1 A c n (ints zs)) {k : Nat} {z : Int} (hz : zs[k]? = some z) :
    ∃ g, A = some ⟨g, 0, none⟩ ∧ lo ≤ g ∧ g < hi ∧ w.cell? ⟨g, k, none⟩ = some (.int .i64 z) ∧ w.frozen? ⟨g, k, none⟩ = false := h.of_get (by rw [ints_get, hz]; rfl)

theorem Own.drewN {w : World} {lo hi : Nat} {e : TypeId} {size n c : Nat} {A : Option Addr} {xs : List Value} (h : Own w lo hi e size A c n xs) (k : Nat) : Own (w.drewN k) lo hi e size A c n xs := ⟨h.row, h.lt⟩
theorem Chg.drewN {lo hi : Nat} {a w : World} (h : Chg lo hi a w) (k : Nat) : Chg lo hi a (w.drewN k) := ⟨h.os, h.tape, h.output, h.size, h.block⟩

end Go.Proofs.Ytihjjnmhionibaa
