/- Small lemmas on the reader of codes and on rows of the call's own. -/
import Derived.Test.YtihjjnmhionibaaDraw
import Derived.Test.YtihjjnmhionibaaBase2
namespace Go.Proofs.Ytihjjnmhionibaa
open Go.RowKit

theorem own_only {w w' : World} {base g : Nat} {e : TypeId} {size n : Nat} {v : Value} {xs : List Value} (h : w.ownsRow base e size v n xs) (hg : g < base) (hc : Only g w w') : w'.ownsRow base e size v n xs := by
  refine ⟨h.1, ?_⟩
  rcases h.2 with hv | ⟨k, cap, cur, hv, hk, hh, r⟩
  · exact .inl hv
  · exact .inr ⟨k, cap, cur, hv, hk, by rw [hc.block k (Array.getElem?_eq_some_iff.1 hh).1 (.inr (by omega))]; exact hh, r⟩
theorem rd_grown {w w' : World} {g p B : Nat} (h : Rd w g p) (hb : Below B w w') (hB : g < B) : Rd w' g p := by
  obtain ⟨A, c, us, hk, hc, hu, hl⟩ := h
  refine ⟨A, c, us, hk.below hb hB, ?_, hu, hl⟩
  rcases hc with hc | ⟨b, off, hA, h1, h2, h3⟩
  · exact .inl hc
  · exact .inr ⟨b, off, hA, h1, by have := hb.size; omega, fun i v hv => (hb.cell (p := ⟨b, off + i, none⟩) (show b < B by omega)).trans (h3 i v hv)⟩
theorem only_grown {g B : Nat} {w w' : World} (hb : Below B w w') (hB : w.heap.size ≤ B) : Only g w w' :=
  ⟨hb.os, hb.tape, hb.output, hb.size, fun k hk _ => hb.block k (by omega)⟩
theorem only_step {g B : Nat} {a w w' : World} (h : Only g a w) (hb : Below B w w') (hB : a.heap.size ≤ B) : Only g a w' :=
  ⟨hb.os.trans h.os, hb.tape.trans h.tape, hb.output.trans h.output, Nat.le_trans h.size hb.size, fun k hk hd => (hb.block k (by omega)).trans (h.block k hk hd)⟩
theorem only_set {g gb : Nat} {a w : World} (h : Only g a w) (hB : a.heap.size ≤ gb) (i : Nat) (u : Value) : Only g a (w.setCell ⟨gb, i, none⟩ u) :=
  ⟨h.os, h.tape, h.output, by simpa [World.setCell] using h.size, fun k hk hd => (Below.heap_setCell _ _ _ _ (by simp; omega)).trans (h.block k hk hd)⟩
theorem blk_only {w w' : World} {g b : Nat} {t : TypeId} {xs : List Value} (h : Blk w b t xs) (ho : Only g w w') (hd : b ≠ g) : Blk w' b t xs := (ho.block b h.lt (by omega)).trans h
theorem rd_set {w : World} {g p gb : Nat} (h : Rd w g p) (hd : g < gb) (i : Nat) (u : Value) : Rd (w.setCell ⟨gb, i, none⟩ u) g p := h.chg (chg_set w (Nat.le_refl gb) (Nat.lt_succ_self gb) i u) hd

/-- A row stands where its block stands. -/
theorem row_keep {w w' : World} {base : Nat} {e : TypeId} {size n c : Nat} {A : Option Addr} {xs : List Value} (h : w.ownsRow base e size (.slice A n c) n xs) (hk : ∀ g, A = some ⟨g, 0, none⟩ → g < w.heap.size → w'.heap[g]? = w.heap[g]?) : w'.ownsRow base e size (.slice A n c) n xs := by
  refine ⟨h.1, ?_⟩
  rcases h.2 with hv | ⟨g, cap, cur, hv, hg2, hh, r⟩
  · exact .inl hv
  · have hA : A = some ⟨g, 0, none⟩ := by injection hv
    exact .inr ⟨g, cap, cur, hv, hg2, by rw [hk g hA (Array.getElem?_eq_some_iff.1 hh).1]; exact hh, r⟩

end Go.Proofs.Ytihjjnmhionibaa
