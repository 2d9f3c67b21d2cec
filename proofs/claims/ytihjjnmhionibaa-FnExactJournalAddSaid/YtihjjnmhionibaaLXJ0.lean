/- Words for the exact laws on journals. -/
import Derived.Test.YtihjjnmhionibaaLJ0
import Derived.Test.YtihjjnmhionibaaJ15
namespace Go.Proofs.Ytihjjnmhionibaa
open Go.RowKit

theorem Blk.chg {w w' : World} {g lo hi : Nat} {t : TypeId} {xs : List Value} (h : Blk w g t xs) (hc : Chg lo hi w w') (hd : g < lo ∨ hi ≤ g) : Blk w' g t xs := (hc.block g h.lt hd).trans h
/-- Block B holds a journal; its row is the call's own, in a block from lo up to hi. -/
structure BoxO (W : World) (B lo hi : Nat) (A : Option Addr) (c n : Nat) (s : Int) (l : List RecT) : Prop where
  blk : Blk W B 29 (JB A n c s)
  own : Own W lo hi 35 2 A c n (recs l)
section
variable {W W' : World} {B lo hi : Nat} {A : Option Addr} {c n : Nat} {s : Int} {l : List RecT}
theorem BoxO.below (h : BoxO W B lo hi A c n s l) (hb : Below W.heap.size W W') : BoxO W' B lo hi A c n s l := ⟨h.blk.below hb h.blk.lt, h.own.below hb⟩
theorem BoxO.chg (h : BoxO W B lo hi A c n s l) {lo' hi' : Nat} (hc : Chg lo' hi' W W') (h1 : B < lo' ∨ hi' ≤ B) (h2 : hi ≤ lo' ∨ hi' ≤ lo) : BoxO W' B lo hi A c n s l := ⟨h.blk.chg hc h1, h.own.chg hc h2⟩
theorem BoxO.new {lo hi : Nat} (ho : Own W lo hi 35 2 A c n (recs l)) : BoxO (W.alloc (.cells #[.slice A n c, .int .i64 s] 29)) W.heap.size lo hi A c n s l :=
  ⟨Blk.new W 29 (JB A n c s), ho.below ((Below.refl _ _).alloc (Nat.le_refl _) _)⟩
theorem BoxO.cells (h : BoxO W B lo hi A c n s l) : Cells W A (recs l) := h.own.cells
theorem BoxO.cap (h : BoxO W B lo hi A c n s l) : n ≤ c := own_cap h.own.row
end
section
variable {l : List RecT} {n : Nat}
theorem eqJ_g (hn : Hid (l.length = n)) (h : n ≤ 1048577) (A B : Option Addr) (c d : Nat) (s : Int) (w : World) (hA : Cells w A (recs l)) (hB : Cells w B (recs l)) :
    Calls Try.prog 22 #[jv A n c s, jv B n d s] w (RetB w true) := by
  have h1 := hn.out; subst h1
  exact eqJournal_true A B c d l s w hA hB (by omega)
theorem markJ_g (hn : Hid (l.length = n)) (h : n ≤ 1048577) (A : Option Addr) (c lo hi : Nat) (s : Int) (w : World) (ho : Own w lo hi 35 2 A c n (recs l)) :
    Calls Try.prog 34 #[jv A n c s, .int .i64 1] w fun e w' => e = .returned (.int .i64 (1 + (n : Int) * 2)) ∧ Own w' lo hi 35 2 A c n (recs (upR 1 n)) ∧ Chg lo hi w w' :=
  markJournal_any A c lo hi n l s 1 w hn ho h (Nat.le_refl _) (by omega)
theorem heldJ_g (h : n ≤ 1048577) (A : Option Addr) (c : Nat) (s : Int) (w : World) (hA : Cells w A (recs (upR 1 n))) :
    Calls Try.prog 35 #[jv A n c s, .int .i64 1] w fun e w' => e = .returned (.int .i64 (1 + (n : Int) * 2)) ∧ Below w.heap.size w w' :=
  heldJournal_any A c n 1 s w hA h (Nat.le_refl _) (by omega)
end
section
variable {n : Nat} {T : List ByteArray} {H : List Bool}
theorem eqT_g (hn : Hid (T.length = n)) (h : n ≤ 1048576) (A B : Option Addr) (c d : Nat) (w : World) (hA : Cells w A (strs T)) (hB : Cells w B (strs T)) :
    Calls Try.prog 42 #[.slice A n c, .slice B n d] w (RetB w true) := by
  have h1 := hn.out; subst h1
  exact eqStringS_true A B c d T w hA hB (by omega)
theorem eqB_g (hn : Hid (H.length = n)) (h : n ≤ 1048576) (A B : Option Addr) (c d : Nat) (w : World) (hA : Cells w A (bools H)) (hB : Cells w B (bools H)) :
    Calls Try.prog 43 #[.slice A n c, .slice B n d] w (RetB w true) := by
  have h1 := hn.out; subst h1
  exact eqBoolS_true A B c d H w hA hB (by omega)
theorem markT_g (hn : Hid (T.length = n)) (h : n ≤ 1048576) (A : Option Addr) (c lo hi : Nat) (w : World) (ho : Own w lo hi 9 1 A c n (strs T)) :
    Calls Try.prog 44 #[.slice A n c, .int .i64 1] w fun e w' => e = .returned (.int .i64 (1 + (n : Int))) ∧ Own w' lo hi 9 1 A c n (strs (upS 1 n)) ∧ Chg lo hi w w' := by
  have h1 := hn.out; subst h1
  exact markStringS_any A c lo hi T 1 w ho (by omega) (Nat.le_refl _) (by omega)
theorem markB_g (hn : Hid (H.length = n)) (h : n ≤ 1048576) (A : Option Addr) (c lo hi : Nat) (w : World) (ho : Own w lo hi 4 1 A c n (bools H)) :
    Calls Try.prog 45 #[.slice A n c, .int .i64 (1 + (n : Int))] w fun e w' => e = .returned (.int .i64 (1 + (n : Int) + (n : Int))) ∧ Own w' lo hi 4 1 A c n (bools (upB (1 + n) n)) ∧ Chg lo hi w w' := by
  have h1 := hn.out; subst h1
  have h2 := markBoolS_any A c lo hi H (1 + H.length) w ho (by omega) (by omega)
  push_cast at h2
  exact h2
theorem heldT_g (h : n ≤ 1048576) (A : Option Addr) (c : Nat) (w : World) (hA : Cells w A (strs (upS 1 n))) :
    Calls Try.prog 46 #[.slice A n c, .int .i64 1] w fun e w' => e = .returned (.int .i64 (1 + (n : Int))) ∧ Below w.heap.size w w' :=
  heldStringS_any A c n 1 w hA (by omega) (Nat.le_refl _) (by omega)
theorem heldB_g (h : n ≤ 1048576) (A : Option Addr) (c : Nat) (w : World) (hA : Cells w A (bools (upB (1 + n) n))) :
    Calls Try.prog 47 #[.slice A n c, .int .i64 (1 + (n : Int))] w fun e w' => e = .returned (.int .i64 (1 + (n : Int) + (n : Int))) ∧ Below w.heap.size w w' := by
  have h2 := heldBoolS_any A c n (1 + n) w hA (by omega) (by omega)
  push_cast at h2
  exact h2
/-- The two answers of JournalBlocks, as rows of the call's own that lie apart. -/
def RetTBo (w : World) (T : List ByteArray) (H : List Bool) (n : Nat) (e : Ending) (w' : World) : Prop :=
  ∃ A c B d l1 h1 l2 h2, e = .returned (.tuple #[.slice A n c, .slice B n d]) ∧ Own w' l1 h1 9 1 A c n (strs T) ∧ Own w' l2 h2 4 1 B d n (bools H) ∧
    (h1 ≤ l2 ∨ h2 ≤ l1) ∧ w.heap.size ≤ l1 ∧ w.heap.size ≤ l2 ∧ h1 ≤ w'.heap.size ∧ h2 ≤ w'.heap.size ∧ Below w.heap.size w w'
theorem RetTB.owns {w w' : World} {e : Ending} (hT : T.length = n) (hH : H.length = n) (h : RetTB w T H e w') : RetTBo w T H n e w' := by
  obtain ⟨A, c, B, d, l1, h1, l2, h2, rfl, o1, o2, r⟩ := h
  subst hT
  rw [hH] at o2 ⊢
  exact ⟨A, c, B, d, l1, h1, l2, h2, rfl, o1, o2, r⟩
variable {l : List RecT} {s k : Int} {m : Nat}
theorem implBlocks_o (hG : Hid (blocksG l s k = (T, H))) (hT : Hid (T.length = n)) (hH : Hid (H.length = n)) (hm : Hid (l.length = m)) (hS : Hid (SmallR l)) (A : Option Addr) (c : Nat) (w : World) (hA : Cells w A (recs l)) :
    Calls Try.prog 33 #[jv A m c s, .int .i64 k] w (RetTBo w T H n) := by
  have h1 := hm.out; subst h1
  have := implBlocks_any A c l s k w hA hS.out
  rw [hG.out] at this
  exact this.mono fun _ _ h => h.owns hT.out hH.out
theorem specBlocks_o (hG : Hid (blocksG l s k = (T, H))) (hT : Hid (T.length = n)) (hH : Hid (H.length = n)) (hm : Hid (l.length = m)) (hS : Hid (SmallR l)) (A : Option Addr) (c : Nat) (w : World) (hA : Cells w A (recs l)) :
    Calls Try.prog 37 #[jv A m c s, .int .i64 k] w (RetTBo w T H n) := by
  have h1 := hm.out; subst h1
  have := specBlocks_any A c l s k w hA hS.out
  rw [hG.out] at this
  exact this.mono fun _ _ h => h.owns hT.out hH.out
end
theorem crashG_len {l : List RecT} {s x : Int} : (crashG l s x).1.length ≤ l.length := by
  unfold crashG
  split
  · simp; omega
  · simp
theorem syncG_len {l : List RecT} {s : Int} : (syncG l s).1.length ≤ l.length := by
  unfold syncG
  split <;> simp
theorem addG_len {l : List RecT} {s : Int} {a : RecT} : (addG l s a).1.length ≤ l.length + 1 := by
  unfold addG
  split
  · split <;> simp
  · simp

end Go.Proofs.Ytihjjnmhionibaa
