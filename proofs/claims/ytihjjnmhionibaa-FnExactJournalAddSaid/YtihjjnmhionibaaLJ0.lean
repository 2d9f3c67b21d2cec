/- Words for the laws on journals. -/
import Derived.Test.YtihjjnmhionibaaDrawJ3
import Derived.Test.YtihjjnmhionibaaJ13
namespace Go.Proofs.Ytihjjnmhionibaa
open Go.RowKit

set_option maxHeartbeats 1000000 in
theorem sameJournal_true (A B : Option Addr) (c d : Nat) (l : List RecT) (s : Int) (w : World) (hA : Cells w A (recs l)) (hB : Cells w B (recs l)) (hm : l.length ≤ 1048576) :
    Calls Try.prog 26 #[jv A l.length c s, jv B l.length d s] w (RetB w true) := by
  have hb1 : Below w.heap.size w (w.alloc (.cells #[.slice A l.length c, .int .i64 s] 29)) := (Below.refl _ _).alloc (Nat.le_refl _) _
  have hb2 : Below (w.alloc (.cells #[.slice A l.length c, .int .i64 s] 29)).heap.size (w.alloc (.cells #[.slice A l.length c, .int .i64 s] 29)) ((w.alloc (.cells #[.slice A l.length c, .int .i64 s] 29)).alloc (.cells #[.slice B l.length d, .int .i64 s] 29)) := (Below.refl _ _).alloc (Nat.le_refl _) _
  have hb := below_step hb1 hb2
  have hA0 := hA.below hb
  have hB0 := hB.below hb
  have q0 := hid ((Blk.new w 29 (JB A l.length c s)).below hb2 (by simp))
  have q1 : Hid (Blk ((w.alloc (.cells #[.slice A l.length c, .int .i64 s] 29)).alloc (.cells #[.slice B l.length d, .int .i64 s] 29)) (w.heap.size + 1) 29 (JB B l.length d s)) := by
    have h := Blk.new (w.alloc (.cells #[.slice A l.length c, .int .i64 s] 29)) 29 (JB B l.length d s)
    simpa [Hid] using h
  obtain ⟨c0, c1, -, -⟩ := q0.out.two
  obtain ⟨d0, d1, -, -⟩ := q1.out.two
  clear hb1 hb2 hA hB q0 q1
  go_enter Try.func26, Try.ntmps26
  go_wp2
  generalize ((w.alloc (.cells #[.slice A l.length c, .int .i64 s] 29)).alloc (.cells #[.slice B l.length d, .int .i64 s] 29)) = W0 at hb hA0 hB0 c0 c1 d0 d1 ⊢
  go_loopw [5] (fun i wr => ∃ k : Nat, k ≤ l.length ∧ i = .int .i64 k ∧ ∃ n, wr = W0.drewN n) (fun i _ => l.length - (intOf i).toNat)
  case atStart => exact ⟨0, Nat.zero_le _, rfl, 0, rfl⟩
  case round =>
    obtain ⟨k, hk, rfl, n, rfl⟩ := hrel
    by_cases hlt : k < l.length
    · obtain ⟨b, off, i, t, rfl, hz, hc, hc1⟩ := hA0.rec_at hlt
      obtain ⟨b2, off2, rfl, hd, hd1⟩ := hB0.rec_of hz.out
      go_wp2
      go_quiet (fail)
      go_wp2
      go_roundw
      case rel => exact ⟨k + 1, by omega, by go_num, _, rfl⟩
      case measure => simp [intOf]; omega
    · go_wp2
      go_ret
      exact ⟨rfl, below_step hb (below_drawn _ _ _)⟩

/-- Block B holds a journal: its slice, its number; the slice reads as l. -/
structure BoxJ (W : World) (B : Nat) (A : Option Addr) (c n : Nat) (s : Int) (l : List RecT) : Prop where
  blk : Blk W B 29 (JB A n c s)
  cells : Cells W A (recs l)
  len : l.length = n
  cap : n ≤ c
/-- Block B holds a record. -/
structure BoxR (W : World) (B : Nat) (i : Int) (t : ByteArray) : Prop where
  blk : Blk W B 35 [.int .i64 i, .string t]
section
variable {W W' : World} {B : Nat} {A : Option Addr} {c n : Nat} {s i : Int} {t : ByteArray} {l : List RecT}
theorem BoxJ.below (h : BoxJ W B A c n s l) (hb : Below W.heap.size W W') : BoxJ W' B A c n s l := ⟨h.blk.below hb h.blk.lt, h.cells.below hb, h.len, h.cap⟩
theorem BoxR.below (h : BoxR W B i t) (hb : Below W.heap.size W W') : BoxR W' B i t := ⟨h.blk.below hb h.blk.lt⟩
theorem BoxJ.of (hk : Blk W B 29 (JB A n c s)) {lo hi : Nat} (ho : Own W lo hi 35 2 A c n (recs l)) : BoxJ W B A c n s l := by
  refine ⟨hk, ho.cells, ?_, own_cap ho.row⟩
  have := ho.row.1
  rw [recs_length] at this
  omega
theorem BoxJ.new {lo hi : Nat} (ho : Own W lo hi 35 2 A c n (recs l)) : BoxJ (W.alloc (.cells #[.slice A n c, .int .i64 s] 29)) W.heap.size A c n s l :=
  BoxJ.of (Blk.new W 29 (JB A n c s)) (ho.below ((Below.refl _ _).alloc (Nat.le_refl _) _))
end
theorem boxes2 {W : World} {lo hi : Nat} {A : Option Addr} {c n : Nat} {l : List RecT} (s i : Int) (t : ByteArray) (ho : Own W lo hi 35 2 A c n (recs l)) :
    BoxJ ((W.alloc (.cells #[.slice A n c, .int .i64 s] 29)).alloc (.cells #[.int .i64 i, .string t] 35)) W.heap.size A c n s l ∧
    BoxR ((W.alloc (.cells #[.slice A n c, .int .i64 s] 29)).alloc (.cells #[.int .i64 i, .string t] 35)) (W.heap.size + 1) i t ∧
    Below W.heap.size W ((W.alloc (.cells #[.slice A n c, .int .i64 s] 29)).alloc (.cells #[.int .i64 i, .string t] 35)) := by
  have hb := (Below.refl (W.alloc (.cells #[.slice A n c, .int .i64 s] 29)).heap.size (W.alloc (.cells #[.slice A n c, .int .i64 s] 29))).alloc (Nat.le_refl _) (.cells #[.int .i64 i, .string t] 35)
  refine ⟨(BoxJ.new ho).below hb, ⟨?_⟩, ((Below.refl _ _).alloc (Nat.le_refl _) _).alloc (by simp) _⟩
  have h := Blk.new (W.alloc (.cells #[.slice A n c, .int .i64 s] 29)) 35 [.int .i64 i, .string t]
  simpa using h
theorem own_len {W : World} {lo hi : Nat} {A : Option Addr} {c n : Nat} {l : List RecT} (ho : Own W lo hi 35 2 A c n (recs l)) : l.length = n := by
  have := ho.row.1
  rw [recs_length] at this
  omega

section
variable {l L : List RecT} {s s' k i : Int} {t : ByteArray} {m n : Nat} {ok : Bool}
theorem sameJ_g (hn : Hid (l.length = n)) (h : n ≤ 1048576) (A B : Option Addr) (c d : Nat) (s : Int) (w : World) (hA : Cells w A (recs l)) (hB : Cells w B (recs l)) :
    Calls Try.prog 26 #[jv A n c s, jv B n d s] w (RetB w true) := by
  have h1 := hn.out; subst h1
  exact sameJournal_true A B c d l s w hA hB h
theorem implValid_g {b : Bool} (hb : Hid (validJ l s = b)) (hn : Hid (l.length = n)) (hS : Hid (SmallR l)) (A : Option Addr) (c : Nat) (w : World) (hA : Cells w A (recs l)) :
    Calls Try.prog 21 #[jv A n c s] w (RetB w b) := by
  have h1 := hn.out; subst h1
  have h2 := hb.out; subst h2
  exact implJValid_any A c l s w hA hS.out
theorem specValid_g {b : Bool} (hb : Hid (validJ l s = b)) (hn : Hid (l.length = n)) (hS : Hid (SmallR l)) (A : Option Addr) (c : Nat) (w : World) (hA : Cells w A (recs l)) :
    Calls Try.prog 19 #[jv A n c s] w (RetB w b) := by
  have h1 := hn.out; subst h1
  have h2 := hb.out; subst h2
  exact specJValid_any A c l s w hA hS.out
theorem implAdd_g (hG : Hid (addG l s (i, t) = (L, s', ok))) (hm : Hid (l.length = m)) (hn : Hid (L.length = n)) (hS : Hid (SmallR l)) (ht : t.size ≤ 1048576) (A : Option Addr) (c : Nat) (w : World) (hA : Cells w A (recs l)) :
    Calls Try.prog 24 #[jv A m c s, rv i t] w (RetJB w L n s' ok) := by
  have h1 := hm.out; have h2 := hn.out; subst h1; subst h2
  have := implAdd_any A c l s i t w hA hS.out (by omega)
  rw [hG.out] at this
  exact this
theorem specAdd_g (hG : Hid (addG l s (i, t) = (L, s', ok))) (hm : Hid (l.length = m)) (hn : Hid (L.length = n)) (hS : Hid (SmallR l)) (ht : t.size ≤ 1048576) (A : Option Addr) (c : Nat) (w : World) (hA : Cells w A (recs l)) :
    Calls Try.prog 25 #[jv A m c s, rv i t] w (RetJB w L n s' ok) := by
  have h1 := hm.out; have h2 := hn.out; subst h1; subst h2
  have := specAdd_any A c l s i t w hA hS.out (by omega)
  rw [hG.out] at this
  exact this
theorem implSync_g (hG : Hid (syncG l s = (L, s'))) (hm : Hid (l.length = m)) (hn : Hid (L.length = n)) (hS : Hid (SmallR l)) (A : Option Addr) (c : Nat) (w : World) (hA : Cells w A (recs l)) :
    Calls Try.prog 28 #[jv A m c s] w (RetJ w L n s') := by
  have h1 := hm.out; have h2 := hn.out; subst h1; subst h2
  have := implSync_any A c l s w hA hS.out
  rw [hG.out] at this
  exact this
theorem specSync_g (hG : Hid (syncG l s = (L, s'))) (hm : Hid (l.length = m)) (hn : Hid (L.length = n)) (hS : Hid (SmallR l)) (A : Option Addr) (c : Nat) (w : World) (hA : Cells w A (recs l)) :
    Calls Try.prog 29 #[jv A m c s] w (RetJ w L n s') := by
  have h1 := hm.out; have h2 := hn.out; subst h1; subst h2
  have := specSync_any A c l s w hA hS.out
  rw [hG.out] at this
  exact this
theorem implCrash_g (hG : Hid (crashG l s k = (L, n))) (hm : Hid (l.length = m)) (hS : Hid (SmallR l)) (hk1 : -9223372036854775808 ≤ k) (hk2 : k ≤ 9223372036854775807) (A : Option Addr) (c : Nat) (w : World) (hA : Cells w A (recs l)) (hc : m ≤ c) :
    Calls Try.prog 30 #[jv A m c s, .int .i64 k] w (RetJ w L n n) := by
  have h1 := hm.out; subst h1
  have := implCrash_any A c l s k w hA hc hS.out hk1 hk2
  rw [hG.out] at this
  exact this
theorem specCrash_g (hG : Hid (crashG l s k = (L, n))) (hm : Hid (l.length = m)) (hS : Hid (SmallR l)) (hk1 : -9223372036854775808 ≤ k) (hk2 : k ≤ 9223372036854775807) (A : Option Addr) (c : Nat) (w : World) (hA : Cells w A (recs l)) (hc : m ≤ c) :
    Calls Try.prog 32 #[jv A m c s, .int .i64 k] w (RetJ w L n n) := by
  have h1 := hm.out; subst h1
  have := specCrash_any A c l s k w hA hc hS.out hk1 hk2
  rw [hG.out] at this
  exact this
end

theorem addG_true {l L : List RecT} {s s' : Int} {a : RecT} (h : addG l s a = (L, s', true)) : validJ l s = true ∧ recB a = true ∧ l.length < 20 ∧ L = l ++ [a] ∧ s = s' := by
  cases h1 : (validJ l s && recB a)
  · rw [addG_bad h1] at h; cases h
  · rw [Bool.and_eq_true] at h1
    by_cases h2 : l.length < 20
    · rw [addG_ok h1.1 h1.2 h2] at h; injection h with h3 h4; injection h4 with h4 _; exact ⟨h1.1, h1.2, h2, h3.symm, h4⟩
    · rw [addG_full h1.1 h1.2 (by omega)] at h; injection h with h3 h4; injection h4 with h4 h5; cases h5
theorem valid_snoc {l : List RecT} {s : Int} {a : RecT} (h : validJ l s = true) (ha : recB a = true) (hl : l.length < 20) : validJ (l ++ [a]) s = true := by
  obtain ⟨h1, h2, h3⟩ := validJ_parts h
  refine validJ_yes (by simp; omega) ?_ (fun b hb => ?_)
  · rw [inB_iff] at h2 ⊢; simp; omega
  · rcases List.mem_append.1 hb with h4 | h4
    · exact h3 b h4
    · simp at h4; subst h4; exact ha
theorem crash_zero {l : List RecT} {s : Int} {a : RecT} (h : validJ l s = true) (ha : recB a = true) (hl : l.length < 20) : crashG (l ++ [a]) s 0 = ((l ++ [a]).take s.toNat, s.toNat) := by
  have h2 := (validJ_parts h).2.1
  rw [inB_iff] at h2
  rw [crashG_ok (valid_snoc h ha hl) (Int.le_refl _)]
  have : crashN (l ++ [a]) s 0 = s.toNat := by unfold crashN; simp; omega
  rw [this]
theorem valid_snoc' {l L : List RecT} {s : Int} {a : RecT} (h : Hid (validJ l s = true)) (ha : Hid (recB a = true)) (hL : Hid (L = l ++ [a])) (hl : l.length < 20) : Hid (validJ L s = true) := by
  unfold Hid; rw [hL.out]; exact valid_snoc h.out ha.out hl
theorem boxX {w : World} {B : Nat} {A : Option Addr} {c n m : Nat} {s : Int} {l L : List RecT} {a : RecT} (O : BoxJ w B A c n s L) (hL : L = l ++ [a]) (hm : l.length = m) (hn : n = m + 1) :
    BoxJ (w.alloc (.cells #[.slice A m c, .int .i64 s] 29)) w.heap.size A c m s l := by
  have hb := (Below.refl w.heap.size w).alloc (Nat.le_refl _) (.cells #[.slice A m c, .int .i64 s] 29)
  refine ⟨Blk.new w 29 (JB A m c s), ?_, hm, by have := O.cap; omega⟩
  have h2 := (O.cells.below hb).take (m * 2)
  subst hm
  rw [recs_take, hL, List.take_left] at h2
  exact h2

/-- The two answers of JournalBlocks, as cells. -/
def RetTBc (w : World) (T : List ByteArray) (H : List Bool) (n : Nat) (e : Ending) (w' : World) : Prop :=
  ∃ A c B d, e = .returned (.tuple #[.slice A n c, .slice B n d]) ∧ Cells w' A (strs T) ∧ Cells w' B (bools H) ∧ n ≤ c ∧ n ≤ d ∧ Below w.heap.size w w'
theorem RetTB.cells {w w' : World} {T : List ByteArray} {H : List Bool} {n : Nat} {e : Ending} (hT : T.length = n) (hH : H.length = n) (h : RetTB w T H e w') : RetTBc w T H n e w' := by
  obtain ⟨A, c, B, d, l1, h1, l2, h2, rfl, o1, o2, -, -, -, -, -, b⟩ := h
  subst hT
  rw [hH] at o2 ⊢
  exact ⟨A, c, B, d, rfl, o1.cells, o2.cells, own_cap o1.row, own_cap o2.row, b⟩
section
variable {l : List RecT} {s k : Int} {m n : Nat} {T : List ByteArray} {H : List Bool}
theorem blocksG_lens (l : List RecT) (s k : Int) : (blocksG l s k).1.length = (blocksG l s k).2.length := by
  unfold blocksG
  split
  · rw [blkT_length, blkH_length]
  · rfl
theorem implBlocks_g (hG : Hid (blocksG l s k = (T, H))) (hT : Hid (T.length = n)) (hH : Hid (H.length = n)) (hm : Hid (l.length = m)) (hS : Hid (SmallR l)) (A : Option Addr) (c : Nat) (w : World) (hA : Cells w A (recs l)) :
    Calls Try.prog 33 #[jv A m c s, .int .i64 k] w (RetTBc w T H n) := by
  have h1 := hm.out; subst h1
  have := implBlocks_any A c l s k w hA hS.out
  rw [hG.out] at this
  exact this.mono fun _ _ h => h.cells hT.out hH.out
theorem specBlocks_g (hG : Hid (blocksG l s k = (T, H))) (hT : Hid (T.length = n)) (hH : Hid (H.length = n)) (hm : Hid (l.length = m)) (hS : Hid (SmallR l)) (A : Option Addr) (c : Nat) (w : World) (hA : Cells w A (recs l)) :
    Calls Try.prog 37 #[jv A m c s, .int .i64 k] w (RetTBc w T H n) := by
  have h1 := hm.out; subst h1
  have := specBlocks_any A c l s k w hA hS.out
  rw [hG.out] at this
  exact this.mono fun _ _ h => h.cells hT.out hH.out
end
theorem sameT_g {T : List ByteArray} {n : Nat} (hn : Hid (T.length = n)) (h : n ≤ 1048576) (A B : Option Addr) (c d : Nat) (w : World) (hA : Cells w A (strs T)) (hB : Cells w B (strs T)) :
    Calls Try.prog 38 #[.slice A n c, .slice B n d] w (RetB w true) := by
  have h1 := hn.out; subst h1
  exact sameTexts_true A B c d T w hA hB (by omega)
theorem sameB_g {T : List Bool} {n : Nat} (hn : Hid (T.length = n)) (h : n ≤ 1048576) (A B : Option Addr) (c d : Nat) (w : World) (hA : Cells w A (bools T)) (hB : Cells w B (bools T)) :
    Calls Try.prog 39 #[.slice A n c, .slice B n d] w (RetB w true) := by
  have h1 := hn.out; subst h1
  exact sameBools_true A B c d T w hA hB (by omega)

theorem blkT_app (l : List RecT) (a : RecT) (n : Nat) : blkT (l ++ [a]) n = (blkT l n).set a.1.toNat a.2 := by simp [blkT, List.foldl_append]
theorem blkH_app (l : List RecT) (a : RecT) (n : Nat) : blkH (l ++ [a]) n = (blkH l n).set a.1.toNat true := by simp [blkH, List.foldl_append]
theorem foldl_set_take {β} (f : RecT → β) (l : List RecT) (T : List β) (k : Nat) : (l.foldl (fun T a => T.set a.1.toNat (f a)) T).take k = l.foldl (fun T a => T.set a.1.toNat (f a)) (T.take k) := by
  induction l generalizing T with
  | nil => rfl
  | cons a l ih => simp only [List.foldl_cons]; rw [ih, List.take_set]
theorem blkT_take (l : List RecT) {k n : Nat} (h : k ≤ n) : (blkT l n).take k = blkT l k := by
  unfold blkT
  rw [foldl_set_take, List.take_replicate, Nat.min_eq_left h]
theorem blkH_take (l : List RecT) {k n : Nat} (h : k ≤ n) : (blkH l n).take k = blkH l k := by
  unfold blkH
  rw [foldl_set_take (fun _ => true), List.take_replicate, Nat.min_eq_left h]
theorem blkH_keep (l : List RecT) (H : List Bool) {j : Nat} (h : H[j]? = some true) : (l.foldl (fun H a => H.set a.1.toNat true) H)[j]? = some true := by
  induction l generalizing H with
  | nil => exact h
  | cons a l ih =>
    refine ih _ ?_
    have hj := (List.getElem?_eq_some_iff.1 h).1
    rw [List.getElem?_set]
    split
    · rename_i e; subst e; rw [if_pos hj]
    · exact h
theorem blkH_mem {l : List RecT} {a : RecT} {n : Nat} (h : a ∈ l) (hn : a.1.toNat < n) : (blkH l n)[a.1.toNat]? = some true := by
  obtain ⟨s, t, rfl⟩ := List.append_of_mem h
  unfold blkH
  rw [List.foldl_append, List.foldl_cons]
  refine blkH_keep t _ ?_
  rw [List.getElem?_set, if_pos rfl, if_pos]
  rw [foldl_length _ (by simp)]; simpa using hn
/-- What was read last for index j among the first k records. -/
def lastT (l : List RecT) (j : Nat) : ByteArray := l.foldl (fun t a => if a.1 = (j : Int) then a.2 else t) ⟨#[]⟩
def lastH (l : List RecT) (j : Nat) : Bool := l.foldl (fun b a => if a.1 = (j : Int) then true else b) false
theorem foldl_at {β} (f : RecT → β) {j : Nat} (l : List RecT) (hl : ∀ a ∈ l, 0 ≤ a.1) (T : List β) (v : β) (h : T[j]? = some v) :
    (l.foldl (fun T a => T.set a.1.toNat (f a)) T)[j]? = some (l.foldl (fun t a => if a.1 = (j : Int) then f a else t) v) := by
  induction l generalizing T v with
  | nil => exact h
  | cons a l ih =>
    simp only [List.foldl_cons]
    refine ih (fun b hb => hl b (List.mem_cons_of_mem _ hb)) _ _ ?_
    have ha := hl a (List.mem_cons_self ..)
    have hj := (List.getElem?_eq_some_iff.1 h).1
    rw [List.getElem?_set]
    by_cases e : a.1 = (j : Int)
    · have e2 : a.1.toNat = j := by omega
      rw [if_pos e2, if_pos e, e2, if_pos hj]
    · have e2 : ¬ a.1.toNat = j := by omega
      rw [if_neg e2, if_neg e]; exact h
theorem blkT_at {l : List RecT} (hl : ∀ a ∈ l, 0 ≤ a.1) {j n : Nat} (hj : j < n) : (blkT l n)[j]? = some (lastT l j) :=
  foldl_at (fun a => a.2) l hl _ _ (by rw [List.getElem?_replicate, if_pos hj])
theorem blkH_at {l : List RecT} (hl : ∀ a ∈ l, 0 ≤ a.1) {j n : Nat} (hj : j < n) : (blkH l n)[j]? = some (lastH l j) :=
  foldl_at (fun _ => true) l hl _ _ (by rw [List.getElem?_replicate, if_pos hj])
theorem last_hit {l : List RecT} {k j : Nat} {i : Int} {t : ByteArray} (h : l[k]? = some (i, t)) (e : i = (j : Int)) : lastT (l.take (k + 1)) j = t ∧ lastH (l.take (k + 1)) j = true := by
  unfold lastT lastH
  rw [take_snoc _ _ _ h]; simp [List.foldl_append, e]
theorem last_miss {l : List RecT} {k j : Nat} {i : Int} {t : ByteArray} (h : l[k]? = some (i, t)) (e : ¬ i = (j : Int)) : lastT (l.take (k + 1)) j = lastT (l.take k) j ∧ lastH (l.take (k + 1)) j = lastH (l.take k) j := by
  unfold lastT lastH
  rw [take_snoc _ _ _ h]; simp [List.foldl_append, e]
theorem recB_parts {i : Int} {t : ByteArray} (h : recB (i, t) = true) : 0 ≤ i ∧ i ≤ 15 ∧ t.size ≤ 8 := by
  unfold recB inB at h
  simp only [Bool.and_eq_true, decide_eq_true_eq] at h
  exact ⟨h.1.1, h.1.2, h.2⟩

theorem crashG_small {l : List RecT} {s x : Int} (h : SmallT l) : SmallT (crashG l s x).1 ∧ (crashG l s x).1.length ≤ l.length := by
  unfold crashG
  split
  · exact ⟨fun a ha => h a (List.mem_of_mem_take ha), by simp; omega⟩
  · exact ⟨fun b hb => by simp at hb, by simp⟩
theorem crash_again {l L : List RecT} {s x : Int} {n : Nat} (hG : crashG l s x = (L, n)) (hv : validJ l s = true) (hx : 0 ≤ x) :
    validJ L n = true ∧ (∀ q : Int, 0 ≤ q → crashG L n q = (L, n)) ∧ L = l.take n ∧ 0 ≤ s ∧ s ≤ n ∧ (n : Int) = min (l.length : Int) (s + x) := by
  obtain ⟨h1, h2, h3⟩ := validJ_parts hv
  rw [inB_iff] at h2
  rw [crashG_ok hv hx] at hG
  injection hG with hL hn
  have hnn : (n : Int) = min (l.length : Int) (s + min x 20) := by rw [← hn]; unfold crashN; omega
  have hL2 : L = l.take n := by rw [← hL, hn]
  have hlen : L.length = n := by rw [hL2, List.length_take]; omega
  have hvL : validJ L n = true := validJ_yes (by omega) (by rw [inB_iff]; omega) (fun a ha => h3 a (List.mem_of_mem_take (by rw [← hL2]; exact ha)))
  refine ⟨hvL, fun q hq => ?_, hL2, h2.1, by omega, by omega⟩
  rw [crashG_ok hvL hq]
  have : crashN L n q = n := by unfold crashN; omega
  rw [this, List.take_of_length_le (by omega)]

end Go.Proofs.Ytihjjnmhionibaa
