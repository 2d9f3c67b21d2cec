/- impl.JournalBlocks. -/
import Derived.Test.YtihjjnmhionibaaJ5
namespace Go.Proofs.Ytihjjnmhionibaa
open Go.RowKit

def strs (l : List ByteArray) : List Value := l.map Value.string
theorem strs_length (l : List ByteArray) : (strs l).length = l.length := by simp [strs]
theorem strs_get {l : List ByteArray} {k : Nat} {t : ByteArray} (h : l[k]? = some t) : (strs l)[k]? = some (.string t) := by simp [strs, h]
theorem strs_set (l : List ByteArray) (k : Nat) (t : ByteArray) : (strs l).set k (.string t) = strs (l.set k t) := by unfold strs; rw [List.map_set]
theorem strs_one (l : List ByteArray) : ∀ u ∈ strs l, u.oneCell' = true := by
  intro u hu; simp only [strs, List.mem_map] at hu; rcases hu with ⟨b, -, rfl⟩; rfl
def bools (bs : List Bool) : List Value := bs.map Value.bool
theorem bools_length (bs : List Bool) : (bools bs).length = bs.length := by simp [bools]
theorem bools_get {bs : List Bool} {k : Nat} {b : Bool} (h : bs[k]? = some b) : (bools bs)[k]? = some (.bool b) := by simp [bools, h]
theorem bools_one (bs : List Bool) : ∀ u ∈ bools bs, u.oneCell' = true := by
  intro u hu; simp only [bools, List.mem_map] at hu; rcases hu with ⟨b, -, rfl⟩; rfl
theorem bools_set (l : List Bool) (k : Nat) (b : Bool) : (bools l).set k (.bool b) = bools (l.set k b) := by unfold bools; rw [List.map_set]
theorem info_bool : (Try.prog.info? 4).map (fun i => (i.zero, i.size, i.bytes)) = some (some (.bool false), 1, 1) := by kernel_rfl
theorem info_str : (Try.prog.info? 9).map (fun i => (i.zero, i.size, i.bytes)) = some (some (.string ⟨#[]⟩), 1, 16) := by kernel_rfl

/-- What JournalBlocks is to answer: texts and marks. -/
def blkT (l : List RecT) (n : Nat) : List ByteArray := l.foldl (fun T a => T.set a.1.toNat a.2) (List.replicate n ⟨#[]⟩)
def blkH (l : List RecT) (n : Nat) : List Bool := l.foldl (fun H a => H.set a.1.toNat true) (List.replicate n false)
theorem foldl_length {α β} (f : List β → α → List β) (hf : ∀ T a, (f T a).length = T.length) (l : List α) (T : List β) : (l.foldl f T).length = T.length := by
  induction l generalizing T with
  | nil => rfl
  | cons a l ih => rw [List.foldl_cons, ih, hf]
theorem blkT_length (l : List RecT) (n : Nat) : (blkT l n).length = n := by unfold blkT; rw [foldl_length _ (by simp)]; simp
theorem blkH_length (l : List RecT) (n : Nat) : (blkH l n).length = n := by unfold blkH; rw [foldl_length _ (by simp)]; simp
theorem blkT_snoc (l : List RecT) (n : Nat) {k : Nat} {a : RecT} (h : l[k]? = some a) : blkT (l.take (k + 1)) n = (blkT (l.take k) n).set a.1.toNat a.2 := by
  unfold blkT; rw [take_snoc _ _ _ h, List.foldl_append]; rfl
theorem blkH_snoc (l : List RecT) (n : Nat) {k : Nat} {a : RecT} (h : l[k]? = some a) : blkH (l.take (k + 1)) n = (blkH (l.take k) n).set a.1.toNat true := by
  unfold blkH; rw [take_snoc _ _ _ h, List.foldl_append]; rfl
def blocksG (l : List RecT) (s k : Int) : List ByteArray × List Bool := if (validJ l s && inB k 0 16) = true then (blkT l k.toNat, blkH l k.toNat) else ([], [])
theorem blocksG_bad {l : List RecT} {s k : Int} (h : (validJ l s && inB k 0 16) = false) : blocksG l s k = ([], []) := by unfold blocksG; rw [h]; rfl
theorem blocksG_ok {l : List RecT} {s : Int} {n : Nat} (h : validJ l s = true) (h2 : inB n 0 16 = true) : blocksG l s n = (blkT l n, blkH l n) := by unfold blocksG; rw [h, h2]; rfl

/-- Two rows in new memory, apart. -/
def RetTB (w : World) (T : List ByteArray) (H : List Bool) (e : Ending) (w' : World) : Prop :=
  ∃ A c B d l1 h1 l2 h2, e = .returned (.tuple #[.slice A T.length c, .slice B H.length d]) ∧ Own w' l1 h1 9 1 A c T.length (strs T) ∧ Own w' l2 h2 4 1 B d H.length (bools H) ∧
    (h1 ≤ l2 ∨ h2 ≤ l1) ∧ w.heap.size ≤ l1 ∧ w.heap.size ≤ l2 ∧ h1 ≤ w'.heap.size ∧ h2 ≤ w'.heap.size ∧ Below w.heap.size w w'
theorem retTB_nil (w w' : World) (hb : Below w.heap.size w w') : RetTB w [] [] (.returned (.tuple #[.slice none 0 0, .slice none 0 0])) w' :=
  ⟨none, 0, none, 0, _, _, _, _, rfl, own_nil w' w.heap.size w.heap.size _ _, own_nil w' w.heap.size w.heap.size _ _, .inl (Nat.le_refl _), Nat.le_refl _, Nat.le_refl _, hb.size, hb.size, hb⟩
theorem retTB_blk {w w' : World} {T : List ByteArray} {H : List Bool} {n gT gH : Nat} (hb : Below w.heap.size w w') (hT : Blk w' gT 9 (strs T)) (hH : Blk w' gH 4 (bools H)) (hne : gT ≠ gH)
    (h1 : w.heap.size ≤ gT) (h2 : w.heap.size ≤ gH) (hlT : T.length = n) (hlH : H.length = n) (hn : n ≤ 1048576) : RetTB w T H (.returned (.tuple #[.slice (some ⟨gT, 0, none⟩) n n, .slice (some ⟨gH, 0, none⟩) n n])) w' := by
  have q1 := hT.lt
  have q2 := hH.lt
  have o1 : Own w' gT (gT + 1) 9 1 (some ⟨gT, 0, none⟩) n T.length (strs T) := ⟨by rw [hlT]; exact hT.own (Nat.le_refl _) (by rw [strs_length]; exact hlT) (by simp only [maxLen]; omega), fun ad h => by injection h with h; subst h; simp⟩
  have o2 : Own w' gH (gH + 1) 4 1 (some ⟨gH, 0, none⟩) n H.length (bools H) := ⟨by rw [hlH]; exact hH.own (Nat.le_refl _) (by rw [bools_length]; exact hlH) (by simp only [maxLen]; omega), fun ad h => by injection h with h; subst h; simp⟩
  exact ⟨_, _, _, _, _, _, _, _, by rw [hlT, hlH], o1, o2, by omega, h1, h2, by omega, by omega, hb⟩

theorem blk_rep (w : World) (t : TypeId) (n : Nat) (v : Value) : Blk (w.alloc (.cells (Array.replicate n v) t)) w.heap.size t (List.replicate n v) := by
  have h := Blk.new w t (List.replicate n v)
  rwa [List.toArray_replicate] at h
theorem blk_two (w : World) (t1 t2 : TypeId) (n : Nat) (u v : Value) :
    Blk (((w.alloc (.cells (Array.replicate n u) t1)).alloc (.cells (Array.replicate n v) t2)).drew) w.heap.size t1 (List.replicate n u) ∧
    Blk (((w.alloc (.cells (Array.replicate n u) t1)).alloc (.cells (Array.replicate n v) t2)).drew) (w.heap.size + 1) t2 (List.replicate n v) ∧
    Below w.heap.size w (((w.alloc (.cells (Array.replicate n u) t1)).alloc (.cells (Array.replicate n v) t2)).drew) := by
  have h9 := blk_rep (w.alloc (.cells (Array.replicate n u) t1)) t2 n v
  rw [show (w.alloc (.cells (Array.replicate n u) t1)).heap.size = w.heap.size + 1 by simp] at h9
  have h8 := (blk_rep w t1 n u).below ((Below.refl _ _).alloc (Nat.le_refl _) (.cells (Array.replicate n v) t2)) (by simp)
  exact ⟨h8, h9, (((Below.refl w.heap.size w).alloc (Nat.le_refl _) _).alloc (by simp) _).drew⟩
theorem blk_set_ne {w : World} {g g' : Nat} {t : TypeId} {xs : List Value} (h : Blk w g t xs) (hg : g ≠ g') (i : Nat) (u : Value) : Blk (w.setCell ⟨g', i, none⟩ u) g t xs :=
  (Below.heap_setCell _ _ _ _ hg).trans h
theorem blk_alloc {w : World} {g : Nat} {t : TypeId} {xs : List Value} (h : Blk w g t xs) (o : Obj) : Blk (w.alloc o) g t xs := h.below ((Below.refl _ _).alloc (Nat.le_refl _) o) h.lt
theorem strs_zero (l : List RecT) (n : Nat) : strs (blkT (l.take 0) n) = List.replicate n (.string ⟨#[]⟩) := by simp [blkT, strs]
theorem bools_zero (l : List RecT) (n : Nat) : bools (blkH (l.take 0) n) = List.replicate n (.bool false) := by simp [blkH, bools]

set_option maxHeartbeats 2000000 in
theorem implBlocks_any (A : Option Addr) (c : Nat) (l : List RecT) (s k : Int) (w : World) (hr : Cells w A (recs l)) (hs : SmallR l) :
    Calls Try.prog 33 #[jv A l.length c s, .int .i64 k] w (RetTB w (blocksG l s k).1 (blocksG l s k).2) := by
  have hm : l.length ≤ 1048576 := hs.1
  have b0 : Below w.heap.size w (w.alloc (.cells #[.slice A l.length c, .int .i64 s] 29)) := (Below.refl _ _).alloc (Nat.le_refl _) _
  have q0 : Hid (Blk (w.alloc (.cells #[.slice A l.length c, .int .i64 s] 29)) w.heap.size 29 (JB A l.length c s)) := Blk.new w 29 (JB A l.length c s)
  have hr0 := hid (hr.below b0)
  have hV := hid (fun W h => implJValid_any A c l s W h hs)
  clear hr
  cases hv : validJ l s
  · rw [blocksG_bad (l := l) (s := s) (k := k) (by rw [hv]; rfl)]
    rw [hv] at hV
    clear hv
    obtain ⟨c0, c1, -, -⟩ := q0.out.two
    go_enter Try.func33, Try.ntmps33
    go_wp2_with fail
    refine (hV.out _ hr0.out).mono ?_; rintro e w1 ⟨rfl, b1⟩
    have t1 := below_step b0 b1
    go_wp2_with fail
    refine bodyPost_ret (v := .tuple #[.slice none 0 0, .slice none 0 0]) (by simp [results, Try.results33, go_sem]) rfl ?_
    exact retTB_nil _ _ t1
  · rw [hv] at hV
    have hI := hid (fun W => within_any k 0 16 W)
    cases hi : inB k 0 16
    · rw [blocksG_bad (l := l) (s := s) (k := k) (by rw [hi]; simp)]
      rw [hi] at hI
      clear hv hi
      obtain ⟨c0, c1, -, -⟩ := q0.out.two
      go_enter Try.func33, Try.ntmps33
      go_wp2_with fail
      refine (hV.out _ hr0.out).mono ?_; rintro e w1 ⟨rfl, b1⟩
      have t1 := below_step b0 b1
      go_wp2_with fail
      refine (hI.out _).mono ?_; rintro e w2 ⟨rfl, rfl⟩
      go_wp2_with fail
      refine bodyPost_ret (v := .tuple #[.slice none 0 0, .slice none 0 0]) (by simp [results, Try.results33, go_sem]) rfl ?_
      exact retTB_nil _ _ t1
    · have hi2 := (inB_iff k 0 16).1 hi
      obtain ⟨n, rfl⟩ : ∃ n : Nat, k = (n : Int) := ⟨k.toNat, by omega⟩
      have hn : n ≤ 16 := by omega
      rw [blocksG_ok hv hi]
      obtain ⟨hle, -, hrec⟩ := validJ_parts hv
      have Hrec := hid hrec
      rw [hi] at hI
      clear hv hi hi2 hrec
      obtain ⟨c0, c1, -, -⟩ := q0.out.two
      have hmT := fun W => run_make_ints (P := Try.prog) 47 9 Try.underlying47 info_str rfl n (by omega) (by omega) W
      have hmH := fun W => run_make_ints (P := Try.prog) 48 4 Try.underlying48 info_bool rfl n (by omega) (by omega) W
      go_enter Try.func33, Try.ntmps33
      go_wp2_with fail
      refine (hV.out _ hr0.out).mono ?_; rintro e w1 ⟨rfl, b1⟩
      have t1 := below_step b0 b1
      have d0 := cell_later b1 c0
      have hr1 := hid (hr0.out.below b1)
      clear c0 c1
      go_wp2_with fail
      refine (hI.out _).mono ?_; rintro e w2 ⟨rfl, rfl⟩
      go_wp2_with fail
      go_cut [6, 7] from 18 (fun s6 s7 wx => ∃ gT gH, s6 = .slice (some ⟨gT, 0, none⟩) n n ∧ s7 = .slice (some ⟨gH, 0, none⟩) n n ∧ Blk wx gT 9 (strs (blkT (l.take 0) n)) ∧ Blk wx gH 4 (bools (blkH (l.take 0) n)) ∧ gT ≠ gH ∧ w1.heap.size ≤ gT ∧ w1.heap.size ≤ gH ∧ Below w1.heap.size w1 wx)
      case first =>
        go_region
        all_goals
          go_wp2_with fail
          go_meet
          rw [strs_zero, bools_zero]
          first
          | (obtain ⟨q1, q2, q3⟩ := blk_two w1 9 4 n (.string ⟨#[]⟩) (.bool false); exact ⟨w1.heap.size, w1.heap.size + 1, rfl, rfl, q1, q2, by omega, Nat.le_refl _, by omega, q3⟩)
          | (obtain ⟨q1, q2, q3⟩ := blk_two w1 4 9 n (.bool false) (.string ⟨#[]⟩); exact ⟨w1.heap.size + 1, w1.heap.size, rfl, rfl, q2, q1, by omega, by omega, Nat.le_refl _, q3⟩)
      case rest =>
      obtain ⟨gT, gH, rfl, rfl, hT, hH, hne, h1, h2, bc⟩ := hcut
      have tc := below_step t1 bc
      have e0 := cell_later bc d0
      have hrc := hid (hr1.out.below bc)
      have HT := hid hT
      have HH := hid hH
      have s1 := b1.size
      have s2 : w1.heap.size ≤ wc.heap.size := bc.size
      have k1 : gT < wc.heap.size := hT.lt
      have k2 : gH < wc.heap.size := hH.lt
      clear hT hH hmT hmH d0
      go_wp2_with fail
      go_loopw [25] (fun i wr => ∃ k : Nat, k ≤ l.length ∧ i = .int .i64 k ∧ Hid (Blk wr gT 9 (strs (blkT (l.take k) n))) ∧ Hid (Blk wr gH 4 (bools (blkH (l.take k) n))) ∧ Below w1.heap.size wc wr) (fun i _ => l.length - (intOf i).toNat)
      case atStart => exact ⟨0, Nat.zero_le _, rfl, HT, HH, Below.refl _ _⟩
      case round =>
        obtain ⟨k, hk, rfl, hT, hH, hbel⟩ := hrel
        by_cases hlt : k < l.length
        · obtain ⟨b, off, i, t, rfl, hz, hc, hc1⟩ := (hr1.out.below (bc.trans hbel)).rec_at hlt
          have hv := Hrec.out _ (List.mem_of_getElem? hz.out)
          unfold recB at hv
          rw [Bool.and_eq_true, inB_iff] at hv
          obtain ⟨j, rfl⟩ : ∃ j : Nat, i = (j : Int) := ⟨i.toNat, by have := hv.1; omega⟩
          have nT := hid (blkT_snoc l n hz.out)
          have nH := hid (blkH_snoc l n hz.out)
          have w1s := hbel.size
          have bq : Below w1.heap.size wc (wr.alloc (.cells #[.int .i64 j, .string t] 35)) := hbel.alloc (by omega) _
          have hTq := hid (hT.out.below ((Below.refl _ _).alloc (Nat.le_refl _) (.cells #[.int .i64 j, .string t] 35)) hT.out.lt)
          have hHq := hid (hH.out.below ((Below.refl _ _).alloc (Nat.le_refl _) (.cells #[.int .i64 j, .string t] 35)) hH.out.lt)
          have lT := hT.out.lt
          have lH := hH.out.lt
          clear hv
          by_cases hj : j < n
          · have hj2 : ((j : Int) < (n : Int)) := by omega
            have x1 := hT.out.cell j
            have x2 := hH.out.cell j
            have x3 := hT.out.free j
            have x4 := hH.out.free j
            rw [strs_get (List.getElem?_eq_getElem (by rw [blkT_length]; exact hj))] at x1
            rw [bools_get (List.getElem?_eq_getElem (by rw [blkH_length]; exact hj))] at x2
            go_wp2_with fail
            go_region
            go_wp2_with fail
            go_roundw
            case rel =>
              refine ⟨k + 1, by omega, by go_num, ?_, ?_, ?_⟩
              rotate_left 2
              · exact (((hbel.setCell (show w1.heap.size ≤ (Addr.mk gT j none).block from h1) (.string t)).setCell (show w1.heap.size ≤ (Addr.mk gH j none).block from h2) (.bool true)).alloc (by simp [World.setCell]; omega) _).drew
              · rw [nT.out, ← strs_set]
                exact blk_alloc (blk_set_ne (hT.out.set j _) hne j _) _
              · rw [nH.out, ← bools_set]
                exact blk_alloc ((blk_set_ne hH.out (Ne.symm hne) j _).set j _) _
            case measure => simp [intOf]; omega
          · have hj2 : ¬ ((j : Int) < (n : Int)) := by omega
            go_wp2_with fail
            go_roundw
            case rel => exact ⟨k + 1, by omega, by go_num, (by rw [nT.out, List.set_eq_of_length_le (by rw [blkT_length]; simp; omega)]; exact hTq), (by rw [nH.out, List.set_eq_of_length_le (by rw [blkH_length]; simp; omega)]; exact hHq), bq⟩
            case measure => simp [intOf]; omega
        · have hfinT := hid (show blkT (l.take k) n = blkT l n by rw [List.take_of_length_le (by omega)])
          have hfinH := hid (show blkH (l.take k) n = blkH l n by rw [List.take_of_length_le (by omega)])
          go_wp2_with fail
          rw [hfinT.out] at hT
          rw [hfinH.out] at hH
          refine bodyPost_ret (v := .tuple #[.slice (some ⟨gT, 0, none⟩) n n, .slice (some ⟨gH, 0, none⟩) n n]) (by simp [results, Try.results33, go_sem]) rfl ?_
          exact retTB_blk (t1.trans ((bc.trans hbel).mono t1.size)) hT.out hH.out hne (by have := t1.size; omega) (by have := t1.size; omega) (blkT_length _ _) (blkH_length _ _) (by omega)

end Go.Proofs.Ytihjjnmhionibaa
