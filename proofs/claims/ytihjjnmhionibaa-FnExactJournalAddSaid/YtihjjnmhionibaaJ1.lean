/- Records in memory: two cells each; what is valid. -/
import Derived.Test.YtihjjnmhionibaaC1
import Derived.Test.YtihjjnmhionibaaBase2
import Derived.Test.YtihjjnmhionibaaAfter
import Derived.Deep.RegionHeld3
namespace Go.Proofs.Ytihjjnmhionibaa
open Go.RowKit

abbrev RecT := Int × ByteArray
def recs (l : List RecT) : List Value := l.flatMap fun a => [.int .i64 a.1, .string a.2]
theorem recs_cons (a : RecT) (l : List RecT) : recs (a :: l) = .int .i64 a.1 :: .string a.2 :: recs l := rfl
theorem recs_length (l : List RecT) : (recs l).length = l.length * 2 := by
  induction l with
  | nil => rfl
  | cons a l ih => rw [recs_cons]; simp [ih]; omega
theorem recs_app (l m : List RecT) : recs (l ++ m) = recs l ++ recs m := by unfold recs; rw [List.flatMap_append]
theorem recs_get {l : List RecT} {k : Nat} {a : RecT} (h : l[k]? = some a) : (recs l)[k * 2]? = some (.int .i64 a.1) ∧ (recs l)[k * 2 + 1]? = some (.string a.2) := by
  induction l generalizing k with
  | nil => simp at h
  | cons b l ih =>
    rcases k with _ | k
    · simp at h; subst h; simp [recs_cons]
    · simp at h
      rw [recs_cons, show (k + 1) * 2 = k * 2 + 1 + 1 by omega]
      simpa using ih h
theorem recs_one (l : List RecT) : ∀ u ∈ recs l, u.oneCell' = true := by
  intro u hu
  unfold recs at hu
  simp only [List.mem_flatMap] at hu
  obtain ⟨a, _, h⟩ := hu
  simp at h
  rcases h with rfl | rfl <;> rfl
theorem recs_take (l : List RecT) (k : Nat) : (recs l).take (k * 2) = recs (l.take k) := by
  induction l generalizing k with
  | nil => simp [recs]
  | cons a l ih =>
    rcases k with _ | k
    · simp [recs]
    · rw [recs_cons, show (k + 1) * 2 = k * 2 + 1 + 1 by omega]; simp [recs_cons, ih]
theorem recs_set (l : List RecT) (k : Nat) (a : RecT) : ((recs l).set (k * 2) (.int .i64 a.1)).set (k * 2 + 1) (.string a.2) = recs (l.set k a) := by
  induction l generalizing k with
  | nil => simp [recs]
  | cons b l ih =>
    rcases k with _ | k
    · simp [recs_cons]
    · rw [recs_cons, show (k + 1) * 2 = k * 2 + 1 + 1 by omega]; simp [recs_cons, ih]
theorem recs_snoc (l : List RecT) (i : Int) (t : ByteArray) : recs l ++ [.int .i64 i, .string t] = recs (l ++ [(i, t)]) := by rw [recs_app]; rfl
theorem Cells.rec_of {w : World} {A : Option Addr} {l : List RecT} (h : Cells w A (recs l)) {k : Nat} {a : RecT} (hz : l[k]? = some a) :
    ∃ b off, A = some ⟨b, off, none⟩ ∧ w.cell? ⟨b, off + k * 2, none⟩ = some (.int .i64 a.1) ∧ w.cell? ⟨b, off + k * 2 + 1, none⟩ = some (.string a.2) := by
  obtain ⟨h0, h1⟩ := recs_get hz
  obtain ⟨b, off, hA, hc⟩ := h.of_get h0
  obtain ⟨b', off', hA', hc'⟩ := h.of_get h1
  rw [hA] at hA'; injection hA' with e; injection e with e1 e2; subst e1; subst e2
  exact ⟨b, off, hA, hc, by rw [Nat.add_assoc]; exact hc'⟩
theorem Cells.rec_at {w : World} {A : Option Addr} {l : List RecT} (h : Cells w A (recs l)) {k : Nat} (hk : k < l.length) :
    ∃ b off, ∃ i : Int, ∃ t : ByteArray, A = some ⟨b, off, none⟩ ∧ Hid (l[k]? = some (i, t)) ∧ w.cell? ⟨b, off + k * 2, none⟩ = some (.int .i64 i) ∧ w.cell? ⟨b, off + k * 2 + 1, none⟩ = some (.string t) := by
  obtain ⟨b, off, hA, h0, h1⟩ := h.rec_of (List.getElem?_eq_getElem hk)
  exact ⟨b, off, l[k].1, l[k].2, hA, hid (List.getElem?_eq_getElem hk), h0, h1⟩
theorem info_rec : (Try.prog.info? 35).map (fun i => (i.zero, i.size, i.bytes)) = some (some (.agg #[.int .i64 0, .string ⟨#[]⟩]), 2, 24) := by kernel_rfl

theorem Blk.two {w : World} {g : Nat} {t : TypeId} {a b : Value} (h : Blk w g t [a, b]) : w.cell? ⟨g, 0, none⟩ = some a ∧ w.cell? ⟨g, 1, none⟩ = some b ∧ w.frozen? ⟨g, 0, none⟩ = false ∧ w.frozen? ⟨g, 1, none⟩ = false :=
  ⟨by have := h.cell 0; simpa using this, by have := h.cell 1; simpa using this, h.free 0, h.free 1⟩
abbrev rv (i : Int) (t : ByteArray) : Value := .agg #[.int .i64 i, .string t]
abbrev jv (A : Option Addr) (n c : Nat) (s : Int) : Value := .agg #[.slice A n c, .int .i64 s]
def recB (a : RecT) : Bool := inB a.1 0 15 && decide (a.2.size ≤ 8)
/-- Texts and a number of bounded length: what every contract here asks. -/
def SmallR (l : List RecT) : Prop := l.length ≤ 1048576 ∧ ∀ a ∈ l, a.2.size ≤ 9223372036854775807

set_option maxHeartbeats 400000 in
theorem l13Record_any (i : Int) (t : ByteArray) (w : World) (ht : t.size ≤ 9223372036854775807) : Calls Try.prog 49 #[rv i t] w (RetB w (recB (i, t))) := by
  have hb : Below w.heap.size w (w.alloc (.cells #[.int .i64 i, .string t] 35)) := (Below.refl _ _).alloc (Nat.le_refl _) _
  have hq := Blk.new w 35 [.int .i64 i, .string t]
  have hq0 := hq.cell 0
  have hq1 := hq.cell 1
  simp only [List.getElem?_cons_zero, List.getElem?_cons_succ] at hq0 hq1
  clear hq
  cases h1 : inB i 0 15
  · have hfin := hid (show recB (i, t) = false by simp [recB, h1])
    go_enter Try.func49, Try.ntmps49
    go_wp2_with (go_at_call 50; refine (l6In_any _ _ _ _).mono ?_; rintro e w' ⟨rfl, rfl⟩)
    go_ret
    exact ⟨ret_bool hfin.out.symm, hb⟩
  · have hfin := hid (show recB (i, t) = decide ((t.size : Int) ≤ 8) by simp [recB, h1]; omega)
    go_enter Try.func49, Try.ntmps49
    go_wp2_with (go_at_call 50; refine (l6In_any _ _ _ _).mono ?_; rintro e w' ⟨rfl, rfl⟩)
    go_ret
    exact ⟨ret_bool hfin.out.symm, hb⟩
set_option maxHeartbeats 400000 in
theorem recordValid_any (i : Int) (t : ByteArray) (w : World) (ht : t.size ≤ 9223372036854775807) : Calls Try.prog 53 #[rv i t] w (RetB w (recB (i, t))) := by
  have hb : Below w.heap.size w (w.alloc (.cells #[.int .i64 i, .string t] 35)) := (Below.refl _ _).alloc (Nat.le_refl _) _
  have hq := Blk.new w 35 [.int .i64 i, .string t]
  have hq0 := hq.cell 0
  have hq1 := hq.cell 1
  simp only [List.getElem?_cons_zero, List.getElem?_cons_succ] at hq0 hq1
  clear hq
  cases h1 : inB i 0 15
  · have hfin := hid (show recB (i, t) = false by simp [recB, h1])
    go_enter Try.func53, Try.ntmps53
    go_wp2_with (go_at_call 52; refine (within_any _ _ _ _).mono ?_; rintro e w' ⟨rfl, rfl⟩)
    go_ret
    exact ⟨ret_bool hfin.out.symm, hb⟩
  · have hfin := hid (show recB (i, t) = decide ((t.size : Int) ≤ 8) by simp [recB, h1]; omega)
    go_enter Try.func53, Try.ntmps53
    go_wp2_with (go_at_call 52; refine (within_any _ _ _ _).mono ?_; rintro e w' ⟨rfl, rfl⟩)
    go_ret
    exact ⟨ret_bool hfin.out.symm, hb⟩

def validJ (l : List RecT) (s : Int) : Bool := decide (l.length ≤ 20) && inB s 0 l.length && l.all recB
theorem validJ_long {l : List RecT} {s : Int} (h : 20 < l.length) : validJ l s = false := by unfold validJ; rw [decide_eq_false (by omega)]; rfl
theorem validJ_sync {l : List RecT} {s : Int} (h : inB s 0 l.length = false) : validJ l s = false := by unfold validJ; rw [h]; simp
theorem validJ_rec {l : List RecT} {s : Int} {k : Nat} {a : RecT} (hz : l[k]? = some a) (h : recB a = false) : validJ l s = false := by unfold validJ; rw [all_stop _ _ _ _ hz h]; simp
theorem validJ_yes {l : List RecT} {s : Int} (h1 : l.length ≤ 20) (h2 : inB s 0 l.length = true) (h3 : ∀ a ∈ l, recB a = true) : validJ l s = true := by
  unfold validJ; rw [decide_eq_true h1, h2]; simpa [List.all_eq_true] using h3
theorem validJ_parts {l : List RecT} {s : Int} (h : validJ l s = true) : l.length ≤ 20 ∧ inB s 0 l.length = true ∧ ∀ a ∈ l, recB a = true := by
  unfold validJ at h
  simp only [Bool.and_eq_true, decide_eq_true_eq, List.all_eq_true] at h
  exact ⟨h.1.1, h.1.2, h.2⟩
theorem recs_more {l : List RecT} {k : Nat} {a : RecT} (hz : l[k]? = some a) (h : ∀ r ∈ l.take k, recB r = true) (hn : recB a = true) : ∀ r ∈ l.take (k + 1), recB r = true := by
  rw [take_snoc _ _ _ hz]
  intro y hy
  rcases List.mem_append.1 hy with h1 | h1
  · exact h y h1
  · simp at h1; subst h1; exact hn

set_option maxHeartbeats 1000000 in
theorem specJValid_any (A : Option Addr) (c : Nat) (l : List RecT) (s : Int) (w : World) (hr : Cells w A (recs l)) (hs : SmallR l) :
    Calls Try.prog 19 #[jv A l.length c s] w (RetB w (validJ l s)) := by
  have hm : l.length ≤ 1048576 := hs.1
  have Hl := hid hs.2
  have hb : Below w.heap.size w (w.alloc (.cells #[.slice A l.length c, .int .i64 s] 29)) := (Below.refl _ _).alloc (Nat.le_refl _) _
  have hr0 := hr.below hb
  have hq := Blk.new w 29 [.slice A l.length c, .int .i64 s]
  have hq0 := hq.cell 0
  have hq1 := hq.cell 1
  simp only [List.getElem?_cons_zero, List.getElem?_cons_succ] at hq0 hq1
  clear hq hs
  go_enter Try.func19, Try.ntmps19
  go_wp2
  generalize w.alloc (.cells #[.slice A l.length c, .int .i64 s] 29) = W0 at hb hr0 hq0 hq1 ⊢
  go_loopw [3] (fun i wr => ∃ k : Nat, k ≤ l.length ∧ i = .int .i64 k ∧ Hid (∀ a ∈ l.take k, recB a = true) ∧ Below W0.heap.size W0 wr) (fun i _ => l.length - (intOf i).toNat)
  case atStart => exact ⟨0, Nat.zero_le _, rfl, by simp [Hid], Below.refl _ _⟩
  case round =>
    obtain ⟨k, hk, rfl, hall, hbel⟩ := hrel
    have g0 := cell_later hbel hq0
    have g1 := cell_later hbel hq1
    by_cases hlt : k < l.length
    · obtain ⟨b, off, i, t, rfl, hz, hc, hc1⟩ := (hr0.below hbel).rec_at hlt
      have hR := hid (l13Record_any i t wr (Hl.out _ (List.mem_of_getElem? hz.out)))
      cases hrb : recB (i, t)
      · have hfin := hid (validJ_rec (s := s) hz.out hrb)
        rw [hrb] at hR
        clear hrb
        go_wp2_with (go_at_call 49; refine hR.out.mono ?_; rintro e w2 ⟨rfl, b2⟩)
        go_ret
        exact ⟨ret_bool hfin.out.symm, below_step hb (below_step hbel b2)⟩
      · have hn := hid (recs_more hz.out hall.out hrb)
        rw [hrb] at hR
        clear hrb
        go_wp2_with (go_at_call 49; refine hR.out.mono ?_; rintro e w2 ⟨rfl, b2⟩)
        go_roundw
        case rel => exact ⟨k + 1, by omega, by go_num, hn, below_step hbel b2⟩
        case measure => simp [intOf]; omega
    · have hall2 : Hid (∀ a ∈ l, recB a = true) := fun a ha => hall.out a (by rw [List.take_of_length_le (by omega)]; exact ha)
      by_cases h20 : l.length ≤ 20
      · have hI := hid (l6In_any s 0 l.length wr)
        cases hi : inB s 0 l.length
        · have hfin := hid (validJ_sync hi)
          rw [hi] at hI
          clear hi
          go_wp2_with (go_at_call 50; refine hI.out.mono ?_; rintro e w' ⟨rfl, rfl⟩)
          go_ret
          exact ⟨ret_bool hfin.out.symm, below_step hb hbel⟩
        · have hfin := hid (validJ_yes h20 hi hall2.out)
          rw [hi] at hI
          clear hi
          go_wp2_with (go_at_call 50; refine hI.out.mono ?_; rintro e w' ⟨rfl, rfl⟩)
          go_ret
          exact ⟨ret_bool hfin.out.symm, below_step hb hbel⟩
      · have hfin := hid (validJ_long (s := s) (l := l) (by omega))
        go_wp2
        go_ret
        exact ⟨ret_bool hfin.out.symm, below_step hb hbel⟩

set_option maxHeartbeats 1000000 in
theorem implJValid_any (A : Option Addr) (c : Nat) (l : List RecT) (s : Int) (w : World) (hr : Cells w A (recs l)) (hs : SmallR l) :
    Calls Try.prog 21 #[jv A l.length c s] w (RetB w (validJ l s)) := by
  have hm : l.length ≤ 1048576 := hs.1
  have Hl := hid hs.2
  have hb : Below w.heap.size w (w.alloc (.cells #[.slice A l.length c, .int .i64 s] 29)) := (Below.refl _ _).alloc (Nat.le_refl _) _
  have hr0 := hr.below hb
  have hq := Blk.new w 29 [.slice A l.length c, .int .i64 s]
  have hq0 := hq.cell 0
  have hq1 := hq.cell 1
  simp only [List.getElem?_cons_zero, List.getElem?_cons_succ] at hq0 hq1
  clear hq hs
  by_cases h20 : 20 < l.length
  · have hfin := hid (validJ_long (s := s) h20)
    go_enter Try.func21, Try.ntmps21
    go_wp2
    go_ret
    exact ⟨ret_bool hfin.out.symm, hb⟩
  · have hI := hid (fun W => within_any s 0 l.length W)
    cases hi : inB s 0 l.length
    · have hfin := hid (validJ_sync hi)
      rw [hi] at hI
      clear hi
      go_enter Try.func21, Try.ntmps21
      go_wp2_with (go_at_call 52; refine (hI.out _).mono ?_; rintro e w' ⟨rfl, rfl⟩)
      go_ret
      exact ⟨ret_bool hfin.out.symm, hb⟩
    · have hval := hid (fun h => validJ_yes (l := l) (s := s) (by omega) hi h)
      rw [hi] at hI
      clear hi
      go_enter Try.func21, Try.ntmps21
      go_wp2_with (go_at_call 52; refine (hI.out _).mono ?_; rintro e w' ⟨rfl, rfl⟩)
      generalize w.alloc (.cells #[.slice A l.length c, .int .i64 s] 29) = W0 at hb hr0 hq0 hq1 ⊢
      go_loopw [21] (fun i wr => ∃ k : Nat, k ≤ l.length ∧ i = .int .i64 k ∧ Hid (∀ a ∈ l.take k, recB a = true) ∧ Below W0.heap.size W0 wr) (fun i _ => l.length - (intOf i).toNat)
      case atStart => exact ⟨0, Nat.zero_le _, rfl, by simp [Hid], Below.refl _ _⟩
      case round =>
        obtain ⟨k, hk, rfl, hall, hbel⟩ := hrel
        by_cases hlt : k < l.length
        · obtain ⟨b, off, i, t, rfl, hz, hc, hc1⟩ := (hr0.below hbel).rec_at hlt
          have hb3 : Below W0.heap.size W0 (wr.alloc (.cells #[.int .i64 i, .string t] 35)) := hbel.alloc hbel.size _
          have hR := hid (fun W => recordValid_any i t W (Hl.out _ (List.mem_of_getElem? hz.out)))
          cases hrb : recB (i, t)
          · have hfin := hid (validJ_rec (s := s) hz.out hrb)
            rw [hrb] at hR
            clear hrb
            go_wp2_with (go_at_call 53; refine (hR.out _).mono ?_; rintro e w2 ⟨rfl, b2⟩)
            go_ret
            exact ⟨ret_bool hfin.out.symm, below_step hb (below_step hb3 b2)⟩
          · have hn := hid (recs_more hz.out hall.out hrb)
            rw [hrb] at hR
            clear hrb
            go_wp2_with (go_at_call 53; refine (hR.out _).mono ?_; rintro e w2 ⟨rfl, b2⟩)
            go_roundw
            case rel => exact ⟨k + 1, by omega, by go_num, hn, below_step hb3 b2⟩
            case measure => simp [intOf]; omega
        · have hfin := hid (hval.out fun a ha => hall.out a (by rw [List.take_of_length_le (by omega)]; exact ha))
          go_wp2
          go_ret
          exact ⟨ret_bool hfin.out.symm, below_step hb hbel⟩

end Go.Proofs.Ytihjjnmhionibaa
