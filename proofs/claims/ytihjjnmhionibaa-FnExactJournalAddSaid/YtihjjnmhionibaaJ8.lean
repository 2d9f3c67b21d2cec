/- The laws' helpers on records: sizes, copies, comparisons. -/
import Derived.Test.YtihjjnmhionibaaJ7
namespace Go.Proofs.Ytihjjnmhionibaa
open Go.RowKit

/-- Records and texts of bounded length. -/
def FitR (l : List RecT) : Prop := l.length ≤ 1048576 ∧ ∀ a ∈ l, a.2.size ≤ 1048576
theorem FitR.small {l : List RecT} (h : FitR l) : SmallR l := ⟨h.1, fun a ha => by have := h.2 a ha; omega⟩

set_option maxHeartbeats 400000 in
theorem szRecord_any (i : Int) (t : ByteArray) (k : Int) (w : World) (ht : (t.size : Int) ≤ k) (hk : k ≤ 1048576) :
    Calls Try.prog 40 #[rv i t, .int .i64 k] w fun e w' => e = .returned (.int .i64 (k - t.size)) ∧ Below w.heap.size w w' := by
  go_enter Try.func40, Try.ntmps40
  go_wp2
  go_ret
  exact ⟨rfl, (Below.refl _ _).alloc (Nat.le_refl _) _⟩
set_option maxHeartbeats 400000 in
theorem szRecord_over (i : Int) (t : ByteArray) (k : Int) (w : World) (hn : t.size ≤ 9223372036854775807) (hk0 : 0 ≤ k) (hk : k < t.size) :
    Calls Try.prog 40 #[rv i t, .int .i64 k] w fun e w' => e = .returned (.int .i64 (-1)) ∧ Below w.heap.size w w' := by
  go_enter Try.func40, Try.ntmps40
  go_wp2
  go_ret
  exact ⟨rfl, (Below.refl _ _).alloc (Nat.le_refl _) _⟩
/-- Too much, or a number left and records of bounded length. -/
def SzRec (l : List RecT) (w : World) (e : Ending) (w' : World) : Prop := ∃ v : Int, e = .returned (.int .i64 v) ∧ (v < 0 ∨ (0 ≤ v ∧ v ≤ 1048576 ∧ FitR l)) ∧ Below w.heap.size w w'
theorem fit_snoc {l : List RecT} {k : Nat} {a : RecT} (hz : l[k]? = some a) (h : ∀ r ∈ l.take k, r.2.size ≤ 1048576) (hn : a.2.size ≤ 1048576) : ∀ r ∈ l.take (k + 1), r.2.size ≤ 1048576 := by
  rw [take_snoc _ _ _ hz]
  intro y hy
  rcases List.mem_append.1 hy with h1 | h1
  · exact h y h1
  · simp at h1; subst h1; exact hn
set_option maxHeartbeats 400000 in
theorem szRecordS_any (A : Option Addr) (c : Nat) (l : List RecT) (w : World) (hr : Cells w A (recs l)) (hm : l.length ≤ 9223372036854775807) (hl : ∀ a ∈ l, a.2.size ≤ 9223372036854775807) :
    Calls Try.prog 48 #[.slice A l.length c, .int .i64 1048576] w (SzRec l w) := by
  have Hl := hid hl
  clear hl
  by_cases h20 : 1048576 < l.length
  · go_enter Try.func48, Try.ntmps48
    go_wp2
    go_ret
    exact ⟨-1, rfl, .inl (by omega), Below.refl _ _⟩
  · go_enter Try.func48, Try.ntmps48
    go_wp2
    go_loopw [1, 5] (fun v i wr => ∃ (k : Nat) (q : Int), k ≤ l.length ∧ i = .int .i64 k ∧ v = .int .i64 q ∧ 0 ≤ q ∧ q ≤ 1048576 ∧ Hid (∀ r ∈ l.take k, r.2.size ≤ 1048576) ∧ Below w.heap.size w wr) (fun _ i _ => l.length - (intOf i).toNat)
    case atStart => exact ⟨0, _, Nat.zero_le _, rfl, rfl, by omega, by omega, by simp [Hid], Below.refl _ _⟩
    case round =>
      obtain ⟨k, q, hk, rfl, rfl, hq0, hq1, hall, hbel⟩ := hrel
      by_cases hlt : k < l.length
      · obtain ⟨b, off, i, t, rfl, hz, hc, hc1⟩ := (hr.below hbel).rec_at hlt
        have hb := Hl.out _ (List.mem_of_getElem? hz.out)
        by_cases hq : (t.size : Int) ≤ q
        · have hn := hid (fit_snoc hz.out hall.out (by simp only; omega))
          go_wp2_with (go_at_call 40; refine (szRecord_any _ _ _ _ hq hq1).mono ?_; rintro e w' ⟨rfl, b2⟩)
          go_roundw
          case rel => exact ⟨k + 1, _, by omega, by go_num, rfl, by omega, by omega, hn, below_step hbel b2⟩
          case measure => simp [intOf]; omega
        · go_wp2_with (go_at_call 40; refine (szRecord_over _ _ _ _ hb hq0 (by omega)).mono ?_; rintro e w' ⟨rfl, b2⟩)
          go_ret
          exact ⟨-1, rfl, .inl (by omega), below_step hbel b2⟩
      · have hs := hid (show FitR l from ⟨by omega, fun a ha => hall.out a (by rw [List.take_of_length_le (by omega)]; exact ha)⟩)
        go_wp2
        go_ret
        exact ⟨q, rfl, .inr ⟨hq0, hq1, hs.out⟩, hbel⟩
set_option maxHeartbeats 400000 in
theorem szJournal_any (A : Option Addr) (c : Nat) (l : List RecT) (s : Int) (w : World) (hr : Cells w A (recs l)) (hm : l.length ≤ 9223372036854775807) (hl : ∀ a ∈ l, a.2.size ≤ 9223372036854775807) :
    Calls Try.prog 18 #[jv A l.length c s, .int .i64 1048576] w (SzRec l w) := by
  have hb := (Below.refl w.heap.size w).alloc (Nat.le_refl _) (.cells #[.slice A l.length c, .int .i64 s] 24)
  have hr1 := hid (hr.below hb)
  have hS := hid (fun W h => szRecordS_any A c l W h hm hl)
  clear hr hm hl
  go_enter Try.func18, Try.ntmps18
  go_wp2_with fail
  refine (hS.out _ hr1.out).mono ?_; rintro e w2 ⟨v, rfl, hv, b2⟩
  by_cases h0 : v < 0
  · go_wp2
    go_ret
    exact ⟨-1, rfl, .inl (by omega), below_step hb b2⟩
  · have hv2 : 0 ≤ v ∧ v ≤ 1048576 ∧ FitR l := by rcases hv with h | h; exact absurd h h0; exact h
    have Hv := hid hv2
    clear hv hv2
    go_wp2
    go_ret
    exact ⟨v, rfl, .inr Hv.out, below_step hb b2⟩

set_option maxHeartbeats 400000 in
theorem toRecord_any (i : Int) (t : ByteArray) (w : World) : Calls Try.prog 41 #[rv i t] w fun e w' => e = .returned (rv i t) ∧ Below w.heap.size w w' := by
  go_enter Try.func41, Try.ntmps41
  go_wp2
  refine bodyPost_ret (v := rv i t) (by simp [results, Try.results41, go_sem]) rfl ⟨rfl, ?_⟩
  exact (((Below.refl _ _).alloc (Nat.le_refl _) _).alloc (by simp) _).alloc (by simp; omega) _

/-- The first k of l are in place, zeros behind. -/
def zrecs (n : Nat) : List Value := recs (List.replicate n (0, ⟨#[]⟩))
def partR (l : List RecT) (k : Nat) : List Value := recs (l.take k ++ List.replicate (l.length - k) (0, ⟨#[]⟩))
theorem partR_zero (l : List RecT) : partR l 0 = zrecs l.length := by simp [partR, zrecs]
theorem partR_all (l : List RecT) : partR l l.length = recs l := by simp [partR]
theorem partR_at (l : List RecT) {k : Nat} (hk : k < l.length) : (partR l k)[k * 2]? = some (.int .i64 0) ∧ (partR l k)[k * 2 + 1]? = some (.string ⟨#[]⟩) := by
  have hl : (l.take k).length = k := by rw [List.length_take, Nat.min_eq_left (by omega)]
  have h : (l.take k ++ List.replicate (l.length - k) ((0 : Int), (⟨#[]⟩ : ByteArray)))[k]? = some (0, ⟨#[]⟩) := by
    rw [List.getElem?_append_right (by omega), hl, Nat.sub_self, List.getElem?_replicate, if_pos (by omega)]
  exact recs_get h
theorem partR_set (l : List RecT) {k : Nat} {i : Int} {t : ByteArray} (hz : l[k]? = some (i, t)) : ((partR l k).set (k * 2) (.int .i64 i)).set (k * 2 + 1) (.string t) = partR l (k + 1) := by
  have hk : k < l.length := (List.getElem?_eq_some_iff.1 hz).1
  have hl : (l.take k).length = k := by rw [List.length_take, Nat.min_eq_left (by omega)]
  unfold partR
  rw [recs_set _ _ (i, t), List.set_append_right _ _ (by omega), hl, Nat.sub_self, take_snoc _ _ _ hz, show l.length - k = (l.length - (k + 1)) + 1 by omega, List.replicate_succ]
  simp
theorem run_make_recs (t e : TypeId) {P : Program} {bytes : Nat} (ht : P.underlying t = some (.slice e)) (hinfo : (P.info? e).map (fun i => (i.zero, i.size, i.bytes)) = some (some (.agg #[.int .i64 0, .string ⟨#[]⟩]), 2, bytes))
    (n : Nat) (hn : n * bytes ≤ 281474976710656) (h63 : n ≤ 9223372036854775807) (W : World) :
    (Instr.makeSlice t (.int .i64 (n : Int)) (.int .i64 (n : Int))).run P W = .ok (.slice (some ⟨W.heap.size, 0, none⟩) n n) (W.alloc (.cells (zrecs n).toArray e)) := by
  obtain ⟨i, hi, hz, hs, hb⟩ := info_parts hinfo
  have hb' : (i.bytes : Int) * (n : Int) ≤ 281474976710656 := by
    have h : ((i.bytes * n : Nat) : Int) ≤ 281474976710656 := by rw [hb, Nat.mul_comm]; omega
    rwa [Int.natCast_mul] at h
  have hr := run_make (P := P) W t e i _ ht hi hz .i64 .i64 n n (by omega) (Int.le_refl _) hb' (by omega)
  simp only [Int.toNat_natCast] at hr
  rw [hr, hs]
  congr 3
  apply Array.ext
  · simp [size_madeCells, zrecs, recs_length]
  · intro k h1 h2
    have hk : k < n * 2 := by simpa [size_madeCells] using h1
    have hg : (List.replicate n ((0 : Int), (⟨#[]⟩ : ByteArray)))[k / 2]? = some (0, ⟨#[]⟩) := by rw [List.getElem?_replicate, if_pos (by omega)]
    obtain ⟨g1, g2⟩ := recs_get hg
    have e1 : (zrecs n)[k]? = some (if k % 2 = 0 then .int .i64 0 else .string ⟨#[]⟩) := by
      rcases Nat.mod_two_eq_zero_or_one k with h | h
      · rw [if_pos h, ← g1]; unfold zrecs; congr 1; omega
      · rw [if_neg (by omega), ← g2]; unfold zrecs; congr 1; omega
    have e2 : (zrecs n)[k]'(by simpa using h2) = (if k % 2 = 0 then .int .i64 0 else .string ⟨#[]⟩) := by
      have := List.getElem?_eq_some_iff.1 e1
      exact this.2
    refine Eq.trans ?_ (Eq.trans e2.symm (List.getElem_toArray h2).symm)
    rcases Nat.mod_two_eq_zero_or_one k with h | h <;> simp [madeCells, Value.cells, h]
theorem Blk.owns {w : World} {g n size : Nat} {t : TypeId} {xs : List Value} (h : Blk w g t xs) {base : Nat} (hb : base ≤ g) (hn : xs.length = n * size) (hm : n ≤ maxLen) : w.ownsRow base t size (.slice (some ⟨g, 0, none⟩) n n) n xs :=
  ⟨by omega, .inr ⟨g, n, xs.toArray, rfl, hb, h, Nat.le_refl _, hm, by simp [hn], by simp [← hn]⟩⟩

set_option maxHeartbeats 400000 in
theorem toRecordS_any (A : Option Addr) (c : Nat) (l : List RecT) (w : World) (hr : Cells w A (recs l)) (hm : l.length ≤ 1048576) :
    Calls Try.prog 51 #[.slice A l.length c] w (RetRecs w l) := by
  have hmk := fun W => run_make_recs (P := Try.prog) 27 35 Try.underlying27 info_rec l.length (by omega) (by omega) W
  go_enter Try.func51, Try.ntmps51
  go_wp2
  go_loopw [4] (fun i wr => ∃ k : Nat, k ≤ l.length ∧ i = .int .i64 k ∧ Below w.heap.size w wr ∧ Blk wr w.heap.size 35 (partR l k)) (fun i _ => l.length - (intOf i).toNat)
  case atStart => exact ⟨0, Nat.zero_le _, rfl, (Below.refl _ _).alloc (Nat.le_refl _) _, by rw [partR_zero]; exact Blk.new _ _ _⟩
  case round =>
    obtain ⟨k, hk, rfl, hbel, hblk⟩ := hrel
    have hr' := hr.below hbel
    by_cases hlt : k < l.length
    · obtain ⟨b, off, i, t, rfl, hz, hc, hc1⟩ := hr'.rec_at hlt
      have hb2 := hid hblk
      clear hblk
      go_wp2_with fail
      refine (toRecord_any _ _ _).mono ?_
      rintro e w1 ⟨rfl, b1⟩
      have hbk := hid (hb2.out.below b1 hb2.out.lt)
      have hcell0 := hbk.out.cell (k * 2)
      have hcell1 := hbk.out.cell (k * 2 + 1)
      rw [(partR_at l hlt).1] at hcell0
      rw [(partR_at l hlt).2] at hcell1
      have hf0 := hbk.out.free (k * 2)
      have hf1 := hbk.out.free (k * 2 + 1)
      have hs := hid (partR_set l hz.out)
      have hb1 := below_step hbel b1
      have hbk2 := hbk
      clear hbk hb2
      go_wp2
      go_roundw
      case rel => exact ⟨k + 1, by omega, by go_num, (hb1.setCell (Nat.le_refl _) _).setCell (Nat.le_refl _) _, by rw [← hs.out]; exact (hbk2.out.set _ _).set _ _⟩
      case measure => simp [intOf]; omega
    · obtain rfl : k = l.length := by omega
      rw [partR_all] at hblk
      have hb2 := hid hblk
      clear hblk hlt
      go_wp2
      go_ret
      exact ⟨_, _, rfl, Own.of_row (Blk.owns hb2.out (Nat.le_refl _) (recs_length l) (by simp only [maxLen]; omega)), hbel⟩

end Go.Proofs.Ytihjjnmhionibaa
