/- Copies, comparisons, sizes and marks of bits. -/
import Derived.Test.YtckbpiapkooamaaR1
import Derived.Test.YtckbpiapkooamaaR2
namespace Go.Proofs.Ytckbpiapkooamaa
open Go.RowKit

/-- The first k of bs are in place, false behind. -/
def partB (bs : Bits) (k : Nat) : List Value := bools (bs.take k) ++ List.replicate (bs.length - k) (.bool false)
theorem partB_zero (bs : Bits) : partB bs 0 = List.replicate bs.length (.bool false) := by simp [partB, bools]
theorem partB_all (bs : Bits) : partB bs bs.length = bools bs := by simp [partB]
theorem partB_at (bs : Bits) {k : Nat} (hk : k < bs.length) : (partB bs k)[k]? = some (.bool false) := by
  have hl : (bools (bs.take k)).length = k := by simp [bools, Nat.min_eq_left (Nat.le_of_lt hk)]
  unfold partB; rw [List.getElem?_append_right (by omega), hl, Nat.sub_self, List.getElem?_replicate, if_pos (by omega)]
theorem partB_set (bs : Bits) {k : Nat} {z : Bool} (hz : bs[k]? = some z) : (partB bs k).set k (.bool z) = partB bs (k + 1) := by
  have hk : k < bs.length := (List.getElem?_eq_some_iff.1 hz).1
  have e : bs.length - k = (bs.length - (k + 1)) + 1 := by omega
  unfold partB
  rw [List.set_append_right _ _ (by simp [bools]; omega), List.take_add_one, hz, e, List.replicate_succ]
  simp [bools, Nat.min_eq_left (Nat.le_of_lt hk)]

def RetBits (w : World) (bs : Bits) (e : Ending) (w' : World) : Prop :=
  ∃ A c, e = .returned (.slice A bs.length c) ∧ Own w' w.heap.size w'.heap.size 4 1 A c bs.length (bools bs) ∧ Below w.heap.size w w'

theorem bool_at {w : World} {A : Option Addr} {bs : Bits} (h : Cells w A (bools bs)) {k : Nat} (hk : k < bs.length) :
    ∃ b off z, A = some ⟨b, off, none⟩ ∧ Hid (bs[k]? = some z) ∧ w.cell? ⟨b, off + k, none⟩ = some (.bool z) := by
  obtain ⟨b, off, hA, hc⟩ := h.bool_of (List.getElem?_eq_getElem hk)
  exact ⟨b, off, bs[k], hA, hid (List.getElem?_eq_getElem hk), hc⟩

set_option maxHeartbeats 400000 in
theorem toBoolS_any (A : Option Addr) (c : Nat) (bs : Bits) (w : World) (hr : Cells w A (bools bs)) (hm : bs.length ≤ 1048576) :
    Calls Try.prog 34 #[.slice A bs.length c] w (RetBits w bs) := by
  have hmk := fun W => run_make_ints (P := Try.prog) 31 4 Try.underlying31 info_bool rfl bs.length (by omega) (by omega) W
  go_enter Try.func34, Try.ntmps34
  go_wp2
  go_loopw [4] (fun i wr => ∃ k : Nat, k ≤ bs.length ∧ i = .int .i64 k ∧ Below w.heap.size w wr ∧ Blk wr w.heap.size 4 (partB bs k)) (fun i _ => bs.length - (intOf i).toNat)
  case atStart => exact ⟨0, Nat.zero_le _, rfl, (Below.refl _ _).alloc (Nat.le_refl _) _, by rw [partB_zero]; exact Blk.new _ _ _⟩
  case round =>
    obtain ⟨k, hk, rfl, hbel, hblk⟩ := hrel
    have hr' := hr.below hbel
    by_cases hlt : k < bs.length
    · obtain ⟨b, off, z, rfl, hz, hc⟩ := bool_at hr' hlt
      have hcell := hblk.cell k
      rw [partB_at bs hlt] at hcell
      have hfr := hblk.free k
      have hb2 := hid hblk
      clear hblk
      go_wp2
      go_roundw
      case rel => exact ⟨k + 1, by omega, by go_num, hbel.setCell (Nat.le_refl _) _, by rw [← partB_set bs hz.out]; exact hb2.out.set _ _⟩
      case measure => simp [intOf]; omega
    · obtain rfl : k = bs.length := by omega
      rw [partB_all] at hblk
      have hb2 := hid hblk
      clear hblk hlt
      go_wp2
      go_ret
      exact ⟨_, _, rfl, Own.of_row (hb2.out.own (Nat.le_refl _) (bools_length bs) (by simp only [maxLen]; omega)), hbel⟩

set_option maxHeartbeats 400000 in
theorem eqBoolS_true (A B : Option Addr) (c d : Nat) (bs : Bits) (w : World) (hA : Cells w A (bools bs)) (hB : Cells w B (bools bs)) (hm : bs.length ≤ 17592186044416) :
    Calls Try.prog 35 #[.slice A bs.length c, .slice B bs.length d] w (RetB w true) := by
  go_enter Try.func35, Try.ntmps35
  go_wp2
  go_loopw [5] (fun i wr => ∃ k : Nat, k ≤ bs.length ∧ i = .int .i64 k ∧ ∃ n, wr = w.drewN n) (fun i _ => bs.length - (intOf i).toNat)
  case atStart => exact ⟨0, Nat.zero_le _, rfl, 0, rfl⟩
  case round =>
    obtain ⟨k, hk, rfl, n, rfl⟩ := hrel
    by_cases hlt : k < bs.length
    · obtain ⟨b, off, z, rfl, hz, hc⟩ := bool_at hA hlt
      obtain ⟨b2, off2, rfl, hc2⟩ := hB.bool_of hz.out
      go_wp2
      go_quiet (fail)
      go_wp2
      go_roundw
      case rel => exact ⟨k + 1, by omega, by go_num, _, rfl⟩
      case measure => simp [intOf]; omega
    · go_wp2
      go_ret
      exact ⟨rfl, below_drawn _ _ _⟩

set_option maxHeartbeats 400000 in
theorem szBoolS_any (A : Option Addr) (c n : Nat) (k : Int) (w : World) (hk0 : (n : Int) ≤ k) (hk : k ≤ 1048576) :
    Calls Try.prog 42 #[.slice A n c, .int .i64 k] w fun e w' => e = .returned (.int .i64 (k - n)) ∧ w = w' := by
  go_enter Try.func42, Try.ntmps42
  go_wp2
  go_ret
  exact ⟨rfl, rfl⟩
set_option maxHeartbeats 400000 in
theorem szBoolS_over (A : Option Addr) (c n : Nat) (k : Int) (w : World) (hn : n ≤ 9223372036854775807) (hk0 : 0 ≤ k) (hk : k < n) :
    Calls Try.prog 42 #[.slice A n c, .int .i64 k] w fun e w' => e = .returned (.int .i64 (-1)) ∧ w = w' := by
  go_enter Try.func42, Try.ntmps42
  go_wp2
  go_ret
  exact ⟨rfl, rfl⟩
/-- Too many, or a number left and rows of bounded length. -/
def SzPost (ps : List Bits) (w : World) (e : Ending) (w' : World) : Prop := ∃ v : Int, e = .returned (.int .i64 v) ∧ (v < 0 ∨ (0 ≤ v ∧ Small ps)) ∧ w = w'
theorem small_snoc {ps : List Bits} {k : Nat} {bs : Bits} (hz : ps[k]? = some bs) (h : ∀ r ∈ ps.take k, r.length ≤ 1048576) (hn : bs.length ≤ 1048576) : ∀ r ∈ ps.take (k + 1), r.length ≤ 1048576 := by
  rw [take_snoc _ _ _ hz]
  intro y hy
  rcases List.mem_append.1 hy with h1 | h1
  · exact h y h1
  · simp at h1; subst h1; exact hn
set_option maxHeartbeats 400000 in
theorem szBoolSS_any (A : Option Addr) (c : Nat) (ps : List Bits) (w : World) (hr : Mat w A ps) (hm : ps.length ≤ 9223372036854775807) (hl : ∀ bs ∈ ps, bs.length ≤ 9223372036854775807) :
    Calls Try.prog 17 #[.slice A ps.length c, .int .i64 1048576] w (SzPost ps w) := by
  have Hl := hid hl
  clear hl
  by_cases h20 : 1048576 < ps.length
  · go_enter Try.func17, Try.ntmps17
    go_wp2
    go_ret
    exact ⟨-1, rfl, .inl (by omega), rfl⟩
  · go_enter Try.func17, Try.ntmps17
    go_wp2
    go_loop [1, 5] (fun v i => ∃ (k : Nat) (q : Int), k ≤ ps.length ∧ i = .int .i64 k ∧ v = .int .i64 q ∧ 0 ≤ q ∧ q ≤ 1048576 ∧ Hid (∀ r ∈ ps.take k, r.length ≤ 1048576)) (fun _ i => ps.length - (intOf i).toNat)
    case atStart => exact ⟨0, _, Nat.zero_le _, rfl, rfl, by omega, by omega, by simp [Hid]⟩
    case round =>
      obtain ⟨k, q, hk, rfl, rfl, hq0, hq1, hall⟩ := hrel
      by_cases hlt : k < ps.length
      · obtain ⟨b, off, A', c', bs, rfl, hz, hc, -⟩ := hr.at_ hlt
        have hb := Hl.out bs (List.mem_of_getElem? hz.out)
        by_cases hq : (bs.length : Int) ≤ q
        · have hn := hid (small_snoc hz.out hall.out (by omega))
          go_wp2_with (go_at_call 42; refine (szBoolS_any _ _ _ _ _ hq hq1).mono ?_; rintro e w' ⟨rfl, rfl⟩)
          go_round
          case rel => exact ⟨k + 1, _, by omega, by go_num, rfl, by omega, by omega, hn⟩
          case measure => simp [intOf]; omega
        · go_wp2_with (go_at_call 42; refine (szBoolS_over _ _ _ _ _ hb hq0 (by omega)).mono ?_; rintro e w' ⟨rfl, rfl⟩)
          go_ret
          exact ⟨-1, rfl, .inl (by omega), rfl⟩
      · have hs := hid (show Small ps from ⟨by omega, fun bs hb => hall.out bs (by rw [List.take_of_length_le (by omega)]; exact hb)⟩)
        go_wp2
        go_ret
        exact ⟨q, rfl, .inr ⟨hq0, hs.out⟩, rfl⟩

/-- Rows of the call's own, the outer one in block lo, each row in blocks of its own behind it. -/
def MatO (w : World) (lo hi : Nat) (A : Option Addr) (c : Nat) (ps : List Bits) : Prop :=
  ∃ (vs : List Value) (r : Nat → Nat), Own w lo (lo + 1) 31 1 A c ps.length vs ∧ (∀ i, r i ≤ r (i + 1)) ∧ lo + 1 ≤ r 0 ∧ r ps.length ≤ hi ∧
    ∀ (k : Nat) (bs : Bits), ps[k]? = some bs → ∃ A' c', vs[k]? = some (Value.slice A' bs.length c') ∧ Own w (r k) (r (k + 1)) 4 1 A' c' bs.length (bools bs)
theorem mono_le {r : Nat → Nat} (h : ∀ i, r i ≤ r (i + 1)) {i j : Nat} (hij : i ≤ j) : r i ≤ r j := by
  induction j with
  | zero => obtain rfl : i = 0 := by omega
            exact Nat.le_refl _
  | succ j ih =>
    rcases Nat.lt_or_ge i (j + 1) with h1 | h1
    · exact Nat.le_trans (ih (by omega)) (h j)
    · obtain rfl : i = j + 1 := by omega
      exact Nat.le_refl _
section
variable {w w' : World} {lo hi c : Nat} {A : Option Addr} {ps : List Bits}
theorem MatO.mat (h : MatO w lo hi A c ps) : Mat w A ps := by
  obtain ⟨vs, r, h1, h2, h3, h4, h5⟩ := h
  exact ⟨vs, h1.cells, by have := h1.row.1; omega, fun k bs hk => by obtain ⟨A', c', h6, h7⟩ := h5 k bs hk; exact ⟨A', c', h6, h7.cells⟩⟩
theorem MatO.le (h : MatO w lo hi A c ps) : lo + 1 ≤ hi := by
  obtain ⟨vs, r, h1, h2, h3, h4, h5⟩ := h
  have := mono_le h2 (Nat.zero_le ps.length); omega
theorem MatO.below (h : MatO w lo hi A c ps) (hb : Below w.heap.size w w') : MatO w' lo hi A c ps := by
  obtain ⟨vs, r, h1, h2, h3, h4, h5⟩ := h
  exact ⟨vs, r, h1.below hb, h2, h3, h4, fun k bs hk => by obtain ⟨A', c', h6, h7⟩ := h5 k bs hk; exact ⟨A', c', h6, h7.below hb⟩⟩
theorem MatO.chg (h : MatO w lo hi A c ps) {lo' hi' : Nat} (hc : Chg lo' hi' w w') (hd : hi ≤ lo' ∨ hi' ≤ lo) : MatO w' lo hi A c ps := by
  have hle := h.le
  obtain ⟨vs, r, h1, h2, h3, h4, h5⟩ := h
  refine ⟨vs, r, h1.chg hc (by omega), h2, h3, h4, fun k bs hk => ?_⟩
  obtain ⟨A', c', h6, h7⟩ := h5 k bs hk
  have hk2 := (List.getElem?_eq_some_iff.1 hk).1
  have e1 := mono_le h2 (Nat.zero_le k)
  have e2 := mono_le h2 (show k + 1 ≤ ps.length by omega)
  exact ⟨A', c', h6, h7.chg hc (by omega)⟩
end

def RetMat (w : World) (ps : List Bits) (e : Ending) (w' : World) : Prop :=
  ∃ A c, e = .returned (.slice A ps.length c) ∧ MatO w' w.heap.size w'.heap.size A c ps ∧ Below w.heap.size w w'

set_option maxHeartbeats 1000000 in
theorem toBoolSS_any (A : Option Addr) (c : Nat) (ps : List Bits) (w : World) (hr : Mat w A ps) (hs : Small ps) :
    Calls Try.prog 19 #[.slice A ps.length c] w (RetMat w ps) := by
  have hm : ps.length ≤ 1048576 := hs.1
  have Hl := hid hs.2
  clear hs
  have hmk := fun W => run_make_ints (P := Try.prog) 22 31 Try.underlying22 info_row rfl ps.length (by omega) (by omega) W
  go_enter Try.func19, Try.ntmps19
  go_wp2
  go_loopw [4] (fun i wr => ∃ (k : Nat) (vs : List Value) (r : Nat → Nat), k ≤ ps.length ∧ i = .int .i64 k ∧ Hid (vs.length = ps.length) ∧ Hid (Blk wr w.heap.size 31 vs) ∧ Hid (∀ i, r i ≤ r (i + 1)) ∧ Hid (w.heap.size + 1 ≤ r 0) ∧ Hid (r k ≤ wr.heap.size) ∧
    Hid (∀ (j : Nat) (bs : Bits), j < k → ps[j]? = some bs → ∃ A' c', vs[j]? = some (Value.slice A' bs.length c') ∧ Own wr (r j) (r (j + 1)) 4 1 A' c' bs.length (bools bs)) ∧ Below w.heap.size w wr) (fun i _ => ps.length - (intOf i).toNat)
  case atStart => exact ⟨0, List.replicate ps.length (.slice none 0 0), fun _ => w.heap.size + 1, Nat.zero_le _, rfl, by simp [Hid], Blk.new _ _ _, fun _ => Nat.le_refl _, Nat.le_refl _, by simp [Hid], fun j bs hj => by omega, (Below.refl _ _).alloc (Nat.le_refl _) _⟩
  case round =>
    obtain ⟨k, vs, r, hk, rfl, hvl, hblk, hmo, h0, hrk, hrows, hbel⟩ := hrel
    by_cases hlt : k < ps.length
    · obtain ⟨b, off, A', c', bs, rfl, hz, hc, hrow⟩ := (hr.below hbel).at_ hlt
      have hb := Hl.out bs (List.mem_of_getElem? hz.out)
      go_wp2_with fail
      refine (toBoolS_any _ _ _ _ hrow hb).mono ?_
      rintro e w1 ⟨A1, c1, rfl, o1, b1⟩
      have hbk := hid (hblk.out.below b1 hblk.out.lt)
      have hcell := hbk.out.cell k
      obtain ⟨v0, hv0⟩ : ∃ v0, vs[k]? = some v0 := ⟨vs[k]'(by rw [hvl.out]; exact hlt), List.getElem?_eq_getElem _⟩
      rw [hv0] at hcell
      have hfr := hbk.out.free k
      have O1 := hid o1
      have hrows2 := hid (fun (j : Nat) (bs : Bits) (hj : j < k) (hjs : ps[j]? = some bs) => (hrows.out j bs hj hjs).imp fun A' h => h.imp fun c' h => (⟨h.1, h.2.below b1⟩ : vs[j]? = some (Value.slice A' bs.length c') ∧ Own w1 (r j) (r (j + 1)) 4 1 A' c' bs.length (bools bs)))
      have hb1 := below_step hbel b1
      have hz1 := hid (show wr.heap.size ≤ w1.heap.size from b1.size)
      have hg := hid (show w.heap.size < wr.heap.size from hblk.out.lt)
      clear o1 hv0 hrows
      go_wp2
      go_roundw
      case rel =>
        have e1 := hmo.out
        have e2 := hrk.out
        have e3 := hz1.out
        have e4 := h0.out
        have e5 := hg.out
        refine ⟨k + 1, vs.set k (.slice A1 bs.length c1), fun i => if i ≤ k then r i else w1.heap.size, by omega, by go_num, by unfold Hid; rw [List.length_set, hvl.out], hbk.out.set _ _, ?_, by simpa [Hid] using e4, ?_, ?_, hb1.setCell (Nat.le_refl _) _⟩
        · intro i
          show (if i ≤ k then r i else w1.heap.size) ≤ (if i + 1 ≤ k then r (i + 1) else w1.heap.size)
          have := e1 i
          have h5 := @mono_le r e1 i k
          split <;> split <;> omega
        · show (if k + 1 ≤ k then r (k + 1) else w1.heap.size) ≤ _
          rw [if_neg (by omega)]
          simp [World.setCell]
        · intro j bs' hj hjs
          have hr0 := mono_le e1 (Nat.zero_le j)
          by_cases hjk : j = k
          · subst hjk
            rw [hz.out] at hjs; injection hjs with hjs; subst hjs
            refine ⟨A1, c1, by rw [List.getElem?_set_self (by rw [hvl.out]; exact hlt)], ?_⟩
            have hO := O1.out.chg (chg_set w1 (Nat.le_refl w.heap.size) (Nat.lt_succ_self _) j (.slice A1 bs.length c1)) (.inr (by omega))
            simp only [Nat.le_refl, if_true, show ¬ j + 1 ≤ j by omega, if_false]
            exact hO.weak e2 (Nat.le_refl _)
          · obtain ⟨A2, c2, h6, h7⟩ := hrows2.out j bs' (by omega) hjs
            refine ⟨A2, c2, by rw [List.getElem?_set_ne (by omega)]; exact h6, ?_⟩
            simp only [show j ≤ k by omega, show j + 1 ≤ k by omega, if_true]
            exact h7.chg (chg_set w1 (Nat.le_refl w.heap.size) (Nat.lt_succ_self _) k _) (.inr (by omega))
      case measure => simp [intOf]; omega
    · obtain rfl : k = ps.length := by omega
      clear hlt
      go_wp2
      go_ret
      refine ⟨_, _, rfl, ⟨vs, r, ⟨hblk.out.own (Nat.le_refl _) hvl.out (by simp only [maxLen]; omega), fun ad hA => by injection hA with hA; subst hA; exact Nat.lt_succ_self _⟩, hmo.out, h0.out, hrk.out, fun j bs hj => hrows.out j bs (List.getElem?_eq_some_iff.1 hj).1 hj⟩, hbel⟩

set_option maxHeartbeats 400000 in
theorem eqBoolSS_true (A B : Option Addr) (c d : Nat) (ps : List Bits) (w : World) (hA : Mat w A ps) (hB : Mat w B ps) (hs : Small ps) :
    Calls Try.prog 21 #[.slice A ps.length c, .slice B ps.length d] w (RetB w true) := by
  have hm : ps.length ≤ 1048576 := hs.1
  have Hl := hid hs.2
  clear hs
  go_enter Try.func21, Try.ntmps21
  go_wp2
  go_loopw [5] (fun i wr => ∃ k : Nat, k ≤ ps.length ∧ i = .int .i64 k ∧ Below w.heap.size w wr) (fun i _ => ps.length - (intOf i).toNat)
  case atStart => exact ⟨0, Nat.zero_le _, rfl, Below.refl _ _⟩
  case round =>
    obtain ⟨k, hk, rfl, hbel⟩ := hrel
    by_cases hlt : k < ps.length
    · obtain ⟨b, off, A1, c1, bs, rfl, hz, hc, hrow⟩ := (hA.below hbel).at_ hlt
      obtain ⟨b2, off2, A2, c2, rfl, hc2, hrow2⟩ := (hB.below hbel).of hz.out
      have hb := Hl.out bs (List.mem_of_getElem? hz.out)
      have iA := After.some wr
      have q0 := fun p => after_cell hc p
      have q1 := fun p => after_cell hc2 p
      have hE := hid (fun (P : After wr) => Calls.after_of (p := P) (v := .bool true) (eqBoolS_true A1 A2 c1 c2 bs P.w' (hrow.below P.h) (hrow2.below P.h) (by omega)))
      clear hc hc2
      go_wp2
      refine wp_region_after (by kernel_rfl) (by kernel_rfl) ?_
      repeat (go_big_quiet_step ((go_at_call 35; exact hE.out _)))
      refine wpQuiet_nil ?_
      rintro _ ⟨⟨w2, b2⟩, rfl⟩
      go_wp2
      go_roundw
      case rel => exact ⟨k + 1, by omega, by go_num, below_step hbel b2⟩
      case measure => simp [intOf]; omega
    · go_wp2
      go_ret
      exact ⟨rfl, hbel⟩

set_option maxHeartbeats 400000 in
theorem markBoolS_any (A : Option Addr) (c lo hi : Nat) (bs : Bits) (k : Int) (w : World) (ho : Own w lo hi 4 1 A c bs.length (bools bs)) (hm : bs.length ≤ 1048576) (hk0 : 0 ≤ k) (hk : k ≤ 17592186044416) :
    Calls Try.prog 39 #[.slice A bs.length c, .int .i64 k] w fun e w' => e = .returned (.int .i64 (k + bs.length)) ∧ Chg lo hi w w' := by
  go_enter Try.func39, Try.ntmps39
  go_wp2
  go_loopw [1, 5] (fun q i wr => ∃ (j : Nat) (xs : List Value), j ≤ bs.length ∧ i = .int .i64 j ∧ q = .int .i64 (k + j) ∧ Own wr lo hi 4 1 A c bs.length xs ∧ Chg lo hi w wr) (fun _ i _ => bs.length - (intOf i).toNat)
  case atStart => exact ⟨0, _, Nat.zero_le _, rfl, by simp, ho, Chg.refl _ _ _⟩
  case round =>
    obtain ⟨j, xs, hj, rfl, rfl, ho', hch⟩ := hrel
    by_cases hlt : j < bs.length
    · obtain ⟨g, v, rfl, hlo, hhi, _, hc, hf⟩ := ho'.at_ (i := j) (by rw [ho'.row.1]; omega)
      have ho2 := hid ho'
      clear ho' ho
      go_wp2
      go_roundw
      case rel => exact ⟨j + 1, _, by omega, by go_num, by go_num, ho2.out.set _ _, hch.trans (chg_set _ hlo hhi _ _)⟩
      case measure => simp [intOf]; omega
    · obtain rfl : j = bs.length := by omega
      clear ho' ho hlt
      go_wp2
      go_ret
      exact ⟨rfl, hch⟩

theorem chg_weak {lo hi lo' hi' : Nat} {w w' : World} (h : Chg lo hi w w') (h1 : lo' ≤ lo) (h2 : hi ≤ hi') : Chg lo' hi' w w' := ⟨h.os, h.tape, h.output, h.size, fun k hk hd => h.block k hk (by omega)⟩
set_option maxHeartbeats 1000000 in
theorem markBoolSS_any (A : Option Addr) (c lo hi : Nat) (ps : List Bits) (w : World) (ho : MatO w lo hi A c ps) (hs : Small ps) :
    Calls Try.prog 38 #[.slice A ps.length c, .int .i64 1] w fun e w' => (∃ q : Nat, e = .returned (.int .i64 q) ∧ q ≤ 17592186044415) ∧ Chg lo hi w w' := by
  have hm : ps.length ≤ 1048576 := hs.1
  have Hl := hid hs.2
  obtain ⟨vs, r, o0, hmo, h0, hrn, hrows⟩ := ho
  have HM := hid hmo
  have H0 := hid h0
  have HN := hid hrn
  have HV := hid o0.row.1
  have O0 := hid o0
  have HR := hid hrows
  clear hs o0 hmo h0 hrn hrows
  go_enter Try.func38, Try.ntmps38
  go_wp2
  go_loopw [1, 5] (fun q i wr => ∃ j p : Nat, j ≤ ps.length ∧ i = .int .i64 j ∧ q = .int .i64 p ∧ p ≤ 1 + j * 1048576 ∧ Hid (Chg (lo + 1) (r j) w wr)) (fun _ i _ => ps.length - (intOf i).toNat)
  case atStart => exact ⟨0, 1, Nat.zero_le _, rfl, rfl, by omega, Chg.refl _ _ _⟩
  case round =>
    obtain ⟨j, p, hj, rfl, rfl, hp, hch⟩ := hrel
    by_cases hlt : j < ps.length
    · obtain ⟨bs, hz⟩ : ∃ bs, ps[j]? = some bs := ⟨ps[j], List.getElem?_eq_getElem hlt⟩
      have hb := Hl.out bs (List.mem_of_getElem? hz)
      obtain ⟨A', c', hv, orow⟩ := HR.out j bs hz
      have O1 := O0.out.chg hch.out (.inl (Nat.le_refl _))
      obtain ⟨g, rfl, -, -, hcell, hfz⟩ := O1.of_get hv
      have orow2 := hid (orow.chg hch.out (.inr (Nat.le_refl _)))
      have hr1 := mono_le HM.out (show j + 1 ≤ ps.length by omega)
      have hr0 := mono_le HM.out (Nat.zero_le j)
      have hrj := HM.out j
      have Hz := hid hz
      have e0 := H0.out
      have h1 := hid (show lo + 1 ≤ r j by omega)
      have h2 := hid hrj
      clear hv orow hz O1 hr1 hr0 hrj e0
      go_wp2_with (go_at_call 39; refine (markBoolS_any _ _ _ _ _ _ _ orow2.out hb (by omega) (by omega)).mono ?_; rintro e w' ⟨rfl, ch⟩)
      go_roundw
      case rel => exact ⟨j + 1, p + bs.length, by omega, by go_num, by go_num, by omega, (chg_weak hch.out (Nat.le_refl _) h2.out).trans (chg_weak ch h1.out (Nat.le_refl _))⟩
      case measure => simp [intOf]; omega
    · obtain rfl : j = ps.length := by omega
      have hfin := hid (chg_weak hch.out (Nat.le_succ lo) HN.out)
      clear hlt
      go_wp2
      go_ret
      exact ⟨⟨p, rfl, by omega⟩, hfin.out⟩

end Go.Proofs.Ytckbpiapkooamaa
