/- Requests: copies, marks. -/
import Derived.Test.YtjfpemneinclfaaW3
namespace Go.Proofs.Ytjfpemneinclfaa
open Go.RowKit

/-- A slice of requests in new memory; nothing that was there has changed. -/
def RetAsks (w : World) (l : List AskT) (e : Ending) (w' : World) : Prop :=
  ∃ A c, e = .returned (.slice A l.length c) ∧ Own w' w.heap.size w'.heap.size 34 2 A c l.length (asks l) ∧ Below w.heap.size w w'

theorem run_make_asks (t e : TypeId) {P : Program} {bytes : Nat} (ht : P.underlying t = some (.slice e)) (hinfo : (P.info? e).map (fun i => (i.zero, i.size, i.bytes)) = some (some (.agg #[.int .i64 0, .int .i64 0]), 2, bytes))
    (n : Nat) (hn : n * bytes ≤ 281474976710656) (h63 : n ≤ 9223372036854775807) (W : World) :
    (Instr.makeSlice t (.int .i64 (n : Int)) (.int .i64 (n : Int))).run P W = .ok (.slice (some ⟨W.heap.size, 0, none⟩) n n) (W.alloc (.cells (List.replicate (n * 2) (Value.int .i64 0)).toArray e)) := by
  obtain ⟨i, hi, hz, hs, hb⟩ := info_parts hinfo
  have hb' : (i.bytes : Int) * (n : Int) ≤ 281474976710656 := by
    have h : ((i.bytes * n : Nat) : Int) ≤ 281474976710656 := by rw [hb, Nat.mul_comm]; omega
    rwa [Int.natCast_mul] at h
  have hr := run_make (P := P) W t e i _ ht hi hz .i64 .i64 n n (by omega) (Int.le_refl _) hb' (by omega)
  simp only [Int.toNat_natCast] at hr
  rw [hr, hs]
  congr 3
  apply Array.ext
  · simp [size_madeCells]
  · intro k h1 h2
    have : k % 2 = 0 ∨ k % 2 = 1 := by omega
    rcases this with h | h <;> simp [madeCells, Value.cells, h]

theorem Blk.owns {w : World} {g n size : Nat} {t : TypeId} {xs : List Value} (h : Blk w g t xs) {base : Nat} (hb : base ≤ g) (hn : xs.length = n * size) (hm : n ≤ maxLen) : w.ownsRow base t size (.slice (some ⟨g, 0, none⟩) n n) n xs :=
  ⟨by omega, .inr ⟨g, n, xs.toArray, rfl, hb, h, Nat.le_refl _, hm, by simp [hn], by simp [← hn]⟩⟩

/-- The first k of l are in place, zeros behind. -/
def partA (l : List AskT) (k : Nat) : List Value := asks (l.take k) ++ List.replicate ((l.length - k) * 2) (.int .i64 0)
theorem partA_zero (l : List AskT) : partA l 0 = List.replicate (l.length * 2) (.int .i64 0) := by simp [partA, asks]
theorem partA_all (l : List AskT) : partA l l.length = asks l := by simp [partA]
theorem partA_at (l : List AskT) {k : Nat} (hk : k < l.length) : (partA l k)[k * 2]? = some (.int .i64 0) ∧ (partA l k)[k * 2 + 1]? = some (.int .i64 0) := by
  have hl : (asks (l.take k)).length = k * 2 := by rw [asks_length, List.length_take, Nat.min_eq_left (by omega)]
  unfold partA
  rw [List.getElem?_append_right (by omega), List.getElem?_append_right (by omega), hl, List.getElem?_replicate, List.getElem?_replicate, if_pos (by omega), if_pos (by omega)]
  exact ⟨rfl, rfl⟩
theorem partA_set (l : List AskT) {k : Nat} {p q : Int} (hz : l[k]? = some (p, q)) : ((partA l k).set (k * 2) (.int .i64 p)).set (k * 2 + 1) (.int .i64 q) = partA l (k + 1) := by
  have hk : k < l.length := (List.getElem?_eq_some_iff.1 hz).1
  have hl : (asks (l.take k)).length = k * 2 := by rw [asks_length, List.length_take, Nat.min_eq_left (by omega)]
  have e : (l.length - k) * 2 = (l.length - (k + 1)) * 2 + 1 + 1 := by omega
  unfold partA
  rw [List.set_append_right _ _ (by omega), List.set_append_right _ _ (by omega), hl, take_snoc _ _ _ hz, e, List.replicate_succ, List.replicate_succ, asks_app]
  have e1 : k * 2 - k * 2 = 0 := by omega
  have e2 : k * 2 + 1 - k * 2 = 1 := by omega
  rw [e1, e2]
  simp [asks]

set_option maxHeartbeats 400000 in
theorem toAsk_any (p q : Int) (w : World) : Calls Try.prog 33 #[av p q] w fun e w' => e = .returned (av p q) ∧ Below w.heap.size w w' := by
  go_enter Try.func33, Try.ntmps33
  go_wp2
  refine bodyPost_ret (v := av p q) (by simp [results, Try.results33, go_sem]) rfl ⟨rfl, ?_⟩
  exact (((Below.refl _ _).alloc (Nat.le_refl _) _).alloc (by simp) _).alloc (by simp; omega) _
set_option maxHeartbeats 400000 in
theorem toAskS_any (A : Option Addr) (c : Nat) (l : List AskT) (w : World) (hr : Cells w A (asks l)) (hm : l.length ≤ 1048576) :
    Calls Try.prog 23 #[.slice A l.length c] w (RetAsks w l) := by
  have hmk := fun W => run_make_asks (P := Try.prog) 25 34 Try.underlying25 info_ask l.length (by omega) (by omega) W
  go_enter Try.func23, Try.ntmps23
  go_wp2
  go_loopw [4] (fun i wr => ∃ k : Nat, k ≤ l.length ∧ i = .int .i64 k ∧ Below w.heap.size w wr ∧ Blk wr w.heap.size 34 (partA l k)) (fun i _ => l.length - (intOf i).toNat)
  case atStart => exact ⟨0, Nat.zero_le _, rfl, (Below.refl _ _).alloc (Nat.le_refl _) _, by rw [partA_zero]; exact Blk.new _ _ _⟩
  case round =>
    obtain ⟨k, hk, rfl, hbel, hblk⟩ := hrel
    have hr' := hr.below hbel
    by_cases hlt : k < l.length
    · obtain ⟨b, off, p, q, rfl, hz, hc, hc1⟩ := hr'.ask_at hlt
      have hb2 := hid hblk
      clear hblk
      go_wp2_with fail
      refine (toAsk_any _ _ _).mono ?_
      rintro e w1 ⟨rfl, b1⟩
      have hbk := hid (hb2.out.below b1 hb2.out.lt)
      have hcell0 := hbk.out.cell (k * 2)
      have hcell1 := hbk.out.cell (k * 2 + 1)
      rw [(partA_at l hlt).1] at hcell0
      rw [(partA_at l hlt).2] at hcell1
      have hf0 := hbk.out.free (k * 2)
      have hf1 := hbk.out.free (k * 2 + 1)
      have hs := hid (partA_set l hz.out)
      have hb1 := below_step hbel b1
      have hbk2 := hbk
      clear hbk hb2
      go_wp2
      go_roundw
      case rel => exact ⟨k + 1, by omega, by go_num, (hb1.setCell (Nat.le_refl _) _).setCell (Nat.le_refl _) _, by rw [← hs.out]; exact (hbk2.out.set _ _).set _ _⟩
      case measure => simp [intOf]; omega
    · obtain rfl : k = l.length := by omega
      rw [partA_all] at hblk
      have hb2 := hid hblk
      clear hblk hlt
      go_wp2
      go_ret
      exact ⟨_, _, rfl, Own.of_row (Blk.owns hb2.out (Nat.le_refl _) (asks_length l) (by simp only [maxLen]; omega)), hbel⟩
set_option maxHeartbeats 400000 in
theorem szAskS_any (A : Option Addr) (c n : Nat) (k : Int) (w : World) (hm : n ≤ 1048576) (hk0 : (n : Int) ≤ k) (hk : k ≤ 1048576) :
    Calls Try.prog 21 #[.slice A n c, .int .i64 k] w fun e w' => e = .returned (.int .i64 (k - n)) ∧ w = w' := by
  go_enter Try.func21, Try.ntmps21
  go_wp2
  go_ret
  exact ⟨rfl, rfl⟩
set_option maxHeartbeats 400000 in
theorem szAskS_over (A : Option Addr) (c n : Nat) (k : Int) (w : World) (hn : n ≤ 9223372036854775807) (hk0 : 0 ≤ k) (hk : k < n) :
    Calls Try.prog 21 #[.slice A n c, .int .i64 k] w fun e w' => e = .returned (.int .i64 (-1)) ∧ w = w' := by
  go_enter Try.func21, Try.ntmps21
  go_wp2
  go_ret
  exact ⟨rfl, rfl⟩

/-- (k, k+1), (k+2, k+3), .. : n of them. -/
def upA (k : Int) : Nat → List AskT
  | 0 => []
  | n + 1 => (k, k + 1) :: upA (k + 2) n
theorem upA_length (k : Int) (n : Nat) : (upA k n).length = n := by
  induction n generalizing k with
  | zero => rfl
  | succ n ih => simp [upA, ih]
theorem upA_get (k : Int) (n i : Nat) (h : i < n) : (upA k n)[i]? = some (k + i * 2, k + i * 2 + 1) := by
  induction n generalizing k i with
  | zero => omega
  | succ n ih =>
    rcases i with _ | i
    · simp [upA]
    · simp only [upA, List.getElem?_cons_succ]
      rw [ih (k + 2) i (by omega)]; congr 2 <;> push_cast <;> omega
theorem markA_step (k : Int) (l : List AskT) (j : Nat) (h : j < l.length) :
    ((asks ((upA k l.length).take j ++ l.drop j)).set (j * 2) (.int .i64 (k + j * 2))).set (j * 2 + 1) (.int .i64 (k + j * 2 + 1)) = asks ((upA k l.length).take (j + 1) ++ l.drop (j + 1)) := by
  have hl2 : ((upA k l.length).take j).length = j := by rw [List.length_take, upA_length]; omega
  rw [asks_set _ j (k + j * 2, k + j * 2 + 1), List.set_append_right _ _ (by omega), hl2, Nat.sub_self, List.drop_eq_getElem_cons h, List.set_cons_zero, take_snoc _ _ _ (upA_get k l.length j h), List.append_assoc]
  rfl

set_option maxHeartbeats 400000 in
theorem markAskS_any (A : Option Addr) (c lo hi : Nat) (l : List AskT) (k : Int) (w : World) (ho : Own w lo hi 34 2 A c l.length (asks l)) (hm : l.length ≤ 17592186044416) (hk0 : 0 ≤ k) (hk : k ≤ 17592186044416) :
    Calls Try.prog 34 #[.slice A l.length c, .int .i64 k] w fun e w' => e = .returned (.int .i64 (k + l.length * 2)) ∧ Own w' lo hi 34 2 A c l.length (asks (upA k l.length)) ∧ Chg lo hi w w' := by
  go_enter Try.func34, Try.ntmps34
  go_wp2
  go_loopw [1, 5] (fun q i wr => ∃ j : Nat, j ≤ l.length ∧ i = .int .i64 j ∧ q = .int .i64 (k + j * 2) ∧ Own wr lo hi 34 2 A c l.length (asks ((upA k l.length).take j ++ l.drop j)) ∧ Chg lo hi w wr) (fun _ i _ => l.length - (intOf i).toNat)
  case atStart => exact ⟨0, Nat.zero_le _, rfl, by simp, by simpa using ho, Chg.refl _ _ _⟩
  case round =>
    obtain ⟨j, hj, rfl, rfl, ho', hch⟩ := hrel
    by_cases hlt : j < l.length
    · have hl : j * 2 < (asks ((upA k l.length).take j ++ l.drop j)).length := by rw [asks_length]; simp [upA_length]; omega
      have hl1 : j * 2 + 1 < (asks ((upA k l.length).take j ++ l.drop j)).length := by rw [asks_length]; simp [upA_length]; omega
      obtain ⟨g, v, rfl, hlo, hhi, _, hc, hf⟩ := ho'.at_ hl
      obtain ⟨g2, v2, hA, _, _, _, hc2, hf2⟩ := ho'.at_ hl1
      injection hA with hA; injection hA with hA; subst hA
      have hs2 := hid (markA_step k l j hlt)
      have ho2 := hid ho'
      clear ho' ho hl hl1
      go_wp2
      go_roundw
      case rel => exact ⟨j + 1, by omega, by go_num, by go_num, by rw [← hs2.out]; exact (ho2.out.sets _ _).sets _ _, (hch.trans (chg_set _ hlo hhi _ _)).trans (chg_set _ hlo hhi _ _)⟩
      case measure => simp [intOf]; omega
    · obtain rfl : j = l.length := by omega
      have ho2 : Hid (Own wr lo hi 34 2 A c l.length (asks (upA k l.length))) := by
        have : (upA k l.length).take l.length = upA k l.length := List.take_of_length_le (by rw [upA_length]; exact Nat.le_refl _)
        simpa [this, Hid] using ho'
      clear ho' ho hlt
      go_wp2
      go_ret
      exact ⟨rfl, ho2.out, hch⟩
set_option maxHeartbeats 400000 in
theorem heldAskS_any (A : Option Addr) (c n : Nat) (k : Int) (w : World) (hA : Cells w A (asks (upA k n))) (hm : n ≤ 17592186044416) (hk0 : 0 ≤ k) (hk : k ≤ 17592186044416) :
    Calls Try.prog 35 #[.slice A n c, .int .i64 k] w fun e w' => e = .returned (.int .i64 (k + n * 2)) ∧ Below w.heap.size w w' := by
  go_enter Try.func35, Try.ntmps35
  go_wp2
  go_loop [1, 5] (fun q i => ∃ j : Nat, j ≤ n ∧ i = .int .i64 j ∧ q = .int .i64 (k + j * 2)) (fun _ i => n - (intOf i).toNat)
  case atStart => exact ⟨0, Nat.zero_le _, rfl, by simp⟩
  case round =>
    obtain ⟨j, hj, rfl, rfl⟩ := hrel
    by_cases hlt : j < n
    · obtain ⟨b, off, rfl, hc, hc1⟩ := hA.ask_of (upA_get k n j hlt)
      clear hA
      go_wp2
      go_round
      case rel => exact ⟨j + 1, by omega, by go_num, by go_num⟩
      case measure => simp [intOf]; omega
    · obtain rfl : j = n := by omega
      go_wp2
      go_ret
      exact ⟨rfl, Below.refl _ _⟩

set_option maxHeartbeats 400000 in
theorem cloneAsk_any (A : Option Addr) (c : Nat) (l : List AskT) (w : World) (hr : Cells w A (asks l)) (hm : l.length ≤ 1048576) :
    Calls Try.prog 59 #[.slice A l.length c] w (RetAsks w l) := by
  have hmk := fun W => run_make_cap (P := Try.prog) 25 34 Try.underlying25 info_ask l.length (by omega) (by omega) W
  go_enter Try.func59, Try.ntmps59
  go_wp2_with (at_builtin; refine wpList_app rfl (.tmp 5) (.tmp 6) 25 rfl w.heap.size Try.underlying25 info_ask rfl (by omega) (by omega) _ 0 l.length [] rfl (own_made w _ _ 2 _ (by omega) (Nat.le_refl _)) A l.length c (asks l) rfl (asks_length _) (hr.below ((Below.refl _ _).alloc (Nat.le_refl _) _)) (asks_one _) l.length (asks l) (by omega) rfl (by omega) (by simp) ?_; intro A' c' w' ho hb)
  go_ret
  exact ⟨A', c', rfl, Own.of_row ho, ((Below.refl _ _).alloc (Nat.le_refl _) _).trans hb⟩

end Go.Proofs.Ytjfpemneinclfaa
