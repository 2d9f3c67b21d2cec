/- Requests in memory: two cells each; the small readers. -/
import Derived.Test.YtjfpemneinclfaaC1
import Derived.Deep.RegionHeld3
import Derived.Test.YtjfpemneinclfaaBase2
namespace Go.Proofs.Ytjfpemneinclfaa
open Go.RowKit

abbrev AskT := Int × Int
def asks (l : List AskT) : List Value := l.flatMap fun a => [.int .i64 a.1, .int .i64 a.2]
theorem asks_nil : asks [] = [] := rfl
theorem asks_cons (a : AskT) (l : List AskT) : asks (a :: l) = .int .i64 a.1 :: .int .i64 a.2 :: asks l := rfl
theorem asks_length (l : List AskT) : (asks l).length = l.length * 2 := by
  induction l with
  | nil => rfl
  | cons a l ih => rw [asks_cons]; simp [ih]; omega
theorem asks_app (l m : List AskT) : asks (l ++ m) = asks l ++ asks m := by unfold asks; rw [List.flatMap_append]
theorem asks_get {l : List AskT} {k : Nat} {a : AskT} (h : l[k]? = some a) : (asks l)[k * 2]? = some (.int .i64 a.1) ∧ (asks l)[k * 2 + 1]? = some (.int .i64 a.2) := by
  induction l generalizing k with
  | nil => simp at h
  | cons b l ih =>
    rcases k with _ | k
    · simp at h; subst h; simp [asks_cons]
    · simp at h
      rw [asks_cons, show (k + 1) * 2 = k * 2 + 1 + 1 by omega]
      simpa using ih h
theorem asks_one (l : List AskT) : ∀ u ∈ asks l, u.oneCell' = true := by
  intro u hu
  unfold asks at hu
  simp only [List.mem_flatMap] at hu
  obtain ⟨a, _, h⟩ := hu
  simp at h
  rcases h with rfl | rfl <;> rfl
theorem asks_take (l : List AskT) (k : Nat) : (asks l).take (k * 2) = asks (l.take k) := by
  induction l generalizing k with
  | nil => simp [asks]
  | cons a l ih =>
    rcases k with _ | k
    · simp [asks]
    · rw [asks_cons, show (k + 1) * 2 = k * 2 + 1 + 1 by omega]; simp [asks_cons, ih]
theorem asks_drop (l : List AskT) (k : Nat) : (asks l).drop (k * 2) = asks (l.drop k) := by
  induction l generalizing k with
  | nil => simp [asks]
  | cons a l ih =>
    rcases k with _ | k
    · simp
    · rw [asks_cons, show (k + 1) * 2 = k * 2 + 1 + 1 by omega]; simp [ih]
theorem asks_set (l : List AskT) (k : Nat) (a : AskT) : ((asks l).set (k * 2) (.int .i64 a.1)).set (k * 2 + 1) (.int .i64 a.2) = asks (l.set k a) := by
  induction l generalizing k with
  | nil => simp [asks]
  | cons b l ih =>
    rcases k with _ | k
    · simp [asks_cons]
    · rw [asks_cons, show (k + 1) * 2 = k * 2 + 1 + 1 by omega]; simp [asks_cons, ih]
theorem asks_snoc (l : List AskT) (a : AskT) : asks l ++ [.int .i64 a.1, .int .i64 a.2] = asks (l ++ [a]) := by rw [asks_app]; rfl

theorem Cells.ask_of {w : World} {A : Option Addr} {l : List AskT} (h : Cells w A (asks l)) {k : Nat} {a : AskT} (hz : l[k]? = some a) :
    ∃ b off, A = some ⟨b, off, none⟩ ∧ w.cell? ⟨b, off + k * 2, none⟩ = some (.int .i64 a.1) ∧ w.cell? ⟨b, off + k * 2 + 1, none⟩ = some (.int .i64 a.2) := by
  obtain ⟨h0, h1⟩ := asks_get hz
  obtain ⟨b, off, hA, hc⟩ := h.of_get h0
  obtain ⟨b', off', hA', hc'⟩ := h.of_get h1
  rw [hA] at hA'; injection hA' with e; injection e with e1 e2; subst e1; subst e2
  exact ⟨b, off, hA, hc, by rw [Nat.add_assoc]; exact hc'⟩
theorem Cells.ask_at {w : World} {A : Option Addr} {l : List AskT} (h : Cells w A (asks l)) {k : Nat} (hk : k < l.length) :
    ∃ b off p q, A = some ⟨b, off, none⟩ ∧ Hid (l[k]? = some (p, q)) ∧ w.cell? ⟨b, off + k * 2, none⟩ = some (.int .i64 p) ∧ w.cell? ⟨b, off + k * 2 + 1, none⟩ = some (.int .i64 q) := by
  obtain ⟨b, off, hA, h0, h1⟩ := h.ask_of (List.getElem?_eq_getElem hk)
  exact ⟨b, off, l[k].1, l[k].2, hA, hid (List.getElem?_eq_getElem hk), h0, h1⟩

def peerN (l : List AskT) (p : Int) : Nat := l.countP fun a => a.1 == p
def blockN (l : List AskT) (q : Int) : Nat := l.countP fun a => a.2 == q
theorem countP_snoc {α} (f : α → Bool) (l : List α) (k : Nat) (a : α) (h : l[k]? = some a) : (l.take (k + 1)).countP f = (l.take k).countP f + (if f a then 1 else 0) := by
  rw [take_snoc _ _ _ h, List.countP_append]; simp [List.countP_cons]
theorem countP_le {α} (f : α → Bool) (l : List α) (k : Nat) : (l.take k).countP f ≤ l.length := by
  have := List.countP_le_length (p := f) (l := l.take k)
  rw [List.length_take] at this; omega

theorem info_ask : (Try.prog.info? 34).map (fun i => (i.zero, i.size, i.bytes)) = some (some (.agg #[.int .i64 0, .int .i64 0]), 2, 16) := by kernel_rfl

set_option maxHeartbeats 400000 in
theorem l21Peer_any (A : Option Addr) (c : Nat) (l : List AskT) (x : Int) (w : World) (hr : Cells w A (asks l)) (hm : l.length ≤ 17592186044416) :
    Calls Try.prog 46 #[.slice A l.length c, .int .i64 x] w fun e w' => e = .returned (.int .i64 (peerN l x)) ∧ w = w' := by
  go_enter Try.func46, Try.ntmps46
  go_wp2
  go_loop [5, 6] (fun n i => ∃ k : Nat, k ≤ l.length ∧ i = .int .i64 k ∧ n = .int .i64 ((l.take k).countP (fun a : AskT => a.1 == x))) (fun _ i => l.length - (intOf i).toNat)
  case atStart => exact ⟨0, Nat.zero_le _, rfl, by simp⟩
  case round =>
    obtain ⟨k, hk, rfl, rfl⟩ := hrel
    have hr' := hr
    have hle := countP_le (fun a : AskT => a.1 == x) l k
    by_cases hlt : k < l.length
    · obtain ⟨b, off, p, q, rfl, hz, hc, hc1⟩ := hr'.ask_at hlt
      have hsn := hid (countP_snoc (fun a : AskT => a.1 == x) l k (p, q) hz.out)
      by_cases hpx : p = x
      · have hb : (p == x) = true := by simpa using hpx
        have hs2 : Hid ((l.take (k + 1)).countP (fun a : AskT => a.1 == x) = (l.take k).countP (fun a : AskT => a.1 == x) + 1) := by unfold Hid; rw [hsn.out]; simp [hb]
        clear hpx hsn
        go_wp2
        go_round
        case rel => exact ⟨k + 1, by omega, by go_num, by rw [hs2.out]; go_num⟩
        case measure => simp [intOf]; omega
      · have hb : (p == x) = false := by simpa using hpx
        have hs2 : Hid ((l.take (k + 1)).countP (fun a : AskT => a.1 == x) = (l.take k).countP (fun a : AskT => a.1 == x)) := by unfold Hid; rw [hsn.out]; simp [hb]
        clear hpx hsn
        go_wp2
        go_round
        case rel => exact ⟨k + 1, by omega, by go_num, by rw [hs2.out]⟩
        case measure => simp [intOf]; omega
    · obtain rfl : k = l.length := by omega
      clear hlt
      go_wp2
      go_ret
      exact ⟨ret_int (by simp [peerN]), rfl⟩

set_option maxHeartbeats 400000 in
theorem l21Block_any (A : Option Addr) (c : Nat) (l : List AskT) (x : Int) (w : World) (hr : Cells w A (asks l)) (hm : l.length ≤ 17592186044416) :
    Calls Try.prog 47 #[.slice A l.length c, .int .i64 x] w fun e w' => e = .returned (.int .i64 (blockN l x)) ∧ w = w' := by
  go_enter Try.func47, Try.ntmps47
  go_wp2
  go_loop [5, 6] (fun n i => ∃ k : Nat, k ≤ l.length ∧ i = .int .i64 k ∧ n = .int .i64 ((l.take k).countP (fun a : AskT => a.2 == x))) (fun _ i => l.length - (intOf i).toNat)
  case atStart => exact ⟨0, Nat.zero_le _, rfl, by simp⟩
  case round =>
    obtain ⟨k, hk, rfl, rfl⟩ := hrel
    have hr' := hr
    have hle := countP_le (fun a : AskT => a.2 == x) l k
    by_cases hlt : k < l.length
    · obtain ⟨b, off, p, q, rfl, hz, hc, hc1⟩ := hr'.ask_at hlt
      have hsn := hid (countP_snoc (fun a : AskT => a.2 == x) l k (p, q) hz.out)
      by_cases hpx : q = x
      · have hb : (q == x) = true := by simpa using hpx
        have hs2 : Hid ((l.take (k + 1)).countP (fun a : AskT => a.2 == x) = (l.take k).countP (fun a : AskT => a.2 == x) + 1) := by unfold Hid; rw [hsn.out]; simp [hb]
        clear hpx hsn
        go_wp2
        go_round
        case rel => exact ⟨k + 1, by omega, by go_num, by rw [hs2.out]; go_num⟩
        case measure => simp [intOf]; omega
      · have hb : (q == x) = false := by simpa using hpx
        have hs2 : Hid ((l.take (k + 1)).countP (fun a : AskT => a.2 == x) = (l.take k).countP (fun a : AskT => a.2 == x)) := by unfold Hid; rw [hsn.out]; simp [hb]
        clear hpx hsn
        go_wp2
        go_round
        case rel => exact ⟨k + 1, by omega, by go_num, by rw [hs2.out]⟩
        case measure => simp [intOf]; omega
    · obtain rfl : k = l.length := by omega
      clear hlt
      go_wp2
      go_ret
      exact ⟨ret_int (by simp [blockN]), rfl⟩

set_option maxHeartbeats 400000 in
theorem asksFor_any (A : Option Addr) (c : Nat) (l : List AskT) (x : Int) (w : World) (hr : Cells w A (asks l)) (hm : l.length ≤ 17592186044416) :
    Calls Try.prog 36 #[.slice A l.length c, .int .i64 x] w fun e w' => e = .returned (.int .i64 (blockN l x)) ∧ w = w' := by
  go_enter Try.func36, Try.ntmps36
  go_wp2
  go_loop [5, 6] (fun n i => ∃ k : Nat, k ≤ l.length ∧ i = .int .i64 k ∧ n = .int .i64 ((l.take k).countP (fun a : AskT => a.2 == x))) (fun _ i => l.length - (intOf i).toNat)
  case atStart => exact ⟨0, Nat.zero_le _, rfl, by simp⟩
  case round =>
    obtain ⟨k, hk, rfl, rfl⟩ := hrel
    have hr' := hr
    have hle := countP_le (fun a : AskT => a.2 == x) l k
    by_cases hlt : k < l.length
    · obtain ⟨b, off, p, q, rfl, hz, hc, hc1⟩ := hr'.ask_at hlt
      have hsn := hid (countP_snoc (fun a : AskT => a.2 == x) l k (p, q) hz.out)
      by_cases hpx : q = x
      · have hb : (q == x) = true := by simpa using hpx
        have hs2 : Hid ((l.take (k + 1)).countP (fun a : AskT => a.2 == x) = (l.take k).countP (fun a : AskT => a.2 == x) + 1) := by unfold Hid; rw [hsn.out]; simp [hb]
        clear hpx hsn
        go_wp2
        go_round
        case rel => exact ⟨k + 1, by omega, by go_num, by rw [hs2.out]; go_num⟩
        case measure => simp [intOf]; omega
      · have hb : (q == x) = false := by simpa using hpx
        have hs2 : Hid ((l.take (k + 1)).countP (fun a : AskT => a.2 == x) = (l.take k).countP (fun a : AskT => a.2 == x)) := by unfold Hid; rw [hsn.out]; simp [hb]
        clear hpx hsn
        go_wp2
        go_round
        case rel => exact ⟨k + 1, by omega, by go_num, by rw [hs2.out]⟩
        case measure => simp [intOf]; omega
    · obtain rfl : k = l.length := by omega
      clear hlt
      go_wp2
      go_ret
      exact ⟨ret_int (by simp [blockN]), rfl⟩

set_option maxHeartbeats 400000 in
theorem toPeer_any (A : Option Addr) (c : Nat) (l : List AskT) (x : Int) (w : World) (hr : Cells w A (asks l)) (hm : l.length ≤ 17592186044416) :
    Calls Try.prog 50 #[.slice A l.length c, .int .i64 x] w fun e w' => e = .returned (.int .i64 (peerN l x)) ∧ Below w.heap.size w w' := by
  go_enter Try.func50, Try.ntmps50
  go_wp2
  go_loopw [5, 10] (fun n i wr => ∃ k : Nat, k ≤ l.length ∧ i = .int .i64 k ∧ n = .int .i64 ((l.take k).countP (fun a : AskT => a.1 == x)) ∧ Below w.heap.size w wr) (fun _ i _ => l.length - (intOf i).toNat)
  case atStart => exact ⟨0, Nat.zero_le _, rfl, by simp, Below.refl _ _⟩
  case round =>
    obtain ⟨k, hk, rfl, rfl, hbel⟩ := hrel
    have hsz := hbel.size
    have hr' := hr.below hbel
    have hle := countP_le (fun a : AskT => a.1 == x) l k
    by_cases hlt : k < l.length
    · obtain ⟨b, off, p, q, rfl, hz, hc, hc1⟩ := hr'.ask_at hlt
      have hsn := hid (countP_snoc (fun a : AskT => a.1 == x) l k (p, q) hz.out)
      by_cases hpx : p = x
      · have hb : (p == x) = true := by simpa using hpx
        have hs2 : Hid ((l.take (k + 1)).countP (fun a : AskT => a.1 == x) = (l.take k).countP (fun a : AskT => a.1 == x) + 1) := by unfold Hid; rw [hsn.out]; simp [hb]
        clear hpx hsn
        go_wp2
        go_roundw
        case rel => exact ⟨k + 1, by omega, by go_num, by rw [hs2.out]; go_num, by first | exact hbel.alloc hsz _ | exact (hbel.alloc hsz _).setCell hsz _⟩
        case measure => simp [intOf]; omega
      · have hb : (p == x) = false := by simpa using hpx
        have hs2 : Hid ((l.take (k + 1)).countP (fun a : AskT => a.1 == x) = (l.take k).countP (fun a : AskT => a.1 == x)) := by unfold Hid; rw [hsn.out]; simp [hb]
        clear hpx hsn
        go_wp2
        go_roundw
        case rel => exact ⟨k + 1, by omega, by go_num, by rw [hs2.out], by first | exact hbel.alloc hsz _ | exact (hbel.alloc hsz _).setCell hsz _⟩
        case measure => simp [intOf]; omega
    · obtain rfl : k = l.length := by omega
      clear hlt
      go_wp2
      go_ret
      exact ⟨ret_int (by simp [peerN]), hbel⟩

set_option maxHeartbeats 400000 in
theorem forBlock_any (A : Option Addr) (c : Nat) (l : List AskT) (x : Int) (w : World) (hr : Cells w A (asks l)) (hm : l.length ≤ 17592186044416) :
    Calls Try.prog 51 #[.slice A l.length c, .int .i64 x] w fun e w' => e = .returned (.int .i64 (blockN l x)) ∧ Below w.heap.size w w' := by
  go_enter Try.func51, Try.ntmps51
  go_wp2
  go_loopw [5, 10] (fun n i wr => ∃ k : Nat, k ≤ l.length ∧ i = .int .i64 k ∧ n = .int .i64 ((l.take k).countP (fun a : AskT => a.2 == x)) ∧ Below w.heap.size w wr) (fun _ i _ => l.length - (intOf i).toNat)
  case atStart => exact ⟨0, Nat.zero_le _, rfl, by simp, Below.refl _ _⟩
  case round =>
    obtain ⟨k, hk, rfl, rfl, hbel⟩ := hrel
    have hsz := hbel.size
    have hr' := hr.below hbel
    have hle := countP_le (fun a : AskT => a.2 == x) l k
    by_cases hlt : k < l.length
    · obtain ⟨b, off, p, q, rfl, hz, hc, hc1⟩ := hr'.ask_at hlt
      have hsn := hid (countP_snoc (fun a : AskT => a.2 == x) l k (p, q) hz.out)
      by_cases hpx : q = x
      · have hb : (q == x) = true := by simpa using hpx
        have hs2 : Hid ((l.take (k + 1)).countP (fun a : AskT => a.2 == x) = (l.take k).countP (fun a : AskT => a.2 == x) + 1) := by unfold Hid; rw [hsn.out]; simp [hb]
        clear hpx hsn
        go_wp2
        go_roundw
        case rel => exact ⟨k + 1, by omega, by go_num, by rw [hs2.out]; go_num, by first | exact hbel.alloc hsz _ | exact (hbel.alloc hsz _).setCell hsz _⟩
        case measure => simp [intOf]; omega
      · have hb : (q == x) = false := by simpa using hpx
        have hs2 : Hid ((l.take (k + 1)).countP (fun a : AskT => a.2 == x) = (l.take k).countP (fun a : AskT => a.2 == x)) := by unfold Hid; rw [hsn.out]; simp [hb]
        clear hpx hsn
        go_wp2
        go_roundw
        case rel => exact ⟨k + 1, by omega, by go_num, by rw [hs2.out], by first | exact hbel.alloc hsz _ | exact (hbel.alloc hsz _).setCell hsz _⟩
        case measure => simp [intOf]; omega
    · obtain rfl : k = l.length := by omega
      clear hlt
      go_wp2
      go_ret
      exact ⟨ret_int (by simp [blockN]), hbel⟩


end Go.Proofs.Ytjfpemneinclfaa
