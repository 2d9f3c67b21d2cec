/- Requests: slices.Index, slices.Contains; comparisons, copies, marks. -/
import Derived.Test.YtjfpemneinclfaaW2
namespace Go.Proofs.Ytjfpemneinclfaa
open Go.RowKit

set_option maxHeartbeats 400000 in
theorem index_any (A : Option Addr) (c : Nat) (l : List AskT) (x y : Int) (w : World) (hr : Cells w A (asks l)) (hm : l.length ≤ 17592186044416) :
    Calls Try.prog 64 #[.slice A l.length c, av x y] w fun e w' => ∃ n : Int, e = .returned (.int .i64 n) ∧ Hid (decide (0 ≤ n) = hasA l (x, y)) ∧ Below w.heap.size w w' := by
  have hb : Below w.heap.size w (w.alloc (.cells #[.int .i64 x, .int .i64 y] 34)) := (Below.refl _ _).alloc (Nat.le_refl _) _
  have hr0 := hr.below hb
  have hq := Blk.new w 34 [.int .i64 x, .int .i64 y]
  have hq0 := hq.cell 0
  have hq1 := hq.cell 1
  simp only [List.getElem?_cons_zero, List.getElem?_cons_succ] at hq0 hq1
  clear hq
  go_enter Try.func64, Try.ntmps64
  go_wp2
  go_loopw [8] (fun i wr => ∃ k : Nat, k ≤ l.length ∧ i = .int .i64 k ∧ Hid (∀ z ∈ l.take k, z ≠ (x, y)) ∧ ∃ n, wr = (w.alloc (.cells #[.int .i64 x, .int .i64 y] 34)).drewN n) (fun i _ => l.length - (intOf i).toNat)
  case atStart => exact ⟨0, Nat.zero_le _, rfl, by simp [Hid], 0, rfl⟩
  case round =>
    obtain ⟨k, hk, rfl, hall, n, rfl⟩ := hrel
    by_cases hlt : k < l.length
    · obtain ⟨b, off, p, q, rfl, hz, hc, hc1⟩ := hr0.ask_at hlt
      by_cases hpx : p = x
      · subst hpx
        by_cases hqy : q = y
        · subst hqy
          go_wp2
          go_quiet (fail)
          go_wp2
          go_ret
          exact ⟨k, rfl, by unfold Hid; rw [hasA_yes hz.out]; simp, below_drewN (below_drewN hb _) _⟩
        · have hn := hid (no_more hz.out hall.out (fun h => hqy (Prod.mk.inj h).2))
          have hb1 : (q == y) = false := by rw [beq_eq_false_iff_ne]; exact hqy
          have hb2 : (y == q) = false := by rw [beq_eq_false_iff_ne]; exact fun h => hqy h.symm
          clear hqy
          go_wp2
          go_quiet (fail)
          go_wp2
          go_roundw
          case rel => exact ⟨k + 1, by omega, by go_num, hn, _, rfl⟩
          case measure => simp [intOf]; omega
      · have hn := hid (no_more hz.out hall.out (fun h => hpx (Prod.mk.inj h).1))
        have hb1 : (p == x) = false := by rw [beq_eq_false_iff_ne]; exact hpx
        have hb2 : (x == p) = false := by rw [beq_eq_false_iff_ne]; exact fun h => hpx h.symm
        clear hpx
        go_wp2
        go_quiet (fail)
        go_wp2
        go_roundw
        case rel => exact ⟨k + 1, by omega, by go_num, hn, _, rfl⟩
        case measure => simp [intOf]; omega
    · go_wp2
      go_ret
      exact ⟨-1, rfl, by unfold Hid; rw [hasA_no (fun z hz => hall.out z (by rw [List.take_of_length_le (by omega)]; exact hz))]; rfl, below_drewN hb _⟩

set_option maxHeartbeats 400000 in
theorem contains_any (A : Option Addr) (c : Nat) (l : List AskT) (x y : Int) (w : World) (hr : Cells w A (asks l)) (hm : l.length ≤ 17592186044416) :
    Calls Try.prog 49 #[.slice A l.length c, av x y] w (RetB w (hasA l (x, y))) := by
  have hb : Below w.heap.size w (w.alloc (.cells #[.int .i64 x, .int .i64 y] 34)) := (Below.refl _ _).alloc (Nat.le_refl _) _
  have hr0 := hr.below hb
  go_enter Try.func49, Try.ntmps49
  go_wp2_with (go_at_call 64; refine (index_any _ _ _ _ _ _ hr0 hm).mono ?_; rintro e w2 ⟨n, rfl, hn, b2⟩)
  go_ret
  exact ⟨ret_bool hn.out, below_step hb b2⟩

theorem sameAsks_true_at {l : List AskT} {k : Nat} {w : World} {B : Option Addr} (hB : Cells w B (asks l)) {p q : Int} (hz : l[k]? = some (p, q)) :
    ∃ b off, B = some ⟨b, off, none⟩ ∧ w.cell? ⟨b, off + k * 2, none⟩ = some (.int .i64 p) ∧ w.cell? ⟨b, off + k * 2 + 1, none⟩ = some (.int .i64 q) := hB.ask_of hz

set_option maxHeartbeats 400000 in
theorem sameAsks_true (A B : Option Addr) (c d : Nat) (l : List AskT) (w : World) (hA : Cells w A (asks l)) (hB : Cells w B (asks l)) (hm : l.length ≤ 17592186044416) :
    Calls Try.prog 32 #[.slice A l.length c, .slice B l.length d] w (RetB w true) := by
  go_enter Try.func32, Try.ntmps32
  go_wp2
  go_loopw [5] (fun i wr => ∃ k : Nat, k ≤ l.length ∧ i = .int .i64 k ∧ ∃ n, wr = w.drewN n) (fun i _ => l.length - (intOf i).toNat)
  case atStart => exact ⟨0, Nat.zero_le _, rfl, 0, rfl⟩
  case round =>
    obtain ⟨k, hk, rfl, n, rfl⟩ := hrel
    by_cases hlt : k < l.length
    · obtain ⟨b, off, p, q, rfl, hz, hc, hc1⟩ := hA.ask_at hlt
      obtain ⟨b2, off2, rfl, hc2, hc3⟩ := hB.ask_of hz.out
      go_wp2
      go_quiet (fail)
      go_wp2
      go_roundw
      case rel => exact ⟨k + 1, by omega, by go_num, _, rfl⟩
      case measure => simp [intOf]; omega
    · go_wp2
      go_ret
      exact ⟨rfl, below_drawn _ _ _⟩

set_option maxHeartbeats 400000 in
theorem eqAsk_true (p q : Int) (w : World) : Calls Try.prog 52 #[av p q, av p q] w (RetB w true) := by
  have hb : Below w.heap.size w ((w.alloc (.cells #[.int .i64 p, .int .i64 q] 34)).alloc (.cells #[.int .i64 p, .int .i64 q] 34)) := ((Below.refl _ _).alloc (Nat.le_refl _) _).alloc (by simp) _
  go_enter Try.func52, Try.ntmps52
  go_wp2
  go_ret
  exact ⟨rfl, hb⟩

set_option maxHeartbeats 400000 in
theorem eqAskS_true (A B : Option Addr) (c d : Nat) (l : List AskT) (w : World) (hA : Cells w A (asks l)) (hB : Cells w B (asks l)) (hm : l.length ≤ 17592186044416) :
    Calls Try.prog 25 #[.slice A l.length c, .slice B l.length d] w (RetB w true) := by
  go_enter Try.func25, Try.ntmps25
  go_wp2
  go_loopw [5] (fun i wr => ∃ k : Nat, k ≤ l.length ∧ i = .int .i64 k ∧ Below w.heap.size w wr) (fun i _ => l.length - (intOf i).toNat)
  case atStart => exact ⟨0, Nat.zero_le _, rfl, Below.refl _ _⟩
  case round =>
    obtain ⟨k, hk, rfl, hbel⟩ := hrel
    by_cases hlt : k < l.length
    · obtain ⟨b, off, p, q, rfl, hz, hc, hc1⟩ := (hA.below hbel).ask_at hlt
      obtain ⟨b2, off2, rfl, hc2, hc3⟩ := (hB.below hbel).ask_of hz.out
      go_wp2
      go_region_held3 (fun w' => w'.cell? ⟨b, off + k * 2, none⟩ = some (.int .i64 p) ∧ w'.cell? ⟨b, off + k * 2 + 1, none⟩ = some (.int .i64 q) ∧ w'.cell? ⟨b2, off2 + k * 2, none⟩ = some (.int .i64 p) ∧ w'.cell? ⟨b2, off2 + k * 2 + 1, none⟩ = some (.int .i64 q)) ((first | exact ⟨hc, hc1, hc2, hc3⟩ | exact ⟨cell_later b5 hc, cell_later b5 hc1, cell_later b5 hc2, cell_later b5 hc3⟩)) ((go_at_call 52; refine (eqAsk_true _ _ _).mono ?_; rintro e w5 ⟨rfl, b5⟩))
      go_wp2
      go_roundw
      case rel => exact ⟨k + 1, by omega, by go_num, below_step hbel (below_step ((Below.refl _ _).drew) b5)⟩
      case measure => simp [intOf]; omega
    · go_wp2
      go_ret
      exact ⟨rfl, hbel⟩

end Go.Proofs.Ytjfpemneinclfaa
