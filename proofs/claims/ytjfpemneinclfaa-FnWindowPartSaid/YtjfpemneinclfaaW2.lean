/- Requests: tests and membership. -/
import Derived.Test.YtjfpemneinclfaaW1
namespace Go.Proofs.Ytjfpemneinclfaa
open Go.RowKit

def askB (a : AskT) : Bool := inB a.1 0 5 && inB a.2 0 15
def RetBB (w : World) (b : Bool) (e : Ending) (w' : World) : Prop := e = .returned (.bool b) ∧ Below w.heap.size w w'
abbrev av (p q : Int) : Value := .agg #[.int .i64 p, .int .i64 q]

set_option maxHeartbeats 400000 in
theorem l21Ask_any (p q : Int) (w : World) : Calls Try.prog 44 #[av p q] w (RetB w (askB (p, q))) := by
  have hb : Below w.heap.size w (w.alloc (.cells #[.int .i64 p, .int .i64 q] 34)) := (Below.refl _ _).alloc (Nat.le_refl _) _
  cases h1 : inB p 0 5
  · have hfin := hid (show askB (p, q) = false by simp [askB, h1])
    go_enter Try.func44, Try.ntmps44
    go_wp2_with (go_at_call 53; refine (l6In_any _ _ _ _).mono ?_; rintro e w' ⟨rfl, rfl⟩)
    go_ret
    exact ⟨ret_bool hfin.out.symm, hb⟩
  · have hfin := hid (show askB (p, q) = inB q 0 15 by simp [askB, h1])
    go_enter Try.func44, Try.ntmps44
    go_wp2_with (go_at_call 53; refine (l6In_any _ _ _ _).mono ?_; rintro e w' ⟨rfl, rfl⟩)
    go_ret
    exact ⟨ret_bool hfin.out.symm, hb⟩

set_option maxHeartbeats 400000 in
theorem isPeer_any (n : Int) (w : World) : Calls Try.prog 54 #[.int .i64 n] w fun e w' => e = .returned (.bool (inB n 0 5)) ∧ w = w' := by
  go_enter Try.func54, Try.ntmps54
  go_wp2_with (go_at_call 63; refine (within_any _ _ _ _).mono ?_; rintro e w' ⟨rfl, rfl⟩)
  go_ret
  exact ⟨rfl, rfl⟩

set_option maxHeartbeats 400000 in
theorem askValid_any (p q : Int) (w : World) : Calls Try.prog 48 #[av p q] w (RetB w (askB (p, q))) := by
  have hb : Below w.heap.size w (w.alloc (.cells #[.int .i64 p, .int .i64 q] 34)) := (Below.refl _ _).alloc (Nat.le_refl _) _
  cases h1 : inB p 0 5
  · have hfin := hid (show askB (p, q) = false by simp [askB, h1])
    go_enter Try.func48, Try.ntmps48
    go_wp2_with (first | (go_at_call 63; refine (within_any _ _ _ _).mono ?_; rintro e w' ⟨rfl, rfl⟩) | (go_at_call 54; refine (isPeer_any _ _).mono ?_; rintro e w' ⟨rfl, rfl⟩))
    go_ret
    exact ⟨ret_bool hfin.out.symm, hb⟩
  · have hfin := hid (show askB (p, q) = inB q 0 15 by simp [askB, h1])
    go_enter Try.func48, Try.ntmps48
    go_wp2_with (first | (go_at_call 63; refine (within_any _ _ _ _).mono ?_; rintro e w' ⟨rfl, rfl⟩) | (go_at_call 54; refine (isPeer_any _ _).mono ?_; rintro e w' ⟨rfl, rfl⟩))
    go_ret
    exact ⟨ret_bool hfin.out.symm, hb⟩

def hasA (l : List AskT) (a : AskT) : Bool := l.any fun b => b == a
theorem hasA_iff {l : List AskT} {a : AskT} : hasA l a = true ↔ a ∈ l := by
  unfold hasA; rw [List.any_eq_true]
  constructor
  · rintro ⟨b, hb, h⟩; rw [beq_iff_eq] at h; subst h; exact hb
  · intro h; exact ⟨a, h, by simp⟩
theorem hasA_yes {l : List AskT} {a : AskT} {k : Nat} (h : l[k]? = some a) : hasA l a = true := hasA_iff.2 (List.mem_of_getElem? h)
theorem hasA_no {l : List AskT} {a : AskT} (h : ∀ z ∈ l, z ≠ a) : hasA l a = false := by
  cases hh : hasA l a
  · rfl
  · exact (h a (hasA_iff.1 hh) rfl).elim
theorem no_more {l : List AskT} {a : AskT} {k : Nat} {p q : Int} (hz : l[k]? = some (p, q)) (h : ∀ z ∈ l.take k, z ≠ a) (hn : (p, q) ≠ a) : ∀ z ∈ l.take (k + 1), z ≠ a := by
  rw [take_snoc _ _ _ hz]
  intro y hy
  rcases List.mem_append.1 hy with h1 | h1
  · exact h y h1
  · simp at h1; subst h1; exact hn

set_option maxHeartbeats 400000 in
theorem l21Has_any (A : Option Addr) (c : Nat) (l : List AskT) (x y : Int) (w : World) (hr : Cells w A (asks l)) (hm : l.length ≤ 17592186044416) :
    Calls Try.prog 45 #[.slice A l.length c, av x y] w (RetB w (hasA l (x, y))) := by
  have hb : Below w.heap.size w (w.alloc (.cells #[.int .i64 x, .int .i64 y] 34)) := (Below.refl _ _).alloc (Nat.le_refl _) _
  have hr0 := hr.below hb
  have hq := Blk.new w 34 [.int .i64 x, .int .i64 y]
  have hq0 := hq.cell 0
  have hq1 := hq.cell 1
  simp only [List.getElem?_cons_zero, List.getElem?_cons_succ] at hq0 hq1
  clear hq
  go_enter Try.func45, Try.ntmps45
  go_wp2
  go_loopw [5] (fun i wr => ∃ k : Nat, k ≤ l.length ∧ i = .int .i64 k ∧ Hid (∀ z ∈ l.take k, z ≠ (x, y)) ∧ ∃ n, wr = (w.alloc (.cells #[.int .i64 x, .int .i64 y] 34)).drewN n) (fun i _ => l.length - (intOf i).toNat)
  case atStart => exact ⟨0, Nat.zero_le _, rfl, by simp [Hid], 0, rfl⟩
  case round =>
    obtain ⟨k, hk, rfl, hall, n, rfl⟩ := hrel
    by_cases hlt : k < l.length
    · obtain ⟨b, off, p, q, rfl, hz, hc, hc1⟩ := hr0.ask_at hlt
      by_cases hpx : p = x
      · subst hpx
        by_cases hqy : q = y
        · subst hqy
          go_wp2
          go_quiet (fail)
          go_wp2
          go_ret
          exact ⟨ret_bool (hasA_yes hz.out).symm, below_drewN (below_drewN hb _) _⟩
        · have hn := hid (no_more hz.out hall.out (fun h => hqy (Prod.mk.inj h).2))
          have hb1 : (q == y) = false := by rw [beq_eq_false_iff_ne]; exact hqy
          have hb2 : (y == q) = false := by rw [beq_eq_false_iff_ne]; exact fun h => hqy h.symm
          clear hqy
          go_wp2
          go_quiet (fail)
          go_wp2
          go_roundw
          case rel => exact ⟨k + 1, by omega, by go_num, hn, _, rfl⟩
          case measure => simp [intOf]; omega
      · have hn := hid (no_more hz.out hall.out (fun h => hpx (Prod.mk.inj h).1))
        have hb1 : (p == x) = false := by rw [beq_eq_false_iff_ne]; exact hpx
        have hb2 : (x == p) = false := by rw [beq_eq_false_iff_ne]; exact fun h => hpx h.symm
        clear hpx
        go_wp2
        go_quiet (fail)
        go_wp2
        go_roundw
        case rel => exact ⟨k + 1, by omega, by go_num, hn, _, rfl⟩
        case measure => simp [intOf]; omega
    · go_wp2
      go_ret
      exact ⟨ret_bool (hasA_no (fun z hz => hall.out z (by rw [List.take_of_length_le (by omega)]; exact hz))).symm, below_drewN hb _⟩

set_option maxHeartbeats 400000 in
theorem hasAsk_any (A : Option Addr) (c : Nat) (l : List AskT) (x y : Int) (w : World) (hr : Cells w A (asks l)) (hm : l.length ≤ 17592186044416) :
    Calls Try.prog 39 #[.slice A l.length c, av x y] w (RetB w (hasA l (x, y))) := by
  have hb : Below w.heap.size w (w.alloc (.cells #[.int .i64 x, .int .i64 y] 34)) := (Below.refl _ _).alloc (Nat.le_refl _) _
  have hr0 := hr.below hb
  have hq := Blk.new w 34 [.int .i64 x, .int .i64 y]
  have hq0 := hq.cell 0
  have hq1 := hq.cell 1
  simp only [List.getElem?_cons_zero, List.getElem?_cons_succ] at hq0 hq1
  clear hq
  go_enter Try.func39, Try.ntmps39
  go_wp2
  go_loopw [5] (fun i wr => ∃ k : Nat, k ≤ l.length ∧ i = .int .i64 k ∧ Hid (∀ z ∈ l.take k, z ≠ (x, y)) ∧ ∃ n, wr = (w.alloc (.cells #[.int .i64 x, .int .i64 y] 34)).drewN n) (fun i _ => l.length - (intOf i).toNat)
  case atStart => exact ⟨0, Nat.zero_le _, rfl, by simp [Hid], 0, rfl⟩
  case round =>
    obtain ⟨k, hk, rfl, hall, n, rfl⟩ := hrel
    by_cases hlt : k < l.length
    · obtain ⟨b, off, p, q, rfl, hz, hc, hc1⟩ := hr0.ask_at hlt
      by_cases hpx : p = x
      · subst hpx
        by_cases hqy : q = y
        · subst hqy
          go_wp2
          go_quiet (fail)
          go_wp2
          go_ret
          exact ⟨ret_bool (hasA_yes hz.out).symm, below_drewN (below_drewN hb _) _⟩
        · have hn := hid (no_more hz.out hall.out (fun h => hqy (Prod.mk.inj h).2))
          have hb1 : (q == y) = false := by rw [beq_eq_false_iff_ne]; exact hqy
          have hb2 : (y == q) = false := by rw [beq_eq_false_iff_ne]; exact fun h => hqy h.symm
          clear hqy
          go_wp2
          go_quiet (fail)
          go_wp2
          go_roundw
          case rel => exact ⟨k + 1, by omega, by go_num, hn, _, rfl⟩
          case measure => simp [intOf]; omega
      · have hn := hid (no_more hz.out hall.out (fun h => hpx (Prod.mk.inj h).1))
        have hb1 : (p == x) = false := by rw [beq_eq_false_iff_ne]; exact hpx
        have hb2 : (x == p) = false := by rw [beq_eq_false_iff_ne]; exact fun h => hpx h.symm
        clear hpx
        go_wp2
        go_quiet (fail)
        go_wp2
        go_roundw
        case rel => exact ⟨k + 1, by omega, by go_num, hn, _, rfl⟩
        case measure => simp [intOf]; omega
    · go_wp2
      go_ret
      exact ⟨ret_bool (hasA_no (fun z hz => hall.out z (by rw [List.take_of_length_le (by omega)]; exact hz))).symm, below_drewN hb _⟩

end Go.Proofs.Ytjfpemneinclfaa
