/- RarePick. -/
import Derived.Test.YtckbpiapkooamaaR4
namespace Go.Proofs.Ytckbpiapkooamaa
open Go.RowKit

def rowAt (ps : List Bits) (p : Nat) : Bits := ps.getD p []
theorem rowAt_of {ps : List Bits} {p : Nat} {bs : Bits} (h : ps[p]? = some bs) : rowAt ps p = bs := by simp [rowAt, List.getD_eq_getElem?_getD, h]
/-- The first of a list that a row has, or -1. -/
def firstIn (bs : Bits) : List Int → Int
  | [] => -1
  | z :: r => if bitAt bs z.toNat then z else firstIn bs r
theorem firstIn_hit {bs : Bits} {L : List Int} {k : Nat} {z : Int} (h : ∀ y ∈ L.take k, bitAt bs y.toNat = false) (hz : L[k]? = some z) (hb : bitAt bs z.toNat = true) : firstIn bs L = z := by
  induction L generalizing k with
  | nil => simp at hz
  | cons a L ih =>
    rcases k with _ | k
    · simp at hz; subst hz; simp [firstIn, hb]
    · have h0 := h a (by simp)
      simp only [firstIn, h0, Bool.false_eq_true, if_false]
      exact ih (k := k) (fun y hy => h y (by simp [hy])) (by simpa using hz)
theorem firstIn_none {bs : Bits} {L : List Int} (h : ∀ y ∈ L, bitAt bs y.toNat = false) : firstIn bs L = -1 := by
  induction L with
  | nil => rfl
  | cons a L ih => simp only [firstIn, h a (by simp), Bool.false_eq_true, if_false]; exact ih fun y hy => h y (by simp [hy])
/-- What RarePick is to answer. -/
def pickG (ps : List Bits) (mine : Bits) (p : Int) : Int := if inB p 0 ((ps.length : Int) - 1) = true then firstIn (rowAt ps p.toNat) (orderG ps mine) else -1
theorem pickG_bad {ps : List Bits} {mine : Bits} {p : Int} (h : inB p 0 ((ps.length : Int) - 1) = false) : pickG ps mine p = -1 := by unfold pickG; rw [h]; rfl
theorem pickG_ok {ps : List Bits} {mine : Bits} {p : Nat} (h : inB p 0 ((ps.length : Int) - 1) = true) : pickG ps mine p = firstIn (rowAt ps p) (orderG ps mine) := by unfold pickG; rw [h]; rfl
theorem orderG_mem {ps : List Bits} {mine : Bits} {x : Int} (h : x ∈ orderG ps mine) : okB ps = true ∧ mine.length ≤ 16 ∧ ∃ b : Nat, b < 16 ∧ x = b ∧ bitAt mine b = false ∧ 0 < cnt ps b := by
  unfold orderG at h
  split at h
  · rename_i h1
    rw [Bool.and_eq_true] at h1
    obtain ⟨b, h2, h3, h4, h5, _⟩ := specTo_mem.1 h
    exact ⟨h1.1, of_decide_eq_true h1.2, b, h2, h3, h4, h5⟩
  · simp at h
theorem no_more_b {bs : Bits} {L : List Int} {k : Nat} {z : Int} (hz : L[k]? = some z) (h : ∀ y ∈ L.take k, bitAt bs y.toNat = false) (hn : bitAt bs z.toNat = false) : ∀ y ∈ L.take (k + 1), bitAt bs y.toNat = false := by
  rw [take_snoc _ _ _ hz]
  intro y hy
  rcases List.mem_append.1 hy with h1 | h1
  · exact h y h1
  · simp at h1; subst h1; exact hn
theorem orderG_len (ps : List Bits) (mine : Bits) : (orderG ps mine).length ≤ 16 := by
  unfold orderG
  split
  · rw [← order_eq]; unfold keyL; rw [isort_length]
    have := List.length_filter_le (fun i : Int => lack mine i.toNat && decide (0 < cnt ps i.toNat)) (idx 16)
    rw [idx_length] at this; exact this
  · simp

set_option maxHeartbeats 1000000 in
theorem implPick_any (A B : Option Addr) (c d : Nat) (ps : List Bits) (mine : Bits) (p : Int) (w : World) (hr : Mat w A ps) (hs : Small ps) (hmi : Cells w B (bools mine)) (hml : mine.length ≤ 17592186044416) :
    Calls Try.prog 32 #[.slice A ps.length c, .slice B mine.length d, .int .i64 p] w fun e w' => e = .returned (.int .i64 (pickG ps mine p)) ∧ Below w.heap.size w w' := by
  have hm : ps.length ≤ 1048576 := hs.1
  cases hi : inB p 0 ((ps.length : Int) - 1)
  · have hfin := hid (pickG_bad (mine := mine) hi)
    have hW := hid (within_any p 0 ((ps.length : Int) - 1) w)
    rw [hi] at hW
    clear hi hs
    go_enter Try.func32, Try.ntmps32
    go_wp2_with (go_at_call 47; refine hW.out.mono ?_; rintro e w' ⟨rfl, rfl⟩)
    go_ret
    exact ⟨ret_int hfin.out.symm, Below.refl _ _⟩
  · obtain ⟨q, rfl, hq⟩ := inB_nat hi
    have hql : q < ps.length := by omega
    have hfin := hid (pickG_ok (mine := mine) hi)
    have hW := hid (within_any q 0 ((ps.length : Int) - 1) w)
    rw [hi] at hW
    have hO := hid (implOrder_any A B c d ps mine w hr hs hmi hml)
    have hOl := orderG_len ps mine
    obtain ⟨L, hL⟩ : ∃ L, orderG ps mine = L := ⟨_, rfl⟩
    have hmem : Hid (∀ x ∈ L, ∃ b : Nat, b < 16 ∧ x = b) := by
      intro x hx; rw [← hL] at hx; obtain ⟨_, _, b, h1, h2, _⟩ := orderG_mem hx; exact ⟨b, h1, h2⟩
    rw [hL] at hO hfin hOl
    clear hi hs hL
    go_enter Try.func32, Try.ntmps32
    go_wp2_with fail
    refine hW.out.mono ?_; rintro e w' ⟨rfl, rfl⟩
    go_wp2_with fail
    refine hO.out.mono ?_; rintro e w1 ⟨A1, c1, rfl, o1, b1⟩
    have O1 := hid o1
    have hr1 := hr.below b1
    clear o1 hO hW
    obtain ⟨g, off, A', c', bs, rfl, hz, hcell, hrow⟩ := hr1.at_ hql
    rw [show rowAt ps q = bs from rowAt_of hz.out] at hfin
    go_wp2
    go_loop [19] (fun i => ∃ k : Nat, k ≤ L.length ∧ i = .int .i64 k ∧ Hid (∀ y ∈ L.take k, bitAt bs y.toNat = false)) (fun i => L.length - (intOf i).toNat)
    case atStart => exact ⟨0, Nat.zero_le _, rfl, by simp [Hid]⟩
    case round =>
      obtain ⟨k, hk, rfl, hall⟩ := hrel
      by_cases hlt : k < L.length
      · obtain ⟨z, hzL⟩ : ∃ z, L[k]? = some z := ⟨L[k], List.getElem?_eq_getElem hlt⟩
        obtain ⟨b, hb16, rfl⟩ := hmem.out z (List.mem_of_getElem? hzL)
        obtain ⟨g2, off2, rfl, hcz⟩ := O1.out.cells.int_of hzL
        have hB := hid (has_any A' c' bs b w1 hrow)
        cases hbit : bitAt bs b
        · have hn := hid (no_more_b hzL hall.out (by simpa using hbit))
          rw [hbit] at hB
          clear hbit hzL
          go_wp2_with (go_at_call 53; refine hB.out.mono ?_; rintro e w' ⟨rfl, rfl⟩)
          go_round
          case rel => exact ⟨k + 1, by omega, by go_num, hn⟩
          case measure => simp [intOf]; omega
        · have hfin2 := hid (hfin.out.trans (firstIn_hit hall.out hzL (by simpa using hbit)))
          rw [hbit] at hB
          clear hbit hzL
          go_wp2_with (go_at_call 53; refine hB.out.mono ?_; rintro e w' ⟨rfl, rfl⟩)
          go_ret
          exact ⟨ret_int hfin2.out.symm, b1⟩
      · have hfin2 := hid (hfin.out.trans (firstIn_none fun y hy => hall.out y (by rw [List.take_of_length_le (by omega)]; exact hy)))
        go_wp2
        go_ret
        exact ⟨ret_int hfin2.out.symm, b1⟩

set_option maxHeartbeats 1000000 in
theorem specPick_any (A B : Option Addr) (c d : Nat) (ps : List Bits) (mine : Bits) (p : Int) (w : World) (hr : Mat w A ps) (hs : Small ps) (hmi : Cells w B (bools mine)) (hml : mine.length ≤ 17592186044416) :
    Calls Try.prog 33 #[.slice A ps.length c, .slice B mine.length d, .int .i64 p] w fun e w' => e = .returned (.int .i64 (pickG ps mine p)) ∧ Below w.heap.size w w' := by
  have hm : ps.length ≤ 1048576 := hs.1
  have hO := hid (specOrder_any A B c d ps mine w hr hs hmi hml)
  have hOl := orderG_len ps mine
  obtain ⟨L, hL⟩ : ∃ L, orderG ps mine = L := ⟨_, rfl⟩
  have hmem : Hid (∀ x ∈ L, ∃ b : Nat, b < 16 ∧ x = b) := by
    intro x hx; rw [← hL] at hx; obtain ⟨_, _, b, h1, h2, _⟩ := orderG_mem hx; exact ⟨b, h1, h2⟩
  have HL := hid hL
  rw [hL] at hO hOl
  clear hL
  cases hi : inB p 0 ((ps.length : Int) - 1)
  · have hfin := hid (pickG_bad (mine := mine) hi)
    have hW := hid (fun W => l6In_any p 0 ((ps.length : Int) - 1) W)
    rw [hi] at hW
    clear hi hs
    by_cases h0 : 0 < L.length
    · go_enter Try.func33, Try.ntmps33
      go_wp2_with fail
      refine hO.out.mono ?_; rintro e w1 ⟨A1, c1, rfl, -, b1⟩
      go_wp2
      go_loop [8] (fun i => i = .int .i64 0) (fun i => 0)
      case atStart => rfl
      case round =>
        subst hrel
        go_wp2_with (go_at_call 44; refine (hW.out _).mono ?_; rintro e w' ⟨rfl, rfl⟩)
        go_ret
        exact ⟨ret_int hfin.out.symm, b1⟩
    · have h00 : L.length = 0 := by omega
      have hnil := hid (List.eq_nil_of_length_eq_zero h00)
      clear h00
      go_enter Try.func33, Try.ntmps33
      go_wp2_with fail
      refine hO.out.mono ?_; rintro e w1 ⟨A1, c1, rfl, -, b1⟩
      go_wp2
      go_loop [8] (fun i => i = .int .i64 0) (fun i => 0)
      case atStart => rfl
      case round =>
        subst hrel
        go_wp2
        go_ret
        exact ⟨ret_int hfin.out.symm, b1⟩
  · obtain ⟨q, rfl, hq⟩ := inB_nat hi
    have hql : q < ps.length := by omega
    have hfin := hid ((pickG_ok (mine := mine) hi).trans (by rw [HL.out]))
    have hW := hid (fun W => l6In_any q 0 ((ps.length : Int) - 1) W)
    rw [hi] at hW
    clear hi hs
    go_enter Try.func33, Try.ntmps33
    go_wp2_with fail
    refine hO.out.mono ?_; rintro e w1 ⟨A1, c1, rfl, o1, b1⟩
    have O1 := hid o1
    have hr1 := hr.below b1
    clear o1 hO
    obtain ⟨g, off, A', c', bs, rfl, hz, hcell, hrow⟩ := hr1.at_ hql
    rw [show rowAt ps q = bs from rowAt_of hz.out] at hfin
    go_wp2
    go_loopw [8] (fun i wr => ∃ k : Nat, k ≤ L.length ∧ i = .int .i64 k ∧ Hid (∀ y ∈ L.take k, bitAt bs y.toNat = false) ∧ Below w1.heap.size w1 wr) (fun i _ => L.length - (intOf i).toNat)
    case atStart => exact ⟨0, Nat.zero_le _, rfl, by simp [Hid], Below.refl _ _⟩
    case round =>
      obtain ⟨k, hk, rfl, hall, hbel⟩ := hrel
      have hcell2 := cell_later hbel hcell
      have hrow2 := hid (hrow.below hbel)
      have O2 := hid (O1.out.below hbel)
      have t2 := below_step b1 hbel
      by_cases hlt : k < L.length
      · obtain ⟨z, hzL⟩ : ∃ z, L[k]? = some z := ⟨L[k], List.getElem?_eq_getElem hlt⟩
        obtain ⟨b, hb16, rfl⟩ := hmem.out z (List.mem_of_getElem? hzL)
        obtain ⟨g2, off2, rfl, hcz⟩ := O2.out.cells.int_of hzL
        cases hbit : bitAt bs b
        · have hB := hid (fun (n2 : Nat) => (l4At_any A' c' bs b (wr.drewN n2) (hrow2.out.drewN n2)).mono fun e w' ⟨he, hw⟩ => (show e = Ending.returned (.bool false) ∧ w' = wr.drewN n2 from ⟨by rw [he, hbit], hw.symm⟩))
          have hn := hid (no_more_b hzL hall.out (by simpa using hbit))
          clear hbit hzL
          go_wp2_with (go_at_call 44; refine (hW.out _).mono ?_; rintro e w' ⟨rfl, rfl⟩)
          go_quiet ((go_at_call 56; exact Calls.quiet_of_same (hB.out _)))
          go_wp2
          go_roundw
          case rel => exact ⟨k + 1, by omega, by go_num, hn, below_drewN hbel _⟩
          case measure => simp [intOf]; omega
        · have hB := hid (fun (n2 : Nat) => (l4At_any A' c' bs b (wr.drewN n2) (hrow2.out.drewN n2)).mono fun e w' ⟨he, hw⟩ => (show e = Ending.returned (.bool true) ∧ w' = wr.drewN n2 from ⟨by rw [he, hbit], hw.symm⟩))
          have hfin2 := hid (hfin.out.trans (firstIn_hit hall.out hzL (by simpa using hbit)))
          clear hbit hzL
          go_wp2_with (go_at_call 44; refine (hW.out _).mono ?_; rintro e w' ⟨rfl, rfl⟩)
          go_quiet ((go_at_call 56; exact Calls.quiet_of_same (hB.out _)))
          go_wp2
          go_ret
          exact ⟨ret_int hfin2.out.symm, below_drewN t2 _⟩
      · have hfin2 := hid (hfin.out.trans (firstIn_none fun y hy => hall.out y (by rw [List.take_of_length_le (by omega)]; exact hy)))
        go_wp2
        go_ret
        exact ⟨ret_int hfin2.out.symm, t2⟩

end Go.Proofs.Ytckbpiapkooamaa
