/- spec.RareOrder. -/
import Derived.Test.YtckbpiapkooamaaR2
import Derived.Test.YtckbpiapkooamaaSortF
namespace Go.Proofs.Ytckbpiapkooamaa
open Go.RowKit

/-- 0, 1, .. up to (not with) n. -/
def idx (n : Nat) : List Int := (List.range n).map Int.ofNat
theorem idx_length (n : Nat) : (idx n).length = n := by simp [idx]
theorem idx_snoc (k : Nat) : idx (k + 1) = idx k ++ [(k : Int)] := by simp [idx, List.range_succ]
theorem idx_mem {n : Nat} {x : Int} : x ∈ idx n ↔ ∃ k : Nat, k < n ∧ x = k := by simp [idx, eq_comm]
theorem idx_asc (n : Nat) : (idx n).Pairwise (· < ·) := by
  induction n with
  | zero => simp [idx]
  | succ n ih =>
    rw [idx_snoc, List.pairwise_append]
    refine ⟨ih, by simp, fun a ha b hb => ?_⟩
    obtain ⟨k, hk, rfl⟩ := idx_mem.1 ha
    simp at hb; subst hb; omega

def lack (mine : Bits) (b : Nat) : Bool := !bitAt mine b
def pickB (ps : List Bits) (mine : Bits) (n b : Nat) : Bool := lack mine b && (cnt ps b == n)
/-- The blocks of n holders below k. -/
def rowTo (ps : List Bits) (mine : Bits) (n k : Nat) : List Int := (idx k).filter fun i => pickB ps mine n i.toNat
def specTo (ps : List Bits) (mine : Bits) : Nat → List Int
  | 0 => []
  | n + 1 => specTo ps mine n ++ rowTo ps mine (n + 1) 16
theorem rowTo_snoc {ps : List Bits} {mine : Bits} {n k : Nat} {v : Bool} (h : pickB ps mine n k = v) : rowTo ps mine n (k + 1) = rowTo ps mine n k ++ (if v then [(k : Int)] else []) := by
  unfold rowTo; rw [idx_snoc, List.filter_append]; congr 1
  cases v <;> simp [h]

theorem rowTo_yes {ps : List Bits} {mine : Bits} {n k : Nat} (h : pickB ps mine n k = true) : rowTo ps mine n (k + 1) = rowTo ps mine n k ++ [(k : Int)] := by rw [rowTo_snoc h]; rfl
theorem rowTo_no {ps : List Bits} {mine : Bits} {n k : Nat} (h : pickB ps mine n k = false) : rowTo ps mine n (k + 1) = rowTo ps mine n k := by rw [rowTo_snoc h]; simp
/-- What RareOrder is to answer. -/
def orderG (ps : List Bits) (mine : Bits) : List Int := if (okB ps && decide (mine.length ≤ 16)) = true then specTo ps mine ps.length else []
theorem orderG_bad {ps : List Bits} {mine : Bits} (h : (okB ps && decide (mine.length ≤ 16)) = false) : orderG ps mine = [] := by unfold orderG; rw [h]; rfl
theorem orderG_ok {ps : List Bits} {mine : Bits} (h : okB ps = true) (h2 : mine.length ≤ 16) : orderG ps mine = specTo ps mine ps.length := by unfold orderG; rw [h, decide_eq_true h2]; rfl

def RetL (w : World) (L : List Int) (e : Ending) (w' : World) : Prop :=
  ∃ A c, e = .returned (.slice A L.length c) ∧ Own w' w.heap.size w'.heap.size 3 1 A c L.length (ints L) ∧ Below w.heap.size w w'
theorem retL_of {w w' : World} {L : List Int} {A : Option Addr} {c m : Nat} (hm : m = L.length) (ho : Own w' w.heap.size w'.heap.size 3 1 A c m (ints L)) (hb : Below w.heap.size w w') : RetL w L (.returned (.slice A m c)) w' := by
  subst hm; exact ⟨A, c, rfl, ho, hb⟩
theorem own_nil (w : World) (base hi : Nat) (e : TypeId) (size : Nat) : Own w base hi e size none 0 0 [] := ⟨⟨by simp, .inl ⟨rfl, rfl⟩⟩, fun _ h => by cases h⟩

set_option maxHeartbeats 1000000 in
theorem specOrder_any (A B : Option Addr) (c d : Nat) (ps : List Bits) (mine : Bits) (w : World) (hr : Mat w A ps) (hs : Small ps) (hmi : Cells w B (bools mine)) (hml : mine.length ≤ 17592186044416) :
    Calls Try.prog 29 #[.slice A ps.length c, .slice B mine.length d] w (RetL w (orderG ps mine)) := by
  have hm : ps.length ≤ 17592186044416 := by have := hs.1; omega
  have b0 : Below w.heap.size w (w.alloc (.cells #[] 3)) := (Below.refl _ _).alloc (Nat.le_refl _) _
  have hV := hid (l22Peers_any A c ps _ (hr.below b0) hm (fun bs hb => by have := hs.2 bs hb; omega))
  cases hv : okB ps
  · have hfin := hid (orderG_bad (ps := ps) (mine := mine) (by rw [hv]; rfl))
    rw [hv] at hV
    clear hv hs
    go_enter Try.func29, Try.ntmps29
    go_wp2_with (go_at_call 43; refine hV.out.mono ?_; rintro e w1 ⟨rfl, rfl⟩)
    go_ret
    exact retL_of (by rw [hfin.out]; rfl) (by rw [hfin.out]; exact Own.of_row (own_empty _ _ _ (Nat.le_refl _))) b0
  · rw [hv] at hV
    by_cases hi : mine.length ≤ 16
    · have hfin := hid (orderG_ok hv hi)
      have h6 := (okB_len hv).1
      have hd : decide ((16 : Int) < (mine.length : Int)) = false := by simp; omega
      clear hv hs
      go_enter Try.func29, Try.ntmps29
      go_wp2_with (go_at_call 43; refine hV.out.mono ?_; rintro e w1 ⟨rfl, rfl⟩)
      clear hV b0
      go_loopw [5, 6, 7] (fun out sn _ wr => ∃ (n : Nat) (A' : Option Addr) (c' m : Nat), n ≤ ps.length ∧ sn = .int .i64 ((n : Int) + 1) ∧ out = .slice A' m c' ∧ m ≤ 16 * n ∧ Hid ((specTo ps mine n).length = m) ∧ Hid (wr.ownsRow w.heap.size 3 1 (.slice A' m c') m (ints (specTo ps mine n))) ∧ Below w.heap.size w wr) (fun _ sn _ _ => ps.length + 1 - (intOf sn).toNat)
      case atStart => exact ⟨0, _, _, 0, Nat.zero_le _, by simp, rfl, Nat.le_refl _, rfl, own_empty w 3 1 (Nat.le_refl _), (Below.refl _ _).alloc (Nat.le_refl _) _⟩
      case round =>
        obtain ⟨n, A', c', m, hn, rfl, rfl, hmn, hlen, own, hb⟩ := hrel
        by_cases hlt : n < ps.length
        · have e1 : decide ((n : Int) + 1 ≤ (ps.length : Int)) = true := by simp; omega
          go_wp2_with fail
          obtain ⟨wo, rfl⟩ : ∃ wo : World, wo = wr := ⟨_, rfl⟩
          go_loopw [5, 7] (fun out sk wr => ∃ (k : Nat) (A2 : Option Addr) (c2 m2 : Nat), k ≤ 16 ∧ sk = .int .i64 k ∧ out = .slice A2 m2 c2 ∧ m2 ≤ 16 * n + k ∧ Hid ((specTo ps mine n ++ rowTo ps mine (n + 1) k).length = m2) ∧ Hid (wr.ownsRow w.heap.size 3 1 (.slice A2 m2 c2) m2 (ints (specTo ps mine n ++ rowTo ps mine (n + 1) k))) ∧ Below w.heap.size w wr) (fun _ sk _ => 16 - (intOf sk).toNat)
          case atStart => exact ⟨0, A', c', m, Nat.zero_le _, rfl, rfl, by omega, by unfold Hid; simp [rowTo, idx]; exact hlen.out, by unfold Hid; simp [rowTo, idx]; exact own.out, hb⟩
          case round =>
            clear own hlen hb hmn
            obtain ⟨k, A2, c2, m2, hk, rfl, rfl, hm2, hlen, own, hb⟩ := hrel
            have hsz := hb.size
            by_cases hk16 : k < 16
            · have hB := hid (l4At_any B d mine k wr (hmi.below hb))
              have hC := hid (l22Count_any A c ps k wr (hr.below hb) hm)
              cases hbit : bitAt mine k
              · rw [hbit] at hB
                by_cases hcn : cnt ps k = n + 1
                · have hst := hid (rowTo_yes (ps := ps) (mine := mine) (n := n + 1) (k := k) (by simp [pickB, lack, hbit, hcn]))
                  have e2 : ((((n + 1 : Nat) : Int)) == (n : Int) + 1) = true := by rw [beq_iff_eq]; rfl
                  rw [hcn] at hC
                  clear hcn hbit
                  go_wp2_with (first | (go_at_call 56; refine hB.out.mono ?_; rintro e w' ⟨rfl, rfl⟩) | (go_at_call 45; refine hC.out.mono ?_; rintro e w' ⟨rfl, rfl⟩) | (at_builtin; refine wpList_app rfl (.tmp 39) (.tmp 41) 35 rfl w.heap.size Try.underlying35 info_int rfl (by omega) (by omega) A2 m2 c2 _ rfl (own.out.alloc _) (some ⟨wr.heap.size, 0, none⟩) 1 1 [.int .i64 (k : Int)] rfl rfl (cells_one _ _ _) (one_int _) (m2 + 1) _ rfl (ints_snoc _ _) (by omega) (by simp; omega) ?_; intro A3 c3 w5 ho5 hb5))
                  go_roundw
                  case rel => exact ⟨k + 1, A3, c3, m2 + 1, by omega, by go_num, rfl, by omega, by unfold Hid; rw [hst.out, ← List.append_assoc, List.length_append, hlen.out]; rfl, by unfold Hid; rw [hst.out, ← List.append_assoc]; exact ho5, (hb.alloc hsz _).trans hb5⟩
                  case measure => simp [intOf]; omega
                · have hst := hid (rowTo_no (ps := ps) (mine := mine) (n := n + 1) (k := k) (by simp [pickB, lack, hbit, hcn]))
                  have e2 : ((cnt ps k : Int) == (n : Int) + 1) = false := by rw [beq_eq_false_iff_ne]; omega
                  clear hcn hbit
                  go_wp2_with (first | (go_at_call 56; refine hB.out.mono ?_; rintro e w' ⟨rfl, rfl⟩) | (go_at_call 45; refine hC.out.mono ?_; rintro e w' ⟨rfl, rfl⟩))
                  go_roundw
                  case rel => exact ⟨k + 1, A2, c2, m2, by omega, by go_num, rfl, by omega, by unfold Hid; rw [hst.out]; exact hlen.out, by unfold Hid; rw [hst.out]; exact own.out, hb⟩
                  case measure => simp [intOf]; omega
              · rw [hbit] at hB
                have hst := hid (rowTo_no (ps := ps) (mine := mine) (n := n + 1) (k := k) (by simp [pickB, lack, hbit]))
                clear hbit
                go_wp2_with (go_at_call 56; refine hB.out.mono ?_; rintro e w' ⟨rfl, rfl⟩)
                go_roundw
                case rel => exact ⟨k + 1, A2, c2, m2, by omega, by go_num, rfl, by omega, by unfold Hid; rw [hst.out]; exact hlen.out, by unfold Hid; rw [hst.out]; exact own.out, hb⟩
                case measure => simp [intOf]; omega
            · obtain rfl : k = 16 := by omega
              clear hk16
              go_wp2_with fail
              go_roundw
              case rel => exact ⟨n + 1, A2, c2, m2, by omega, by go_num, rfl, by omega, hlen, own, hb⟩
              case measure => simp [intOf]; omega
        · obtain rfl : n = ps.length := by omega
          have e1 : decide ((ps.length : Int) + 1 ≤ (ps.length : Int)) = false := by rw [decide_eq_false_iff_not]; omega
          clear hlt
          go_wp2_with fail
          go_ret
          exact retL_of (by rw [hfin.out]; exact hlen.out.symm) (by rw [hfin.out]; exact Own.of_row own.out) hb
    · have hfin := hid (orderG_bad (ps := ps) (mine := mine) (by rw [decide_eq_false hi]; simp))
      have hd : decide ((16 : Int) < (mine.length : Int)) = true := by simp; omega
      clear hv hs hi
      go_enter Try.func29, Try.ntmps29
      go_wp2_with (go_at_call 43; refine hV.out.mono ?_; rintro e w1 ⟨rfl, rfl⟩)
      go_ret
      exact retL_of (by rw [hfin.out]; rfl) (by rw [hfin.out]; exact Own.of_row (own_empty _ _ _ (Nat.le_refl _))) b0

end Go.Proofs.Ytckbpiapkooamaa
