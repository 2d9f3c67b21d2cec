/- Contracts of the library's sorts, at lengths where they are insertion sorts. -/
import Derived.Test.YtpnahccmdebifaaC1
import Derived.Test.YtpnahccmdebifaaPlain
namespace Go.Proofs.Ytpnahccmdebifaa
open Go.RowKit

def lessI (a b : Int) : Bool := decide (a < b)

set_option maxHeartbeats 400000 in
theorem isNaN_any (x : Int) (w : World) : Calls Try.prog 59 #[.int .i64 x] w fun e w' => e = .returned (.bool false) ∧ w = w' := by
  go_enter Try.func59, Try.ntmps59
  go_wp2
  go_ret
  exact ⟨rfl, rfl⟩

set_option maxHeartbeats 400000 in
theorem less_any (x y : Int) (w : World) : Calls Try.prog 43 #[.int .i64 x, .int .i64 y] w fun e w' => e = .returned (.bool (lessI x y)) ∧ w' = w := by
  go_enter Try.func43, Try.ntmps43
  go_wp2_with (go_at_call 59; refine (isNaN_any _ _).mono ?_; rintro e w' ⟨rfl, rfl⟩)
  all_goals go_ret
  all_goals (refine ⟨?_, rfl⟩; unfold lessI; simp_all)

set_option maxHeartbeats 1000000 in
theorem insOrd_any (A : Option Addr) (c lo hi : Nat) (l : List Int) (w : World) (ho : Own w lo hi 3 1 A c l.length (ints l)) (hm : l.length ≤ 12) :
    Calls Try.prog 37 #[.slice A l.length c, .int .i64 0, .int .i64 l.length] w fun e w' => e = .returned (.tuple #[]) ∧ Own w' lo hi 3 1 A c l.length (ints (isort lessI l l.length)) ∧ Chg lo hi w w' := by
  go_enter Try.func37, Try.ntmps37
  go_wp2
  go_loopw [6] (fun i wr => ∃ k : Nat, 1 ≤ k ∧ (k ≤ l.length ∨ k = 1) ∧ i = .int .i64 k ∧ Own wr lo hi 3 1 A c l.length (ints (isort lessI l k)) ∧ Chg lo hi w wr) (fun i _ => l.length - (intOf i).toNat)
  case atStart => exact ⟨1, Nat.le_refl _, .inr rfl, rfl, by simpa [isort, sink] using ho, Chg.refl _ _ _⟩
  case round =>
    obtain ⟨k, hk1, hk, rfl, ho1, hch⟩ := hrel
    by_cases hlt : k < l.length
    · have ho2 := hid ho1
      clear ho1 ho
      obtain ⟨T, hT⟩ : ∃ T, T = isort lessI l (k + 1) := ⟨_, rfl⟩
      have hT2 : Hid (sink lessI (isort lessI l k) k = T) := hT.symm
      have hM : Hid ((isort lessI l k).length = l.length) := isort_length _ _ _
      generalize isort lessI l k = M0 at ho2 hT2 hM
      have hT3 := hid hT
      clear hT
      go_wp2
      obtain ⟨wo, rfl⟩ : ∃ wo : World, wo = wr := ⟨_, rfl⟩
      go_loopw [7] (fun j wr => ∃ (q : Nat) (M : List Int), q ≤ k ∧ j = .int .i64 q ∧ Hid (M.length = l.length) ∧ Hid (Own wr lo hi 3 1 A c l.length (ints M)) ∧ Hid (sink lessI M q = T) ∧ Chg lo hi w wr) (fun j _ => (intOf j).toNat)
      case atStart => exact ⟨k, M0, Nat.le_refl _, rfl, hM, ho2, hT2, hch⟩
      case round =>
        obtain ⟨q, M, hq, rfl, hM1, hoM, hTM, hch2⟩ := hrel
        by_cases hq0 : 0 < q
        · obtain ⟨r, rfl⟩ : ∃ r, q = r + 1 := ⟨q - 1, by omega⟩
          obtain ⟨x, hx⟩ : ∃ x, M[r]? = some x := ⟨M[r]'(by rw [hM1.out]; omega), List.getElem?_eq_getElem _⟩
          obtain ⟨y, hy⟩ : ∃ y, M[r + 1]? = some y := ⟨M[r + 1]'(by rw [hM1.out]; omega), List.getElem?_eq_getElem _⟩
          obtain ⟨g, rfl, hlo, hhi, cx, fx⟩ := hoM.out.int_of hx
          obtain ⟨g', hg', _, _, cy, fy⟩ := hoM.out.int_of hy
          injection hg' with hg'
          injection hg' with hg'
          subst hg'
          have hx2 := hid hx
          have hy2 := hid hy
          clear hx hy
          cases hl : lessI y x
          · have hMT : Hid (M = T) := by rw [← hTM.out]; exact (sink_stop M r x y hx2.out hy2.out lessI hl).symm
            clear hTM
            go_wp2
            go_quiet ((go_at_call 43; exact Calls.quiet_of_same (less_any _ _ _)))
            go_wp2
            go_roundw
            case rel => exact ⟨k + 1, by omega, .inl (by omega), by go_num, by rw [← hT3.out, ← hMT.out]; exact hoM.out.drewN _, hch2.drewN _⟩
            case measure => simp [intOf]; omega
          · have hMT : Hid (sink lessI ((M.set (r + 1) x).set r y) r = T) := by rw [← hTM.out]; exact (swap_eq M r x y hx2.out hy2.out lessI hl).symm
            clear hTM
            go_wp2
            go_quiet ((go_at_call 43; exact Calls.quiet_of_same (less_any _ _ _)))
            go_wp2
            go_region
            go_wp2
            go_roundw
            case rel =>
              refine ⟨r, (M.set (r + 1) x).set r y, by omega, rfl, by unfold Hid; rw [List.length_set, List.length_set, hM1.out], ?_, hMT, ((hch2.drewN _).trans (chg_set _ hlo hhi _ _)).trans (chg_set _ hlo hhi _ _)⟩
              unfold Hid
              rw [← ints_set, ← ints_set]
              exact ((hoM.out.drewN _).set _ _).set _ _
            case measure => simp [intOf]
        · obtain rfl : q = 0 := by omega
          have hMT : Hid (M = T) := hTM
          clear hTM
          go_wp2
          go_quiet (fail)
          go_wp2
          go_roundw
          case rel => exact ⟨k + 1, by omega, .inl (by omega), by go_num, by rw [← hT3.out, ← hMT.out]; exact hoM.out.drewN _, hch2.drewN _⟩
          case measure => simp [intOf]; omega
    · have hfin : Hid (isort lessI l k = isort lessI l l.length) := by
        rcases hk with h | h
        · obtain rfl : k = l.length := by omega
          rfl
        · subst h
          rcases Nat.eq_zero_or_pos l.length with h0 | h0
          · rw [h0]; rfl
          · obtain h1 : l.length = 1 := by omega
            rw [h1]; rfl
      have ho2 := hid ho1
      clear ho1 ho
      go_wp2
      go_end0
      exact ⟨rfl, by rw [← hfin.out]; exact ho2.out, hch⟩

set_option maxRecDepth 100000 in
set_option maxHeartbeats 1000000 in
theorem len64_any (n : Nat) (w : World) (hn : n ≤ 12) :
    Calls Try.prog 47 #[.int .u64 n] w fun e w' => (∃ k : Int, e = .returned (.int .i64 k)) ∧ w = w' := by
  have : n = 0 ∨ n = 1 ∨ n = 2 ∨ n = 3 ∨ n = 4 ∨ n = 5 ∨ n = 6 ∨ n = 7 ∨ n = 8 ∨ n = 9 ∨ n = 10 ∨ n = 11 ∨ n = 12 := by omega
  rcases this with rfl | rfl | rfl | rfl | rfl | rfl | rfl | rfl | rfl | rfl | rfl | rfl | rfl
  all_goals
    go_enter Try.func47, Try.ntmps47
    go_wp2
    go_ret
    exact ⟨⟨_, rfl⟩, rfl⟩

set_option maxHeartbeats 1000000 in
theorem len_any (n : Nat) (w : World) (hn : n ≤ 12) :
    Calls Try.prog 26 #[.int .u64 n] w fun e w' => (∃ k : Int, e = .returned (.int .i64 k)) ∧ w = w' := by
  go_enter Try.func26, Try.ntmps26
  go_wp2_with (go_at_call 47; refine (len64_any _ _ hn).mono ?_; rintro e w' ⟨⟨k, rfl⟩, rfl⟩)
  go_ret
  exact ⟨⟨_, rfl⟩, rfl⟩

set_option maxRecDepth 100000 in
set_option maxHeartbeats 1000000 in
theorem pdq_any (A : Option Addr) (c lo hi : Nat) (l : List Int) (m : Int) (w : World) (ho : Own w lo hi 3 1 A c l.length (ints l)) (hm : l.length ≤ 12) :
    Calls Try.prog 25 #[.slice A l.length c, .int .i64 0, .int .i64 l.length, .int .i64 m] w fun e w' => e = .returned (.tuple #[]) ∧ Own w' lo hi 3 1 A c l.length (ints (isort lessI l l.length)) ∧ Chg lo hi w w' := by
  have H := hid ho
  clear ho
  go_enter Try.func25, Try.ntmps25
  go_wp2
  refine wp_loop_once ?_
  go_wp2_with (go_at_call 37; refine (insOrd_any _ _ _ _ _ _ H.out hm).mono ?_; rintro e w' ⟨rfl, o1, c1⟩)
  refine bodyPost_ret (results_none rfl _ _ _) rfl ?_
  exact ⟨rfl, o1, c1⟩

/-- The list in ascending order. -/
def ascL (l : List Int) : List Int := isort lessI l l.length

set_option maxHeartbeats 1000000 in
theorem sort_any (A : Option Addr) (c lo hi : Nat) (l : List Int) (w : World) (ho : Own w lo hi 3 1 A c l.length (ints l)) (hm : l.length ≤ 12) :
    Calls Try.prog 15 #[.slice A l.length c] w fun e w' => e = .returned (.tuple #[]) ∧ Own w' lo hi 3 1 A c l.length (ints (ascL l)) ∧ Chg lo hi w w' := by
  have H := hid ho
  clear ho
  go_enter Try.func15, Try.ntmps15
  go_wp2_with fail
  refine (len_any _ _ (by omega)).mono ?_
  rintro e w' ⟨⟨k, rfl⟩, rfl⟩
  go_wp2_with (go_at_call 25; refine (pdq_any _ _ _ _ _ _ _ H.out hm).mono ?_; rintro e w' ⟨rfl, o1, c1⟩)
  go_end0
  exact ⟨rfl, o1, c1⟩

end Go.Proofs.Ytpnahccmdebifaa
