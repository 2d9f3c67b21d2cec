/- Contracts of the small functions of chapter 23. -/
import Derived.Test.YtdncdfcldnamiaaC1
namespace Go.Proofs.Ytdncdfcldnamiaa
open Go.RowKit

def givenB (zs : List Int) : Bool := zs.all (fun z => inB z 0 99) && decide (zs.length ≤ 6)
theorem givenB_at {zs : List Int} (h : givenB zs = true) : ∀ z ∈ zs, 0 ≤ z ∧ z ≤ 99 := by
  unfold givenB at h
  simp only [Bool.and_eq_true, List.all_eq_true] at h
  intro z hz
  simpa [inB] using h.1 z hz
theorem givenB_len {zs : List Int} (h : givenB zs = true) : zs.length ≤ 6 := by
  unfold givenB at h
  simp only [Bool.and_eq_true, decide_eq_true_eq] at h
  exact h.2

set_option maxHeartbeats 400000 in
theorem l23Given_any (A : Option Addr) (c : Nat) (zs : List Int) (w : World) (hr : Cells w A (ints zs)) (hm : zs.length ≤ 17592186044416) :
    Calls Try.prog 35 #[.slice A zs.length c] w fun e w' => e = .returned (.bool (givenB zs)) ∧ w = w' := by
  go_enter Try.func35, Try.ntmps35
  go_wp2
  go_loop [3] (fun i => ∃ k : Nat, k ≤ zs.length ∧ i = .int .i64 k ∧ Hid ((zs.take k).all (fun z => inB z 0 99) = true)) (fun i => zs.length - (intOf i).toNat)
  case atStart => exact ⟨0, Nat.zero_le _, rfl, by simp [Hid]⟩
  case round =>
    obtain ⟨k, hk, rfl, hall⟩ := hrel
    by_cases hlt : k < zs.length
    · obtain ⟨b, off, z, rfl, hz, hc⟩ := hr.int_at hlt
      cases hb : inB z 0 99
      · go_wp2_with (go_at_call 37; refine (l6In_any _ _ _ _).mono ?_; rintro e w' ⟨rfl, rfl⟩)
        go_ret
        exact ⟨ret_bool (by unfold givenB; rw [all_stop _ _ _ _ hz.out hb]; rfl), rfl⟩
      · go_wp2_with (go_at_call 37; refine (l6In_any _ _ _ _).mono ?_; rintro e w' ⟨rfl, rfl⟩)
        go_round
        case rel => exact ⟨k + 1, by omega, by go_num, by unfold Hid; rw [all_snoc _ _ _ _ hz.out, hall.out, hb]; rfl⟩
        case measure => simp [intOf]; omega
    · go_wp2
      go_ret
      exact ⟨ret_bool (by unfold givenB; rw [← List.take_of_length_le (l := zs) (i := k) (by omega), hall.out]; simp; omega), rfl⟩

set_option maxHeartbeats 400000 in
theorem givenValid_any (A : Option Addr) (c : Nat) (zs : List Int) (w : World) (hr : Cells w A (ints zs)) (hm : zs.length ≤ 17592186044416) :
    Calls Try.prog 36 #[.slice A zs.length c] w fun e w' => e = .returned (.bool (givenB zs)) ∧ w = w' := by
  by_cases h6 : 6 < zs.length
  · go_enter Try.func36, Try.ntmps36
    go_wp2
    go_ret
    exact ⟨ret_bool (by unfold givenB; rw [decide_eq_false (by omega)]; simp), rfl⟩
  · go_enter Try.func36, Try.ntmps36
    go_wp2
    go_loop [10] (fun i => ∃ k : Nat, k ≤ zs.length ∧ i = .int .i64 k ∧ Hid ((zs.take k).all (fun z => inB z 0 99) = true)) (fun i => zs.length - (intOf i).toNat)
    case atStart => exact ⟨0, Nat.zero_le _, rfl, by simp [Hid]⟩
    case round =>
      obtain ⟨k, hk, rfl, hall⟩ := hrel
      by_cases hlt : k < zs.length
      · obtain ⟨b, off, z, rfl, hz, hc⟩ := hr.int_at hlt
        cases hb : inB z 0 99
        · go_wp2_with (go_at_call 38; refine (within_any _ _ _ _).mono ?_; rintro e w' ⟨rfl, rfl⟩)
          go_ret
          exact ⟨ret_bool (by unfold givenB; rw [all_stop _ _ _ _ hz.out hb]; rfl), rfl⟩
        · go_wp2_with (go_at_call 38; refine (within_any _ _ _ _).mono ?_; rintro e w' ⟨rfl, rfl⟩)
          go_round
          case rel => exact ⟨k + 1, by omega, by go_num, by unfold Hid; rw [all_snoc _ _ _ _ hz.out, hall.out, hb]; rfl⟩
          case measure => simp [intOf]; omega
      · go_wp2
        go_ret
        exact ⟨ret_bool (by unfold givenB; rw [← List.take_of_length_le (l := zs) (i := k) (by omega), hall.out]; simp; omega), rfl⟩

theorem ints_one (zs : List Int) : ∀ u ∈ ints zs, u.oneCell' = true := ints_oneCell _ _

set_option maxHeartbeats 400000 in
theorem cloneInt_any (A : Option Addr) (c : Nat) (zs : List Int) (w : World) (hr : Cells w A (ints zs)) (hm : zs.length ≤ 17592186044416) :
    Calls Try.prog 39 #[.slice A zs.length c] w (RetInts w zs) := by
  have hmk := fun W => run_make_cap (P := Try.prog) 22 3 Try.underlying22 info_int zs.length (by omega) (by omega) W
  go_enter Try.func39, Try.ntmps39
  go_wp2_with (at_builtin; refine wpList_app rfl (.tmp 5) (.tmp 6) 22 rfl w.heap.size Try.underlying22 info_int rfl (by omega) (by omega) _ 0 zs.length [] rfl (own_made w _ _ 1 _ (by omega) (Nat.le_refl _)) A zs.length c (ints zs) rfl (by rw [ints_length]; omega) (hr.below ((Below.refl _ _).alloc (Nat.le_refl _) _)) (ints_one _) zs.length (ints zs) (by omega) rfl (by omega) (by simp) ?_; intro A' c' w' ho hb)
  go_ret
  exact ⟨A', c', rfl, Own.of_row ho, ((Below.refl _ _).alloc (Nat.le_refl _) _).trans hb⟩

def fadeL (zs : List Int) : List Int := if givenB zs then zs.map (· / 2) else []

set_option maxHeartbeats 400000 in
theorem implFade_any (A : Option Addr) (c : Nat) (zs : List Int) (w : World) (hr : Cells w A (ints zs)) (hm : zs.length ≤ 17592186044416) :
    Calls Try.prog 19 #[.slice A zs.length c] w (RetInts w (fadeL zs)) := by
  cases hv : givenB zs
  · have hfin := hid (show fadeL zs = [] by simp [fadeL, hv])
    go_enter Try.func19, Try.ntmps19
    go_wp2_with (go_at_call 36; refine (givenValid_any _ _ _ _ hr hm).mono ?_; rintro e w' ⟨rfl, rfl⟩)
    go_ret
    rw [hfin.out]
    exact ⟨none, 0, rfl, Own.of_row (World.ownsRow_nil _ _ _ _), Below.refl _ _⟩
  · have hb := givenB_at hv
    have hl6 := givenB_len hv
    have hfin := hid (show fadeL zs = zs.map (· / 2) by simp [fadeL, hv])
    go_enter Try.func19, Try.ntmps19
    go_wp2_with (go_at_call 36; refine (givenValid_any _ _ _ _ hr hm).mono ?_; rintro e w' ⟨rfl, rfl⟩)
    go_loopw [3, 12] (fun out i wr => ∃ (k : Nat) (A' : Option Addr) (c' : Nat), k ≤ zs.length ∧ i = .int .i64 k ∧ out = .slice A' k c' ∧ wr.ownsRow w.heap.size 3 1 (.slice A' k c') k (ints ((zs.take k).map (· / 2))) ∧ Below w.heap.size w wr) (fun _ i _ => zs.length - (intOf i).toNat)
    case atStart => exact ⟨0, _, _, Nat.zero_le _, rfl, rfl, own_empty _ _ _ (Nat.le_refl _), (Below.refl _ _).alloc (Nat.le_refl _) _⟩
    case round =>
      obtain ⟨k, A', c', hk, rfl, rfl, ho, hbel⟩ := hrel
      have hsz := hbel.size
      by_cases hlt : k < zs.length
      · obtain ⟨b, off, z, rfl, hz, hc⟩ := (hr.below hbel).int_at hlt
        have hz0 := (hb z (List.mem_of_getElem? hz.out)).1
        have hz1 := (hb z (List.mem_of_getElem? hz.out)).2
        have hb' := hid hb
        clear hb
        go_wp2_with (at_builtin; refine wpList_app rfl (.tmp 16) (.tmp 19) 22 rfl w.heap.size Try.underlying22 info_int rfl (by omega) (by omega) A' k c' _ rfl (ho.alloc _) (some ⟨wr.heap.size, 0, none⟩) 1 1 [.int .i64 (z / 2)] rfl rfl (cells_one _ _ _) (one_int _) (k + 1) _ rfl rfl (by omega) (by simp; omega) ?_; intro A2 c2 w2 ho2 hb2)
        go_roundw
        case rel => exact ⟨k + 1, A2, c2, by omega, by go_num, rfl, by rw [← map_snoc _ _ _ _ hz.out]; exact ho2, (hbel.alloc hsz _).trans hb2⟩
        case measure => simp [intOf]; omega
      · obtain rfl : k = zs.length := by omega
        have ho2 : Hid (wr.ownsRow w.heap.size 3 1 (.slice A' zs.length c') zs.length (ints (fadeL zs))) := by rw [hfin.out]; simpa [Hid] using ho
        clear ho hlt
        have hlen := hid (show (fadeL zs).length = zs.length by rw [hfin.out]; simp)
        go_wp2
        go_ret
        exact ⟨A', c', by rw [hlen.out]; rfl, by rw [hlen.out]; exact Own.of_row ho2.out, hbel⟩

set_option maxHeartbeats 400000 in
theorem specFade_any (A : Option Addr) (c : Nat) (zs : List Int) (w : World) (hr : Cells w A (ints zs)) (hm : zs.length ≤ 17592186044416) :
    Calls Try.prog 17 #[.slice A zs.length c] w (RetInts w (fadeL zs)) := by
  cases hv : givenB zs
  · have hfin := hid (show fadeL zs = [] by simp [fadeL, hv])
    go_enter Try.func17, Try.ntmps17
    go_wp2
    go_loopw [3, 4] (fun out i wr => i = .int .i64 0 ∧ out = .slice (some ⟨w.heap.size, 0, none⟩) 0 0 ∧ wr = w.alloc (.cells #[] 3)) (fun _ _ _ => 0)
    case atStart => exact ⟨rfl, rfl, rfl⟩
    case round =>
      obtain ⟨rfl, rfl, rfl⟩ := hrel
      have hr2 := hr.below ((Below.refl _ _).alloc (Nat.le_refl _) (.cells #[] 3))
      by_cases h0 : 0 < zs.length
      all_goals
        go_wp2_with (go_at_call 35; refine (l23Given_any _ _ _ _ hr2 hm).mono ?_; rintro e w' ⟨rfl, rfl⟩)
        go_ret
        rw [hfin.out]
        exact ⟨_, _, rfl, Own.of_row (own_empty _ _ _ (Nat.le_refl _)), (Below.refl _ _).alloc (Nat.le_refl _) _⟩
  · have hb := givenB_at hv
    have hl6 := givenB_len hv
    have hfin := hid (show fadeL zs = zs.map (· / 2) by simp [fadeL, hv])
    go_enter Try.func17, Try.ntmps17
    go_wp2
    go_loopw [3, 4] (fun out i wr => ∃ (k : Nat) (A' : Option Addr) (c' : Nat), k ≤ zs.length ∧ i = .int .i64 k ∧ out = .slice A' k c' ∧ wr.ownsRow w.heap.size 3 1 (.slice A' k c') k (ints ((zs.take k).map (· / 2))) ∧ Below w.heap.size w wr) (fun _ i _ => zs.length - (intOf i).toNat)
    case atStart => exact ⟨0, _, _, Nat.zero_le _, rfl, rfl, own_empty _ _ _ (Nat.le_refl _), (Below.refl _ _).alloc (Nat.le_refl _) _⟩
    case round =>
      obtain ⟨k, A', c', hk, rfl, rfl, ho, hbel⟩ := hrel
      have hsz := hbel.size
      have hr2 := hr.below hbel
      by_cases hlt : k < zs.length
      · obtain ⟨b, off, z, rfl, hz, hc⟩ := hr2.int_at hlt
        have hz0 := (hb z (List.mem_of_getElem? hz.out)).1
        have hz1 := (hb z (List.mem_of_getElem? hz.out)).2
        have hb' := hid hb
        clear hb
        go_wp2_with (first | (go_at_call 35; refine (l23Given_any _ _ _ _ hr2 hm).mono ?_; rintro e w' ⟨rfl, rfl⟩) | (at_builtin; refine wpList_app rfl (.tmp 16) (.tmp 22) 22 rfl w.heap.size Try.underlying22 info_int rfl (by omega) (by omega) A' k c' _ rfl (ho.alloc _) (some ⟨wr.heap.size, 0, none⟩) 1 1 [.int .i64 (z / 2)] rfl rfl (cells_one _ _ _) (one_int _) (k + 1) _ rfl rfl (by omega) (by simp; omega) ?_; intro A2 c2 w2 ho2 hb2))
        go_roundw
        case rel => exact ⟨k + 1, A2, c2, by omega, by go_num, rfl, by rw [← map_snoc _ _ _ _ hz.out]; exact ho2, (hbel.alloc hsz _).trans hb2⟩
        case measure => simp [intOf]; omega
      · obtain rfl : k = zs.length := by omega
        have ho2 : Hid (wr.ownsRow w.heap.size 3 1 (.slice A' zs.length c') zs.length (ints (fadeL zs))) := by rw [hfin.out]; simpa [Hid] using ho
        clear ho hlt
        have hlen := hid (show (fadeL zs).length = zs.length by rw [hfin.out]; simp)
        go_wp2
        go_ret
        exact ⟨A', c', by rw [hlen.out]; rfl, by rw [hlen.out]; exact Own.of_row ho2.out, hbel⟩

end Go.Proofs.Ytdncdfcldnamiaa
