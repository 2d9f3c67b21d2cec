/- laws.FnServed, FnServedAgain, FnTurnAgain: the walks. -/
import Derived.Test.YtdncdfcldnamiaaC6
import Derived.Test.YtdncdfcldnamiaaDrawC
namespace Go.Proofs.Ytdncdfcldnamiaa
open Go.RowKit

theorem servedG_some {zs : List Int} {t : Int} (h : servedG zs t ≠ []) : givenB zs = true ∧ ∃ T : Nat, t = T ∧ T ≤ 999 ∧ servedG zs t = servedV zs T ∧ inB t 0 999 = true := by
  cases hb : givenB zs && inB t 0 999
  · rw [servedG_bad hb] at h; exact (h rfl).elim
  · simp only [Bool.and_eq_true] at hb
    have hp : 0 ≤ t ∧ t ≤ 999 := by simpa [inB] using hb.2
    obtain ⟨T, rfl⟩ := Int.eq_ofNat_of_zero_le hp.1
    exact ⟨hb.1, T, rfl, by omega, servedG_ok hb.1 hb.2, hb.2⟩
theorem servedG_le {zs : List Int} {t : Int} (hm : zs.length ≤ 7) : (servedG zs t).length ≤ 17592186044416 := by
  unfold servedG
  split
  · exact Nat.le_trans (filter_len _ _) (by omega)
  · simp
theorem servedV_asc (zs : List Int) (T : Nat) : (servedV zs T).Pairwise (· < ·) := (idx_asc _).filter _
theorem asc_at {L : List Int} (h : L.Pairwise (· < ·)) {k : Nat} {x y : Int} (hx : L[k]? = some x) (hy : L[k + 1]? = some y) : x < y := by
  have h1 := (List.getElem?_eq_some_iff.1 hx)
  have h2 := (List.getElem?_eq_some_iff.1 hy)
  have := List.pairwise_iff_getElem.1 h k (k + 1) h1.1 h2.1 (by omega)
  rw [h1.2, h2.2] at this
  exact this
theorem turnV_again (zs : List Int) (T : Nat) (_ : othersL zs ≠ []) : turnV zs (T + (zs.length - 3)) = turnV zs T := by
  unfold turnV
  rw [others_length, Nat.add_mod_right]

set_option maxHeartbeats 1000000 in
theorem served_walk (A : Option Addr) (c : Nat) (us : List Int) (w : World) (hr : Cells w A (bytes us)) (hu : ∀ u ∈ us, 0 ≤ u ∧ u ≤ 255) (hc : us.length ≤ c) :
    Calls Try.prog 16 #[.slice A us.length c] w (RetB w true) := by
  have Hu := hid hu
  clear hu
  by_cases h20 : 1048576 < us.length
  · go_enter Try.func16, Try.ntmps16
    go_wp2
    go_ret
    exact ⟨rfl, Below.refl _ _⟩
  · have hm : us.length ≤ 17592186044416 := by omega
    have hd : decide ((1048576 : Int) < (us.length : Int)) = false := by simp; omega
    clear h20
    go_enter Try.func16, Try.ntmps16
    go_wp2_with fail
    refine (drawServed_any _ _ _ _ hr Hu.out hc hm).mono ?_
    rintro e w1 ⟨A1, c1, zs, t, rfl, hl, hp1, hp2, o1, b1⟩
    clear hr hc hm hd
    have hm : zs.length ≤ 17592186044416 := by omega
    have hf := servedG_le (t := t) hl
    go_wp2_with fail
    refine (implServed_any _ _ _ _ _ o1.cells hm).mono ?_; rintro e w2 ⟨A2, c2, rfl, o2, b2⟩
    go_wp2_with fail
    refine (specServed_any _ _ _ _ _ (o1.below b2).cells hm).mono ?_; rintro e w3 ⟨A3, c3, rfl, o3, b3⟩
    go_wp2_with fail
    refine (sameInts_true _ _ _ _ _ _ (o2.below b3).cells o3.cells hf).mono ?_; rintro e w4 ⟨rfl, b4⟩
    have t4 := below_step (below_step (below_step b1 b2) b3) b4
    have ho4 := ((o2.below b3).below b4).cells
    have hw4 := (o3.below b4).cells
    by_cases hne : servedG zs t = []
    · have hlen : (((servedG zs t).length : Int) == 0) = true := by rw [hne]; rfl
      have Hne := hid hne
      clear hne
      go_wp2_with fail
      refine (sameInts_true _ _ _ _ _ _ ho4 hw4 hf).mono ?_; rintro e w5 ⟨rfl, b5⟩
      go_wp2_with fail
      go_ret
      exact ⟨rfl, below_step t4 b5⟩
    · have hlen : (((servedG zs t).length : Int) == 0) = false := by rw [beq_eq_false_iff_ne]; intro h; exact hne (List.eq_nil_of_length_eq_zero (by omega))
      obtain ⟨hv, T, rfl, hT, hse, -⟩ := servedG_some hne
      have hasc : Hid ((servedG zs T).Pairwise (· < ·)) := by unfold Hid; rw [hse]; exact servedV_asc _ _
      have hsl : Hid ((servedG zs T).length = min zs.length 4) := by unfold Hid; rw [hse]; exact served_length _ _
      have hpos : 1 ≤ (servedG zs T).length := by have := List.length_pos_iff.2 hne; omega
      clear hne hse hw4
      go_wp2_with fail
      go_loopw [7] (fun i wr => ∃ k : Nat, 1 ≤ k ∧ k ≤ (servedG zs T).length ∧ i = .int .i64 k ∧ ∃ n, wr = w4.drewN n) (fun i _ => (servedG zs T).length - (intOf i).toNat)
      case atStart => exact ⟨1, Nat.le_refl _, hpos, rfl, 0, rfl⟩
      case round =>
        obtain ⟨k, hk1, hk, rfl, n, rfl⟩ := hrel
        by_cases hlt : k < (servedG zs T).length
        · obtain ⟨j, rfl⟩ : ∃ j, k = j + 1 := ⟨k - 1, by omega⟩
          obtain ⟨x, hx⟩ : ∃ x, (servedG zs T)[j]? = some x := ⟨(servedG zs T)[j], List.getElem?_eq_getElem (by omega)⟩
          obtain ⟨y, hy⟩ : ∃ y, (servedG zs T)[j + 1]? = some y := ⟨(servedG zs T)[j + 1], List.getElem?_eq_getElem hlt⟩
          have hxy := asc_at hasc.out hx hy
          obtain ⟨b, off, rfl, hcx⟩ := ho4.int_of hx
          obtain ⟨_, _, hA, hcy⟩ := ho4.int_of hy
          injection hA with hA; injection hA with hA1 hA2; subst hA1; subst hA2
          have Hx := hid hx
          have Hy := hid hy
          have hge : decide (y ≤ x) = false := by simp; omega
          clear hx hy hxy
          go_wp2
          go_quiet (fail)
          go_wp2
          go_roundw
          case rel => exact ⟨j + 1 + 1, by omega, by omega, by go_num, _, rfl⟩
          case measure => simp [intOf]; omega
        · have hsl1 := hsl.out
          by_cases h4 : zs.length < 4
          · have he : (((servedG zs T).length : Int) == (zs.length : Int)) = true := by rw [beq_iff_eq]; omega
            clear hsl1
            go_wp2
            go_ret
            exact ⟨rfl, below_drewN t4 n⟩
          · have he : (((servedG zs T).length : Int) == 4) = true := by rw [beq_iff_eq]; omega
            by_cases h44 : zs.length = 4
            · have he2 : (((servedG zs T).length : Int) == (zs.length : Int)) = true := by rw [beq_iff_eq]; omega
              have H44 := hid h44
              clear hsl1 h44
              go_wp2
              all_goals
                go_ret
                exact ⟨rfl, below_drewN t4 n⟩
            · have h5 : 4 < zs.length := by omega
              clear hsl1 h44 h4
              go_wp2
              go_ret
              exact ⟨rfl, below_drewN t4 n⟩

set_option maxHeartbeats 1000000 in
theorem servedAgain_walk (A : Option Addr) (c : Nat) (us : List Int) (w : World) (hr : Cells w A (bytes us)) (hu : ∀ u ∈ us, 0 ≤ u ∧ u ≤ 255) (hc : us.length ≤ c) :
    Calls Try.prog 9 #[.slice A us.length c] w (RetB w true) := by
  have Hu := hid hu
  clear hu
  by_cases h20 : 1048576 < us.length
  · go_enter Try.func9, Try.ntmps9
    go_wp2
    go_ret
    exact ⟨rfl, Below.refl _ _⟩
  · have hm : us.length ≤ 17592186044416 := by omega
    have hd : decide ((1048576 : Int) < (us.length : Int)) = false := by simp; omega
    clear h20
    go_enter Try.func9, Try.ntmps9
    go_wp2_with fail
    refine (drawServed_any _ _ _ _ hr Hu.out hc hm).mono ?_
    rintro e w1 ⟨A1, c1, zs, t, rfl, hl, hp1, hp2, o1, b1⟩
    clear hr hc hm hd
    have hm : zs.length ≤ 17592186044416 := by omega
    have hf := servedG_le (t := t) hl
    go_wp2_with fail
    refine (implServed_any _ _ _ _ _ o1.cells hm).mono ?_; rintro e w2 ⟨A2, c2, rfl, o2, b2⟩
    go_wp2_with fail
    refine (specServed_any _ _ _ _ _ (o1.below b2).cells hm).mono ?_; rintro e w3 ⟨A3, c3, rfl, o3, b3⟩
    have o23 := o2.below b3
    have o13 := (o1.below b2).below b3
    by_cases hgo : 3 < zs.length ∧ servedG zs t ≠ []
    · obtain ⟨h3, hne⟩ := hgo
      have hlen : (((servedG zs t).length : Int) == 0) = false := by rw [beq_eq_false_iff_ne]; intro h; exact hne (List.eq_nil_of_length_eq_zero (by omega))
      obtain ⟨hv, T, rfl, hT, hse, hi⟩ := servedG_some hne
      have hon : othersL zs ≠ [] := by intro h; have := others_length zs; rw [h] at this; simp at this; omega
      have hti := hid (turnV_again zs T hon)
      have Hse := hid hse
      clear hne hon hse
      go_wp2_with fail
      refine (sameInts_true _ _ _ _ _ _ o23.cells o3.cells hf).mono ?_; rintro e w4 ⟨rfl, b4⟩
      have t4 := below_step (below_step (below_step b1 b2) b3) b4
      have o14 := o13.below b4
      have o24 := o23.below b4
      by_cases hmx : T + (zs.length - 3) ≤ 999
      · have hd2 : decide ((999 : Int) < (T : Int) + ((zs.length : Int) - 3)) = false := by simp; omega
        have hse2 : servedG zs ((T : Int) + ((zs.length : Int) - 3)) = servedG zs T := by
          have e : (T : Int) + ((zs.length : Int) - 3) = ((T + (zs.length - 3) : Nat) : Int) := by omega
          rw [e, servedG_ok hv (by simp [inB]; omega), Hse.out]
          unfold servedV; rw [hti.out]
        have Hse2 := hid hse2
        clear hse2 hti
        go_wp2_with fail
        refine (implServed_any _ _ _ _ _ o14.cells hm).mono ?_; rintro e w5 ⟨A5, c5, rfl, o5, b5⟩
        rw [Hse2.out] at o5
        rw [Hse2.out]
        go_wp2_with fail
        refine (sameInts_true _ _ _ _ _ _ o5.cells (o24.below b5).cells hf).mono ?_; rintro e w6 ⟨rfl, b6⟩
        go_wp2_with fail
        go_ret
        exact ⟨rfl, below_step (below_step t4 b5) b6⟩
      · have hd2 : decide ((999 : Int) < (T : Int) + ((zs.length : Int) - 3)) = true := by simp; omega
        clear hti
        go_wp2_with fail
        go_ret
        exact ⟨rfl, t4⟩
    · by_cases h3 : 3 < zs.length
      · have hne : servedG zs t = [] := by
          by_cases h : servedG zs t = []
          · exact h
          · exact (hgo ⟨h3, h⟩).elim
        have hlen : (((servedG zs t).length : Int) == 0) = true := by rw [hne]; rfl
        clear hgo hne
        go_wp2_with fail
        refine (sameInts_true _ _ _ _ _ _ o23.cells o3.cells hf).mono ?_; rintro e w4 ⟨rfl, b4⟩
        go_wp2_with fail
        refine (sameInts_true _ _ _ _ _ _ (o23.below b4).cells (o3.below b4).cells hf).mono ?_; rintro e w5 ⟨rfl, b5⟩
        go_wp2_with fail
        go_ret
        exact ⟨rfl, below_step (below_step (below_step (below_step b1 b2) b3) b4) b5⟩
      · clear hgo
        go_wp2_with fail
        refine (sameInts_true _ _ _ _ _ _ o23.cells o3.cells hf).mono ?_; rintro e w4 ⟨rfl, b4⟩
        go_wp2_with fail
        refine (sameInts_true _ _ _ _ _ _ (o23.below b4).cells (o3.below b4).cells hf).mono ?_; rintro e w5 ⟨rfl, b5⟩
        go_wp2_with fail
        go_ret
        exact ⟨rfl, below_step (below_step (below_step (below_step b1 b2) b3) b4) b5⟩

set_option maxHeartbeats 1000000 in
theorem turnAgain_walk (A : Option Addr) (c : Nat) (us : List Int) (w : World) (hr : Cells w A (bytes us)) (hu : ∀ u ∈ us, 0 ≤ u ∧ u ≤ 255) (hc : us.length ≤ c) :
    Calls Try.prog 13 #[.slice A us.length c] w (RetB w true) := by
  have Hu := hid hu
  clear hu
  by_cases h20 : 1048576 < us.length
  · go_enter Try.func13, Try.ntmps13
    go_wp2
    go_ret
    exact ⟨rfl, Below.refl _ _⟩
  · have hm : us.length ≤ 17592186044416 := by omega
    have hd : decide ((1048576 : Int) < (us.length : Int)) = false := by simp; omega
    clear h20
    go_enter Try.func13, Try.ntmps13
    go_wp2_with fail
    refine (drawTurn_any _ _ _ _ hr Hu.out hc hm).mono ?_
    rintro e w1 ⟨A1, c1, zs, t, rfl, hl, hp1, hp2, o1, b1⟩
    clear hr hc hm hd
    have hm : zs.length ≤ 17592186044416 := by omega
    go_wp2_with fail
    refine (implTurn_any _ _ _ _ _ o1.cells hm).mono ?_; rintro e w2 ⟨rfl, b2⟩
    go_wp2_with fail
    refine (specChokeTurn_any _ _ _ _ _ (o1.below b2).cells hm).mono ?_; rintro e w3 ⟨rfl, b3⟩
    have o13 := (o1.below b2).below b3
    have t3 := below_step (below_step b1 b2) b3
    by_cases hneg : turnG zs t < 0
    · go_wp2_with fail
      go_ret
      exact ⟨rfl, t3⟩
    · have hb : (givenB zs && inB t 0 999) = true := by
        cases h : givenB zs && inB t 0 999
        · rw [turnG_bad h] at hneg; omega
        · rfl
      simp only [Bool.and_eq_true] at hb
      have hp : 0 ≤ t ∧ t ≤ 999 := by simpa [inB] using hb.2
      obtain ⟨T, rfl⟩ := Int.eq_ofNat_of_zero_le hp.1
      have hte := turnG_ok hb.1 hb.2
      have hon : othersL zs ≠ [] := by
        rw [← turn_nonneg (t := T)]
        rw [hte] at hneg; omega
      have hl3 : 3 < zs.length := by have := others_length zs; have := List.length_pos_iff.2 hon; omega
      have hti := turnV_again zs T hon
      clear hon
      by_cases hmx : T + (zs.length - 3) ≤ 999
      · have hd2 : decide ((999 : Int) < (T : Int) + ((zs.length : Int) - 3)) = false := by simp; omega
        have hse2 : turnG zs ((T : Int) + ((zs.length : Int) - 3)) = turnG zs T := by
          have e : (T : Int) + ((zs.length : Int) - 3) = ((T + (zs.length - 3) : Nat) : Int) := by omega
          rw [e, turnG_ok hb.1 (by simp [inB]; omega), hte, hti]
        have Hse2 := hid hse2
        clear hse2 hti hte hb hp
        go_wp2_with fail
        refine (implTurn_any _ _ _ _ _ o13.cells hm).mono ?_; rintro e w5 ⟨rfl, b5⟩
        rw [Hse2.out]
        go_wp2_with fail
        go_ret
        exact ⟨rfl, below_step t3 b5⟩
      · have hd2 : decide ((999 : Int) < (T : Int) + ((zs.length : Int) - 3)) = true := by simp; omega
        clear hti hte hb hp
        go_wp2_with fail
        go_ret
        exact ⟨rfl, t3⟩

end Go.Proofs.Ytdncdfcldnamiaa
