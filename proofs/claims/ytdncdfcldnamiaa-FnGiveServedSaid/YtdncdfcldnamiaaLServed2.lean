/- laws.FnServedAll, FnServedFree, FnGiveServed: the walks. -/
import Derived.Test.YtdncdfcldnamiaaLServed
import Derived.Test.YtdncdfcldnamiaaLGive
import Derived.Deep.RegionWith
namespace Go.Proofs.Ytdncdfcldnamiaa
open Go.RowKit

theorem all_served {zs : List Int} {T : Nat} (hv : givenB zs = true) (hT : T + zs.length ≤ 999) {i : Nat} (hi : i < zs.length) : ∃ k, k < zs.length ∧ (i : Int) ∈ servedG zs ((T : Int) + (k : Int)) := by
  have hok : ∀ k, k < zs.length → servedG zs ((T : Int) + (k : Int)) = servedV zs (T + k) := fun k hk => by
    have e : (T : Int) + (k : Int) = ((T + k : Nat) : Int) := by omega
    rw [e, servedG_ok hv (by simp [inB]; omega)]
  have hidx : (i : Int) ∈ idx zs.length := idx_mem.2 ⟨i, hi, rfl⟩
  by_cases ht : (i : Int) ∈ topL zs
  · refine ⟨0, by omega, ?_⟩
    rw [hok 0 (by omega)]
    unfold servedV
    rw [List.mem_filter, decide_eq_true_eq]
    exact ⟨hidx, .inl ht⟩
  · have ho : (i : Int) ∈ othersL zs := by rw [others_eq, List.mem_filter, decide_eq_true_eq]; exact ⟨hidx, ht⟩
    have hon : othersL zs ≠ [] := by intro h; rw [h] at ho; simp at ho
    obtain ⟨q, hq⟩ := List.getElem?_of_mem ho
    have hql : q < (othersL zs).length := (List.getElem?_eq_some_iff.1 hq).1
    have hml := others_length zs
    have hpos := List.length_pos_iff.2 hon
    generalize hm : (othersL zs).length = m at *
    have hmod : (T + (q + m - T % m) % m) % m = q := by
      rw [Nat.add_mod, Nat.mod_mod, ← Nat.add_mod]
      have h1 := Nat.div_add_mod T m
      have h2 := Nat.mod_lt T hpos
      have h3 : T + (q + m - T % m) = q + m * (T / m + 1) := by rw [Nat.mul_add, Nat.mul_one]; omega
      rw [h3, Nat.add_mul_mod_self_left, Nat.mod_eq_of_lt hql]
    refine ⟨(q + m - T % m) % m, by have := Nat.mod_lt (q + m - T % m) hpos; omega, ?_⟩
    rw [hok _ (by have := Nat.mod_lt (q + m - T % m) hpos; omega)]
    unfold servedV
    rw [List.mem_filter, decide_eq_true_eq]
    refine ⟨hidx, .inr ?_⟩
    have := turn_some (t := T + (q + m - T % m) % m) hon
    rw [hm, hmod, hq] at this
    injection this

theorem served_mem {zs : List Int} {T : Nat} {x : Int} (h : x ∈ servedV zs T) : ∃ k : Nat, k < zs.length ∧ x = k ∧ (x ∈ topL zs ∨ x = turnV zs T) := by
  unfold servedV at h
  rw [List.mem_filter, decide_eq_true_eq] at h
  obtain ⟨k, hk, rfl⟩ := idx_mem.1 h.1
  exact ⟨k, hk, rfl, h.2⟩
theorem countP_idx (zs : List Int) (p : Int → Bool) : zs.countP p = (idx zs.length).countP fun j => p (zs.getD j.toNat 0) := by
  have e : zs = (List.range zs.length).map fun k => zs.getD k 0 := by
    apply List.ext_getElem
    · simp
    · intro i h1 h2; simp [List.getD_eq_getElem?_getD, h1]
  conv => lhs; rw [e]
  unfold idx
  rw [List.countP_map, List.countP_map]
  rfl
theorem free_turn {zs : List Int} {T k : Nat} {z : Int} (h3 : 3 ≤ zs.countP fun z => decide (0 < z)) (hz : zs[k]? = some z) (hz0 : z = 0) (hs : (k : Int) ∈ servedV zs T) : turnV zs T = k := by
  obtain ⟨_, _, _, h | h⟩ := served_mem hs
  · exfalso
    have hk : k < zs.length := (List.getElem?_eq_some_iff.1 hz).1
    have hr := (top_iff (idx_mem.2 ⟨k, hk, rfl⟩)).1 h
    rw [countP_idx] at h3
    have hmono : ((idx zs.length).countP fun j => decide (0 < zs.getD j.toNat 0)) ≤ rk zs k := by
      unfold rk
      apply List.countP_mono_left
      intro j _ hj
      simp only [decide_eq_true_eq] at hj ⊢
      left
      rw [giv_at hz]
      unfold giv; omega
    omega
  · exact h.symm
theorem giveL_true2 {zs L : List Int} {p : Int} (h : giveL zs p = (L, true)) : ∃ (k : Nat) (z : Int), p = k ∧ zs[k]? = some z ∧ z ≠ 99 ∧ L = zs.set k (z + 1) ∧ givenB zs = true := by
  obtain ⟨k, z, rfl, hz, hL, hv⟩ := giveL_true h
  refine ⟨k, z, rfl, hz, ?_, hL, hv⟩
  rintro rfl
  rw [giveL_full hv hz] at h
  simp at h
theorem give_valid {zs : List Int} {k : Nat} {z : Int} (hv : givenB zs = true) (hz : zs[k]? = some z) (h : z ≠ 99) : givenB (zs.set k (z + 1)) = true := by
  have h1 := givenB_at hv
  have h2 := givenB_len hv
  have h3 := h1 z (List.mem_of_getElem? hz)
  unfold givenB
  simp only [Bool.and_eq_true, List.all_eq_true, decide_eq_true_eq, List.length_set]
  refine ⟨fun x hx => ?_, h2⟩
  rcases List.mem_or_eq_of_mem_set hx with hx | rfl
  · have := h1 x hx; simp [inB]; omega
  · simp [inB]; omega
theorem give_top {zs : List Int} {k : Nat} {z : Int} (hz : zs[k]? = some z) (ht : (k : Int) ∈ topL zs) : (k : Int) ∈ topL (zs.set k (z + 1)) := by
  have hk : k < zs.length := (List.getElem?_eq_some_iff.1 hz).1
  have hi : (k : Int) ∈ idx zs.length := idx_mem.2 ⟨k, hk, rfl⟩
  have hr := (top_iff hi).1 ht
  have hl : (zs.set k (z + 1)).length = zs.length := List.length_set
  refine (top_iff (by rw [hl]; exact hi)).2 ?_
  have hk2 : (zs.set k (z + 1))[k]? = some (z + 1) := by rw [List.getElem?_set_self hk]
  have hmono : rk (zs.set k (z + 1)) k ≤ rk zs k := by
    unfold rk
    rw [hl]
    apply List.countP_mono_left
    intro j hj hb
    simp only [decide_eq_true_eq] at hb ⊢
    obtain ⟨q, hq, rfl⟩ := idx_mem.1 hj
    by_cases hqk : q = k
    · subst hqk; exact (bef_irrefl hb).elim
    · have hq2 : (zs.set k (z + 1))[q]? = some zs[q] := by rw [List.getElem?_set_ne (fun h => hqk h.symm)]; exact List.getElem?_eq_getElem hq
      unfold bef at hb ⊢
      rw [giv_at hk2, giv_at hq2] at hb
      rw [giv_at hz, giv_at (List.getElem?_eq_getElem hq)]
      omega
  omega

set_option maxHeartbeats 1000000 in
theorem servedAll_walk (A : Option Addr) (c : Nat) (us : List Int) (w : World) (hr : Cells w A (bytes us)) (hu : ∀ u ∈ us, 0 ≤ u ∧ u ≤ 255) (hc : us.length ≤ c) :
    Calls Try.prog 11 #[.slice A us.length c] w (RetB w true) := by
  have Hu := hid hu
  clear hu
  by_cases h20 : 1048576 < us.length
  · go_enter Try.func11, Try.ntmps11
    go_wp2
    go_ret
    exact ⟨rfl, Below.refl _ _⟩
  · have hm : us.length ≤ 17592186044416 := by omega
    have hd : decide ((1048576 : Int) < (us.length : Int)) = false := by simp; omega
    clear h20
    go_enter Try.func11, Try.ntmps11
    go_wp2_with fail
    refine (drawServed_any _ _ _ _ hr Hu.out hc hm).mono ?_
    rintro e w1 ⟨A1, c1, zs, t, rfl, hl, hp1, hp2, o1, b1⟩
    clear hr hc hm hd
    have hm : zs.length ≤ 17592186044416 := by omega
    have hf := servedG_le (t := t) hl
    go_wp2_with fail
    refine (implServed_any _ _ _ _ _ o1.cells hm).mono ?_; rintro e w2 ⟨A2, c2, rfl, o2, b2⟩
    go_wp2_with fail
    refine (specServed_any _ _ _ _ _ (o1.below b2).cells hm).mono ?_; rintro e w3 ⟨A3, c3, rfl, o3, b3⟩
    have o23 := o2.below b3
    have o13 := (o1.below b2).below b3
    have hstop : servedG zs t = [] → (((servedG zs t).length : Int) == 0) = true := fun h => by rw [h]; rfl
    by_cases hgo : servedG zs t ≠ [] ∧ t + zs.length ≤ 999
    · obtain ⟨hne, hmx⟩ := hgo
      have hlen : (((servedG zs t).length : Int) == 0) = false := by rw [beq_eq_false_iff_ne]; intro h; exact hne (List.eq_nil_of_length_eq_zero (by omega))
      have hd2 : decide ((999 : Int) < t + (zs.length : Int)) = false := by simp; omega
      obtain ⟨hv, T, rfl, hT, hse, -⟩ := servedG_some hne
      have hall : Hid (∀ i, i < zs.length → ∃ k, k < zs.length ∧ (i : Int) ∈ servedG zs ((T : Int) + (k : Int))) := fun i hi => all_served hv (by omega) hi
      clear hne hse hstop
      go_wp2_with fail
      refine (sameInts_true _ _ _ _ _ _ o23.cells o3.cells hf).mono ?_; rintro e w4 ⟨rfl, b4⟩
      have t4 := below_step (below_step (below_step b1 b2) b3) b4
      have hg4 := (o13.below b4).cells
      clear o23 o3 o13 b1 b2 b3 b4 o1 o2
      go_wp2_with fail
      go_loopw [7] (fun i wr => ∃ k : Nat, k ≤ zs.length ∧ i = .int .i64 k ∧ Below w4.heap.size w4 wr) (fun i _ => zs.length - (intOf i).toNat)
      case atStart => exact ⟨0, Nat.zero_le _, rfl, Below.refl _ _⟩
      case round =>
        obtain ⟨i, hi, rfl, hbi⟩ := hrel
        by_cases hlt : i < zs.length
        · go_wp2
          obtain ⟨wo, rfl⟩ : ∃ wo : World, wo = wr := ⟨_, rfl⟩
          go_loopw [8, 9] (fun f k wr => ∃ (q : Nat) (F : Bool), q ≤ zs.length ∧ k = .int .i64 q ∧ f = .bool F ∧ Hid (F = true ∨ ∀ q', q' < q → (i : Int) ∉ servedG zs ((T : Int) + (q' : Int))) ∧ Below w4.heap.size w4 wr) (fun _ k _ => zs.length - (intOf k).toNat)
          case atStart => exact ⟨0, false, Nat.zero_le _, rfl, rfl, .inr (fun q' h => by omega), hbi⟩
          case round =>
            obtain ⟨q, F, hq, rfl, rfl, hF, hbq⟩ := hrel
            by_cases hlq : q < zs.length
            · cases F
              · have hFq : Hid (∀ q', q' < q → (i : Int) ∉ servedG zs ((T : Int) + (q' : Int))) := by
                  rcases hF.out with h | h
                  · cases h
                  · exact h
                have hl2 := servedG_le (zs := zs) (t := (T : Int) + (q : Int)) hl
                clear hF
                go_wp2_with fail
                refine (implServed_any _ _ _ _ _ (hg4.below hbq) hm).mono ?_; rintro e w5 ⟨A5, c5, rfl, o5, b5⟩
                go_wp2_with fail
                refine (hasInt_any _ _ _ _ _ o5.cells hl2).mono ?_; rintro e w6 ⟨rfl, rfl⟩
                go_wp2_with fail
                go_roundw
                case rel =>
                  refine ⟨q + 1, decide ((i : Int) ∈ servedG zs ((T : Int) + (q : Int))), by omega, by go_num, rfl, ?_, below_step hbq b5⟩
                  by_cases hin : (i : Int) ∈ servedG zs ((T : Int) + (q : Int))
                  · exact .inl (by simpa using hin)
                  · refine .inr fun q' hq' => ?_
                    rcases Nat.lt_or_ge q' q with h | h
                    · exact hFq.out q' h
                    · obtain rfl : q' = q := by omega
                      exact hin
                case measure => simp [intOf]; omega
              · clear hF
                go_wp2
                go_roundw
                case rel => exact ⟨q + 1, true, by omega, by go_num, rfl, .inl rfl, hbq⟩
                case measure => simp [intOf]; omega
            · have hFt : F = true := by
                rcases hF.out with h | h
                · exact h
                · obtain ⟨k, hk, hin⟩ := hall.out i hlt
                  exact (h k (by omega) hin).elim
              subst hFt
              go_wp2
              go_roundw
              case rel => exact ⟨i + 1, by omega, by go_num, hbq⟩
              case measure => simp [intOf]; omega
        · go_wp2
          go_ret
          exact ⟨rfl, below_step t4 hbi⟩
    · by_cases hne : servedG zs t = []
      · have hlen := hstop hne
        clear hgo hne hstop
        go_wp2_with fail
        refine (sameInts_true _ _ _ _ _ _ o23.cells o3.cells hf).mono ?_; rintro e w4 ⟨rfl, b4⟩
        go_wp2_with fail
        refine (sameInts_true _ _ _ _ _ _ (o23.below b4).cells (o3.below b4).cells hf).mono ?_; rintro e w5 ⟨rfl, b5⟩
        go_wp2_with fail
        go_ret
        exact ⟨rfl, below_step (below_step (below_step (below_step b1 b2) b3) b4) b5⟩
      · have hlen : (((servedG zs t).length : Int) == 0) = false := by rw [beq_eq_false_iff_ne]; intro h; exact hne (List.eq_nil_of_length_eq_zero (by omega))
        have hd2 : decide ((999 : Int) < t + (zs.length : Int)) = true := by
          simp only [decide_eq_true_eq]
          have : ¬ t + (zs.length : Int) ≤ 999 := fun h => hgo ⟨hne, h⟩
          omega
        clear hgo hne hstop
        go_wp2_with fail
        refine (sameInts_true _ _ _ _ _ _ o23.cells o3.cells hf).mono ?_; rintro e w4 ⟨rfl, b4⟩
        go_wp2_with fail
        refine (sameInts_true _ _ _ _ _ _ (o23.below b4).cells (o3.below b4).cells hf).mono ?_; rintro e w5 ⟨rfl, b5⟩
        go_wp2_with fail
        go_ret
        exact ⟨rfl, below_step (below_step (below_step (below_step b1 b2) b3) b4) b5⟩

end Go.Proofs.Ytdncdfcldnamiaa
