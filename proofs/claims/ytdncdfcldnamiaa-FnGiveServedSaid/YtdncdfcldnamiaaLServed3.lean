/- laws.FnServedFree, FnGiveServed: the walks. -/
import Derived.Test.YtdncdfcldnamiaaLServed2
import Derived.Deep.RegionHeld3
namespace Go.Proofs.Ytdncdfcldnamiaa
open Go.RowKit

set_option maxHeartbeats 2000000 in
theorem servedFree_walk (A : Option Addr) (c : Nat) (us : List Int) (w : World) (hr : Cells w A (bytes us)) (hu : ∀ u ∈ us, 0 ≤ u ∧ u ≤ 255) (hc : us.length ≤ c) :
    Calls Try.prog 10 #[.slice A us.length c] w (RetB w true) := by
  have Hu := hid hu
  clear hu
  by_cases h20 : 1048576 < us.length
  · go_enter Try.func10, Try.ntmps10
    go_wp2
    go_ret
    exact ⟨rfl, Below.refl _ _⟩
  · have hm : us.length ≤ 17592186044416 := by omega
    have hd : decide ((1048576 : Int) < (us.length : Int)) = false := by simp; omega
    clear h20
    go_enter Try.func10, Try.ntmps10
    go_wp2_with fail
    refine (drawServed_any _ _ _ _ hr Hu.out hc hm).mono ?_
    rintro e w1 ⟨A1, c1, zs, t, rfl, hl, hp1, hp2, o1, b1⟩
    clear hr hc hm hd
    have hm : zs.length ≤ 17592186044416 := by omega
    have hf := servedG_le (t := t) hl
    go_wp2_with fail
    refine (implServed_any _ _ _ _ _ o1.cells hm).mono ?_; rintro e w2 ⟨A2, c2, rfl, o2, b2⟩
    go_wp2_with fail
    refine (specServed_any _ _ _ _ _ (o1.below b2).cells hm).mono ?_; rintro e w3 ⟨A3, c3, rfl, o3, b3⟩
    have o23 := o2.below b3
    have o13 := (o1.below b2).below b3
    by_cases hne : servedG zs t = []
    · have hlen : (((servedG zs t).length : Int) == 0) = true := by rw [hne]; rfl
      clear hne
      go_wp2_with fail
      refine (sameInts_true _ _ _ _ _ _ o23.cells o3.cells hf).mono ?_; rintro e w4 ⟨rfl, b4⟩
      go_wp2_with fail
      refine (sameInts_true _ _ _ _ _ _ (o23.below b4).cells (o3.below b4).cells hf).mono ?_; rintro e w5 ⟨rfl, b5⟩
      go_wp2_with fail
      go_ret
      exact ⟨rfl, below_step (below_step (below_step (below_step b1 b2) b3) b4) b5⟩
    · have hlen : (((servedG zs t).length : Int) == 0) = false := by rw [beq_eq_false_iff_ne]; intro h; exact hne (List.eq_nil_of_length_eq_zero (by omega))
      obtain ⟨hv, T, rfl, hT, hse, hi⟩ := servedG_some hne
      have htg := hid (turnG_ok hv hi)
      have hval := hid (givenB_at hv)
      have Hse := hid hse
      clear hne hse hv hi
      go_wp2_with fail
      refine (sameInts_true _ _ _ _ _ _ o23.cells o3.cells hf).mono ?_; rintro e w4 ⟨rfl, b4⟩
      have t4 := below_step (below_step (below_step b1 b2) b3) b4
      have hg4 := (o13.below b4).cells
      have ho4 := (o23.below b4).cells
      clear o23 o3 o13 b1 b2 b3 b4 o1 o2
      go_wp2_with fail
      go_loop [7, 8] (fun n i => ∃ k m : Nat, k ≤ zs.length ∧ i = .int .i64 k ∧ n = .int .i64 m ∧ m ≤ k ∧ Hid ((zs.take k).countP (fun z => decide (0 < z)) = m)) (fun _ i => zs.length - (intOf i).toNat)
      case atStart => exact ⟨0, 0, Nat.zero_le _, rfl, rfl, Nat.le_refl _, rfl⟩
      case round =>
        obtain ⟨k, m, hk, rfl, rfl, hmk, hcnt⟩ := hrel
        by_cases hlt : k < zs.length
        · obtain ⟨b, off, z, rfl, hz, hcz⟩ := hg4.int_at hlt
          by_cases hz0 : 0 < z
          · have hst : Hid ((zs.take (k + 1)).countP (fun z => decide (0 < z)) = m + 1) := by
              unfold Hid; rw [take_snoc _ _ _ hz.out, List.countP_append, hcnt.out]; simp [hz0]
            go_wp2
            go_round
            case rel => exact ⟨k + 1, m + 1, by omega, by go_num, by go_num, by omega, hst⟩
            case measure => simp [intOf]; omega
          · have hst : Hid ((zs.take (k + 1)).countP (fun z => decide (0 < z)) = m) := by
              unfold Hid; rw [take_snoc _ _ _ hz.out, List.countP_append, hcnt.out]; simp [hz0]
            go_wp2
            go_round
            case rel => exact ⟨k + 1, m, by omega, by go_num, rfl, by omega, hst⟩
            case measure => simp [intOf]; omega
        · obtain rfl : k = zs.length := by omega
          have hcn : Hid (zs.countP (fun z => decide (0 < z)) = m) := by
            have := hcnt.out; rw [List.take_length] at this; exact this
          clear hcnt hlt
          go_wp2_with fail
          go_loopw [9] (fun i wr => ∃ q : Nat, q ≤ (servedG zs T).length ∧ i = .int .i64 q ∧ Below w4.heap.size w4 wr) (fun i _ => (servedG zs T).length - (intOf i).toNat)
          case atStart => exact ⟨0, Nat.zero_le _, rfl, Below.refl _ _⟩
          case round =>
            obtain ⟨q, hq, rfl, hbq⟩ := hrel
            by_cases hlq : q < (servedG zs T).length
            · by_cases h3 : 3 ≤ m
              · have hog := ho4.below hbq
                have hgg := hg4.below hbq
                obtain ⟨x, hx⟩ : ∃ x, (servedG zs T)[q]? = some x := ⟨(servedG zs T)[q], List.getElem?_eq_getElem hlq⟩
                have hxm : x ∈ servedV zs T := by rw [← Hse.out]; exact List.mem_of_getElem? hx
                obtain ⟨j, hj, rfl, -⟩ := served_mem hxm
                obtain ⟨b, off, rfl, hcx⟩ := hog.int_of hx
                obtain ⟨z, hz⟩ : ∃ z, zs[j]? = some z := ⟨zs[j], List.getElem?_eq_getElem hj⟩
                obtain ⟨b', off', rfl, hcz⟩ := hgg.int_of hz
                have h3b : decide ((3 : Int) ≤ (m : Int)) = true := by simp; omega
                have Hx := hid hx
                have Hz := hid hz
                have Hxm := hid hxm
                by_cases hz0 : z = 0
                · have hft : Hid (turnG zs T = (j : Int)) := by
                    unfold Hid; rw [htg.out]; exact free_turn (by rw [hcn.out]; exact h3) hz hz0 hxm
                  have hne1 : ((j : Int) != turnG zs T) = false := by rw [hft.out]; simp
                  have hne2 : ((j : Int) == turnG zs T) = true := by rw [hft.out]; simp
                  subst hz0
                  clear hx hz hxm
                  go_wp2
                  go_region_held3 (fun w' => w'.cell? ⟨b, off + q, none⟩ = some (.int .i64 j) ∧ w'.cell? ⟨b', off' + j, none⟩ = some (.int .i64 0)) ((first | exact ⟨hcx, hcz⟩ | exact ⟨cell_later b5 hcx, cell_later b5 hcz⟩)) ((go_at_call 31; refine (implTurn_any _ _ _ _ _ (hgg.below ((Below.refl _ _).drew)) hm).mono ?_; rintro e w5 ⟨rfl, b5⟩))
                  go_wp2
                  go_roundw
                  case rel => exact ⟨q + 1, by omega, by go_num, below_step hbq (below_step ((Below.refl _ _).drew) b5)⟩
                  case measure => simp [intOf]; omega
                · have hzb : (z == 0) = false := by rw [beq_eq_false_iff_ne]; exact hz0
                  clear hx hz hxm hz0
                  go_wp2
                  go_quiet (fail)
                  go_wp2
                  go_roundw
                  case rel => exact ⟨q + 1, by omega, by go_num, below_drewN hbq _⟩
                  case measure => simp [intOf]; omega
              · have h3b : decide ((3 : Int) ≤ (m : Int)) = false := by simp; omega
                go_wp2
                go_quiet (fail)
                go_wp2
                go_roundw
                case rel => exact ⟨q + 1, by omega, by go_num, below_drewN hbq _⟩
                case measure => simp [intOf]; omega
            · go_wp2
              go_ret
              exact ⟨rfl, below_step t4 hbq⟩

set_option maxHeartbeats 2000000 in
theorem giveServed_walk (A : Option Addr) (c : Nat) (us : List Int) (A0 : Option Addr) (c0 : Nat) (ms : List Int) (w : World) (hr : Cells w A (bytes us)) (hu : ∀ u ∈ us, 0 ≤ u ∧ u ≤ 255) (hc : us.length ≤ c) :
    Calls Try.prog 15 #[.slice A us.length c, .slice A0 ms.length c0] w (RetB w true) := by
  have Hu := hid hu
  clear hu
  by_cases h20 : 1048576 < us.length ∨ 1048576 < ms.length
  · by_cases h21 : 1048576 < us.length
    · go_enter Try.func15, Try.ntmps15
      go_wp2
      go_ret
      exact ⟨rfl, Below.refl _ _⟩
    · have h22 : 1048576 < ms.length := by omega
      clear h20
      go_enter Try.func15, Try.ntmps15
      go_wp2
      go_ret
      exact ⟨rfl, Below.refl _ _⟩
  · have hm : us.length ≤ 17592186044416 := by omega
    have hd : decide ((1048576 : Int) < (us.length : Int)) = false := by simp; omega
    have hd2 : decide ((1048576 : Int) < (ms.length : Int)) = false := by simp; omega
    have hms : ms.length ≤ 1048576 := by omega
    clear h20
    go_enter Try.func15, Try.ntmps15
    go_wp2_with fail
    refine (drawGive_any _ _ _ _ hr Hu.out hc hm).mono ?_
    rintro e w1 ⟨A1, c1, zs, p, rfl, hl, hp1, hp2, o1, b1⟩
    clear hr hc hm hd hd2
    have hm : zs.length ≤ 17592186044416 := by omega
    obtain ⟨L, bb, hG⟩ : ∃ L bb, Hid (giveL zs p = (L, bb)) := ⟨(giveL zs p).1, (giveL zs p).2, rfl⟩
    have hL := giveL_len hG.out
    have hf : L.length ≤ 17592186044416 := by omega
    go_wp2_with fail
    refine (implGive_of hG o1.cells hm).mono ?_; rintro e w2 ⟨A2, c2, rfl, o2, b2⟩
    go_wp2_with fail
    refine (specGive_of hG (o1.below b2).cells hm).mono ?_; rintro e w3 ⟨A3, c3, rfl, o3, b3⟩
    cases bb
    · go_wp2_with fail
      refine (sameInts_true _ _ _ _ _ _ (o2.below b3).cells o3.cells hf).mono ?_; rintro e w4 ⟨rfl, b4⟩
      go_wp2_with fail
      refine (sameInts_true _ _ _ _ _ _ ((o2.below b3).below b4).cells (o3.below b4).cells hf).mono ?_; rintro e w5 ⟨rfl, b5⟩
      go_wp2_with fail
      go_ret
      exact ⟨rfl, below_step (below_step (below_step (below_step b1 b2) b3) b4) b5⟩
    · go_wp2_with fail
      refine (sameInts_true _ _ _ _ _ _ (o2.below b3).cells o3.cells hf).mono ?_; rintro e w4 ⟨rfl, b4⟩
      have t4 := below_step (below_step (below_step b1 b2) b3) b4
      have hg4 := (((o1.below b2).below b3).below b4).cells
      have ho4 := ((o2.below b3).below b4).cells
      clear o1 o2 o3 b1 b2 b3 b4
      obtain ⟨t, ht, ht50⟩ : ∃ t : Nat, (ms.length : Int) % 50 = t ∧ t < 50 := ⟨ms.length % 50, by omega, Nat.mod_lt _ (by omega)⟩
      have hlz : zs.length ≤ 7 := hl
      have hlL : L.length ≤ 7 := by omega
      have l1 := servedG_le (zs := zs) (t := (ms.length : Int) % 50) hlz
      have l2 := servedG_le (zs := L) (t := (ms.length : Int) % 50) hlL
      -- the plain law
      have hlaw : Hid ((p ∈ servedG zs ((ms.length : Int) % 50) ∧ turnG zs ((ms.length : Int) % 50) ≠ p) → (p ∈ servedG L ((ms.length : Int) % 50) ∧ turnG L ((ms.length : Int) % 50) ≠ p)) := by
        unfold Hid
        rw [ht]
        obtain ⟨k, z, rfl, hz, hz9, rfl, hv⟩ := giveL_true2 hG.out
        have hvL := give_valid hv hz hz9
        have hi : inB (t : Int) 0 999 = true := by simp [inB]; omega
        have hk : k < zs.length := (List.getElem?_eq_some_iff.1 hz).1
        intro h
        rw [servedG_ok hv hi, turnG_ok hv hi] at h
        rw [servedG_ok hvL hi, turnG_ok hvL hi]
        obtain ⟨_, _, _, ht' | ht'⟩ := served_mem h.1
        · have htop := give_top hz ht'
          refine ⟨?_, fun e => turn_out (e ▸ htop)⟩
          unfold servedV
          rw [List.mem_filter, decide_eq_true_eq]
          exact ⟨idx_mem.2 ⟨k, by rw [List.length_set]; exact hk, rfl⟩, .inl htop⟩
        · exact (h.2 ht'.symm).elim
      clear ht
      obtain ⟨S1, hS1⟩ : ∃ b, decide (p ∈ servedG zs ((ms.length : Int) % 50)) = b := ⟨_, rfl⟩
      obtain ⟨N1, hN1⟩ : ∃ b, (turnG zs ((ms.length : Int) % 50) == p) = b := ⟨_, rfl⟩
      obtain ⟨S2, hS2⟩ : ∃ b, decide (p ∈ servedG L ((ms.length : Int) % 50)) = b := ⟨_, rfl⟩
      obtain ⟨N2, hN2⟩ : ∃ b, (turnG L ((ms.length : Int) % 50) == p) = b := ⟨_, rfl⟩
      have hno : (S1 = true ∧ N1 = false) → (S2 = true ∧ N2 = false) := by
        intro h
        have h1 : p ∈ servedG zs ((ms.length : Int) % 50) := by have := h.1; rw [← hS1] at this; simpa using this
        have h2 : turnG zs ((ms.length : Int) % 50) ≠ p := by have := h.2; rw [← hN1] at this; simpa using this
        obtain ⟨h3, h4⟩ := hlaw.out ⟨h1, h2⟩
        exact ⟨by rw [← hS2]; simpa using h3, by rw [← hN2]; simpa using h4⟩
      go_wp2_with fail
      refine (implServed_any _ _ _ _ _ hg4 hm).mono ?_; rintro e w5 ⟨A5, c5, rfl, o5, b5⟩
      go_wp2_with fail
      refine (hasInt_any _ _ _ _ _ o5.cells l1).mono ?_; rintro e w5' ⟨rfl, rfl⟩
      have hgA := hg4.below b5
      have hoA := ho4.below b5
      have tA := below_step t4 b5
      have hn1 : (turnG zs ((ms.length : Int) % 50) != p) = !N1 := by rw [← hN1]; rfl
      have hn2 : (turnG L ((ms.length : Int) % 50) != p) = !N2 := by rw [← hN2]; rfl
      have Hlaw := hid hno
      clear hno hlaw
      cases S1
      · cases S2
        · go_wp2_with fail
          refine (implServed_any _ _ _ _ _ hoA hf).mono ?_; rintro e w6 ⟨A6, c6, rfl, o6, b6⟩
          go_wp2_with fail
          refine (hasInt_any _ _ _ _ _ o6.cells l2).mono ?_; rintro e w6' ⟨rfl, rfl⟩
          go_wp2_with fail
          go_ret
          exact ⟨rfl, below_step tA b6⟩
        · go_wp2_with fail
          refine (implServed_any _ _ _ _ _ hoA hf).mono ?_; rintro e w6 ⟨A6, c6, rfl, o6, b6⟩
          go_wp2_with fail
          refine (hasInt_any _ _ _ _ _ o6.cells l2).mono ?_; rintro e w6' ⟨rfl, rfl⟩
          go_wp2_with fail
          refine (implTurn_any _ _ _ _ _ (hoA.below b6) hf).mono ?_; rintro e w7 ⟨rfl, b7⟩
          cases N2
          all_goals
            go_wp2_with fail
            go_ret
            exact ⟨rfl, below_step (below_step tA b6) b7⟩
      · go_wp2_with fail
        refine (implTurn_any _ _ _ _ _ hgA hm).mono ?_; rintro e w6 ⟨rfl, b6⟩
        have hoB := hoA.below b6
        have tB := below_step tA b6
        cases N1
        · obtain ⟨h2, h3⟩ := Hlaw.out (by simp)
          subst h2
          subst h3
          go_wp2_with fail
          refine (implServed_any _ _ _ _ _ hoB hf).mono ?_; rintro e w7 ⟨A7, c7, rfl, o7, b7⟩
          go_wp2_with fail
          refine (hasInt_any _ _ _ _ _ o7.cells l2).mono ?_; rintro e w7' ⟨rfl, rfl⟩
          go_wp2_with fail
          refine (implTurn_any _ _ _ _ _ (hoB.below b7) hf).mono ?_; rintro e w8 ⟨rfl, b8⟩
          go_wp2_with fail
          go_ret
          exact ⟨rfl, below_step (below_step tB b7) b8⟩
        · cases S2
          · go_wp2_with fail
            refine (implServed_any _ _ _ _ _ hoB hf).mono ?_; rintro e w7 ⟨A7, c7, rfl, o7, b7⟩
            go_wp2_with fail
            refine (hasInt_any _ _ _ _ _ o7.cells l2).mono ?_; rintro e w7' ⟨rfl, rfl⟩
            go_wp2_with fail
            go_ret
            exact ⟨rfl, below_step tB b7⟩
          · go_wp2_with fail
            refine (implServed_any _ _ _ _ _ hoB hf).mono ?_; rintro e w7 ⟨A7, c7, rfl, o7, b7⟩
            go_wp2_with fail
            refine (hasInt_any _ _ _ _ _ o7.cells l2).mono ?_; rintro e w7' ⟨rfl, rfl⟩
            go_wp2_with fail
            refine (implTurn_any _ _ _ _ _ (hoB.below b7) hf).mono ?_; rintro e w8 ⟨rfl, b8⟩
            cases N2
            all_goals
              go_wp2_with fail
              go_ret
              exact ⟨rfl, below_step (below_step tB b7) b8⟩

end Go.Proofs.Ytdncdfcldnamiaa
