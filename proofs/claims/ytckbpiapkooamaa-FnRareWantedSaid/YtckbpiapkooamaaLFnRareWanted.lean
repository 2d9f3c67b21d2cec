/- laws.FnRareWanted: the walk. -/
import Derived.Test.YtckbpiapkooamaaR7
import Derived.Test.YtckbpiapkooamaaDrawR2
namespace Go.Proofs.Ytckbpiapkooamaa
open Go.RowKit

theorem mem_wanted {ps : List Bits} {mine : Bits} {k : Nat} (h : okB ps = true) (h2 : mine.length ≤ 16) (hk : k < 16) : decide ((k : Int) ∈ orderG ps mine) = (!bitAt mine k && decide (0 < cnt ps k)) := by
  rw [orderG_ok h h2, Bool.eq_iff_iff]
  simp only [decide_eq_true_eq, Bool.and_eq_true, Bool.not_eq_true', specTo_mem]
  constructor
  · rintro ⟨b, _, hb, h3, h4, _⟩
    obtain rfl : k = b := by omega
    exact ⟨h3, h4⟩
  · rintro ⟨h3, h4⟩
    exact ⟨k, hk, rfl, h3, h4, cnt_le _ _⟩

set_option maxRecDepth 100000 in
set_option maxHeartbeats 4000000 in
theorem rareWanted_walk (A : Option Addr) (c : Nat) (us : List Int) (w : World) (hr : Cells w A (bytes us)) (hu : ∀ u ∈ us, 0 ≤ u ∧ u ≤ 255) (hc : us.length ≤ c) :
    Calls Try.prog 15 #[.slice A us.length c] w (RetB w true) := by
  have Hu := hid hu
  clear hu
  by_cases h20 : 1048576 < us.length
  · go_enter Try.func15, Try.ntmps15
    go_wp2
    go_ret
    exact ⟨rfl, Below.refl _ _⟩
  · have hm : us.length ≤ 17592186044416 := by omega
    have hd : decide ((1048576 : Int) < (us.length : Int)) = false := by simp; omega
    clear h20
    go_enter Try.func15, Try.ntmps15
    go_wp2_with fail
    refine (drawOrder_any _ _ _ _ hr Hu.out hc hm).mono ?_
    rintro e w1 ⟨A1, c1, B1, d1, ps, mine, rfl, hml, hmi, hsm⟩
    clear hr hc hm hd
    obtain ⟨m, hm0⟩ : ∃ m, ps.length = m := ⟨_, rfl⟩
    have Hm := hid hm0
    have hm7 : m ≤ 7 := by rw [← hm0]; exact hsm.1
    have Hs := hid hsm.2.1
    have M1 := hid hsm.2.2.1
    have b1 := hsm.2.2.2
    obtain ⟨k0, hk0⟩ : ∃ k0, mine.length = k0 := ⟨_, rfl⟩
    have Hk := hid hk0
    have hk18 : k0 ≤ 18 := by rw [← hk0]; exact hml
    have C1 := hid hmi
    obtain ⟨L, hL⟩ : ∃ L, orderG ps mine = L := ⟨_, rfl⟩
    obtain ⟨n, hn⟩ : ∃ n, L.length = n := ⟨_, rfl⟩
    have hn16 : n ≤ 16 := by rw [← hn, ← hL]; exact orderG_len _ _
    have HL := hid hL
    have Hn := hid hn
    clear hL hn
    go_wp2_with fail
    clear hm0 hk0 hsm hmi hml
    refine (implOrder_g HL Hn Hm Hk _ _ _ _ _ M1.out Hs C1.out (by omega)).mono ?_; rintro e w2 ⟨A2, c2, rfl, o2, b2⟩
    have O2 := hid o2
    have M2 := hid (M1.out.below b2)
    have C2 := hid (C1.out.below b2)
    have hcp2 : n ≤ c2 := own_cap o2.row
    have hcm2 : c2 ≤ 9223372036854775807 := by have := own_capM o2.row; simp only [maxLen] at this; exact this
    have t2 := below_step b1 b2
    clear o2 b1 b2 M1 C1
    go_wp2_with fail
    refine (specOrder_g HL Hn Hm Hk _ _ _ _ _ M2.out Hs C2.out (by omega)).mono ?_; rintro e w3 ⟨A3, c3, rfl, o3, b3⟩
    have O3 := hid o3
    have P2 := hid (O2.out.below b3)
    have M3 := hid (M2.out.below b3)
    have C3 := hid (C2.out.below b3)
    have t3 := below_step t2 b3
    clear o3 b3 O2 M2 C2 t2
    go_wp2_with fail
    refine (sameInts_n Hn (by omega) _ _ _ _ _ P2.out.cells O3.out.cells).mono ?_; rintro e w4 ⟨rfl, b4⟩
    have O4 := hid (O3.out.below b4)
    have P4 := hid (P2.out.below b4)
    have M4 := hid (M3.out.below b4)
    have C4 := hid (C3.out.below b4)
    have t4 := below_step t3 b4
    clear b4 O3 P2 M3 C3 t3
    by_cases hl16 : 16 < k0
    · go_wp2_with fail
      refine (sameInts_n Hn (by omega) _ _ _ _ _ P4.out.cells O4.out.cells).mono ?_; rintro e w5 ⟨rfl, b5⟩
      go_wp2_with fail
      go_ret
      exact ⟨rfl, below_step t4 b5⟩
    · cases hok : okB ps
      · have HC : Hid (countG ps 0 = -1) := countG_bad (by rw [hok]; rfl)
        clear hok
        go_wp2_with fail
        refine (specCount_n Hm Hs _ _ _ _ HC _ M4.out).mono ?_; rintro e w5 ⟨rfl, rfl⟩
        go_wp2_with fail
        refine (sameInts_n Hn (by omega) _ _ _ _ _ P4.out.cells O4.out.cells).mono ?_; rintro e w5 ⟨rfl, b5⟩
        go_wp2_with fail
        go_ret
        exact ⟨rfl, below_step t4 b5⟩
      · have HC : Hid (countG ps 0 = (cnt ps 0 : Int)) := countG_ok (b := 0) hok (by decide)
        obtain ⟨z, hz⟩ : ∃ z, cnt ps 0 = z := ⟨_, rfl⟩
        rw [hz] at HC
        have Hok := hid hok
        clear hok hz
        go_wp2_with fail
        refine (specCount_n Hm Hs _ _ _ _ HC _ M4.out).mono ?_; rintro e w5 ⟨rfl, rfl⟩
        go_wp2_with fail
        go_loop [7] (fun i => ∃ k : Nat, k ≤ 16 ∧ i = .int .i64 k) (fun i => 16 - (intOf i).toNat)
        case atStart => exact ⟨0, Nat.zero_le _, rfl⟩
        case round =>
          obtain ⟨k, hk, rfl⟩ := hrel
          by_cases hlt : k < 16
          · have hmem := mem_wanted (ps := ps) (mine := mine) (k := k) Hok.out (by rw [Hk.out]; omega) hlt
            rw [HL.out] at hmem
            obtain ⟨q, hq⟩ : ∃ q, cnt ps k = q := ⟨_, rfl⟩
            have HQ := hid hq
            rw [hq] at hmem
            obtain ⟨bb, hbb⟩ : ∃ bb, decide ((k : Int) ∈ L) = bb := ⟨_, rfl⟩
            have HB := hid hbb
            rw [hbb] at hmem
            clear hbb hq
            by_cases hin : k < k0
            · obtain ⟨v, hv⟩ : ∃ v, mine[k]? = some v := ⟨mine[k]'(by rw [Hk.out]; exact hin), List.getElem?_eq_getElem _⟩
              obtain ⟨g, off, rfl, hcv⟩ := C4.out.bool_of hv
              rw [bitAt_in hv] at hmem
              clear hv
              cases v
              · by_cases hq0 : 0 < q
                · have hbt : bb = true := by rw [hmem]; simpa using hq0
                  subst hbt
                  clear hmem
                  go_wp2_with (first | (go_at_call 36; refine (hasInt_n Hn (by omega) _ _ _ _ HB _ P4.out.cells).mono ?_; rintro e w5 ⟨rfl, rfl⟩) | (go_at_call 23; refine (holders_n Hm (by omega) _ _ _ _ HQ _ M4.out).mono ?_; rintro e w5 ⟨rfl, rfl⟩))
                  go_round
                  case rel => exact ⟨k + 1, by omega, by go_num⟩
                  case measure => simp [intOf]; omega
                · have hbt : bb = false := by rw [hmem]; simp; omega
                  subst hbt
                  clear hmem
                  go_wp2_with (first | (go_at_call 36; refine (hasInt_n Hn (by omega) _ _ _ _ HB _ P4.out.cells).mono ?_; rintro e w5 ⟨rfl, rfl⟩) | (go_at_call 23; refine (holders_n Hm (by omega) _ _ _ _ HQ _ M4.out).mono ?_; rintro e w5 ⟨rfl, rfl⟩))
                  go_round
                  case rel => exact ⟨k + 1, by omega, by go_num⟩
                  case measure => simp [intOf]; omega
              · have hbt : bb = false := by rw [hmem]; rfl
                subst hbt
                clear hmem
                go_wp2_with (first | (go_at_call 36; refine (hasInt_n Hn (by omega) _ _ _ _ HB _ P4.out.cells).mono ?_; rintro e w5 ⟨rfl, rfl⟩) | (go_at_call 23; refine (holders_n Hm (by omega) _ _ _ _ HQ _ M4.out).mono ?_; rintro e w5 ⟨rfl, rfl⟩))
                go_round
                case rel => exact ⟨k + 1, by omega, by go_num⟩
                case measure => simp [intOf]; omega
            · rw [bitAt_out (bs := mine) (b := k) (by rw [Hk.out]; omega)] at hmem
              by_cases hq0 : 0 < q
              · have hbt : bb = true := by rw [hmem]; simpa using hq0
                subst hbt
                clear hmem
                go_wp2_with (first | (go_at_call 36; refine (hasInt_n Hn (by omega) _ _ _ _ HB _ P4.out.cells).mono ?_; rintro e w5 ⟨rfl, rfl⟩) | (go_at_call 23; refine (holders_n Hm (by omega) _ _ _ _ HQ _ M4.out).mono ?_; rintro e w5 ⟨rfl, rfl⟩))
                go_round
                case rel => exact ⟨k + 1, by omega, by go_num⟩
                case measure => simp [intOf]; omega
              · have hbt : bb = false := by rw [hmem]; simp; omega
                subst hbt
                clear hmem
                go_wp2_with (first | (go_at_call 36; refine (hasInt_n Hn (by omega) _ _ _ _ HB _ P4.out.cells).mono ?_; rintro e w5 ⟨rfl, rfl⟩) | (go_at_call 23; refine (holders_n Hm (by omega) _ _ _ _ HQ _ M4.out).mono ?_; rintro e w5 ⟨rfl, rfl⟩))
                go_round
                case rel => exact ⟨k + 1, by omega, by go_num⟩
                case measure => simp [intOf]; omega
          · go_wp2
            go_ret
            exact ⟨rfl, t4⟩

end Go.Proofs.Ytckbpiapkooamaa
