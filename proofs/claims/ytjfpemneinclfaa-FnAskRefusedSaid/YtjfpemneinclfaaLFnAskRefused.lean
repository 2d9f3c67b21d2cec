/- laws.FnAskRefused: the walk. -/
import Derived.Test.YtjfpemneinclfaaLW0
import Derived.Deep.RegionHeld3
namespace Go.Proofs.Ytjfpemneinclfaa
open Go.RowKit

set_option maxHeartbeats 2000000 in
theorem askRefused_walk (A : Option Addr) (c : Nat) (us : List Int) (w : World) (hr : Cells w A (bytes us)) (hu : ∀ u ∈ us, 0 ≤ u ∧ u ≤ 255) (hc : us.length ≤ c) :
    Calls Try.prog 13 #[.slice A us.length c] w (RetB w true) := by
  have Hu := hid hu
  clear hu
  by_cases h20 : 1048576 < us.length
  · go_enter Try.func13, Try.ntmps13
    go_wp2
    go_ret
    exact ⟨rfl, Below.refl _ _⟩
  · have hm : us.length ≤ 17592186044416 := by omega
    have hd : decide ((1048576 : Int) < (us.length : Int)) = false := by simp; omega
    clear h20
    go_enter Try.func13, Try.ntmps13
    go_wp2_with fail
    refine (drawAsk_any _ _ _ _ hr Hu.out hc hm).mono ?_
    rintro e w1 ⟨A1, c1, l, x, y, en, rfl, hl, o1, b1⟩
    clear hr hc hm hd
    have ba : Below w1.heap.size w1 (w1.alloc (.cells #[.int .i64 x, .int .i64 y] 34)) := (Below.refl _ _).alloc (Nat.le_refl _) _
    have ka := hid (Blk.new w1 34 [.int .i64 x, .int .i64 y])
    have ta := below_step b1 ba
    have Oa := hid (o1.below ba)
    have hcp : l.length ≤ c1 := own_cap o1.row
    obtain ⟨L, ok, hG⟩ : ∃ L ok, askG l (x, y) en = (L, ok) := ⟨_, _, rfl⟩
    have hLn := askG_len l (x, y) en
    rw [hG] at hLn
    have HG := hid hG
    obtain ⟨n, hn⟩ : ∃ n, L.length = n := ⟨_, rfl⟩
    have hn16 : n ≤ 16 := by simp only at hLn; omega
    have Hn := hid hn
    obtain ⟨m, hm0⟩ : ∃ m, l.length = m := ⟨_, rfl⟩
    have Hm := hid hm0
    rw [hm0] at hl hcp
    clear hG hLn hn b1
    go_wp2_with fail
    generalize w1.alloc (.cells #[.int .i64 x, .int .i64 y] 34) = wa at ba ka ta Oa ⊢
    have ca0 := ka.out.cell 0
    have ca1 := ka.out.cell 1
    simp only [List.getElem?_cons_zero, List.getElem?_cons_succ] at ca0 ca1
    rw [hm0] at Oa
    clear hm0 o1 ba ka
    refine (implAsk_g HG Hm Hn (by omega) _ _ _ Oa.out.cells hcp).mono ?_; rintro e w2 ⟨A2, c2, rfl, o2, b2⟩
    have ce0 := cell_later b2 ca0
    have ce1 := cell_later b2 ca1
    go_wp2_with fail
    refine (specAsk_g HG Hm Hn (by omega) _ _ _ (Oa.out.below b2).cells hcp).mono ?_; rintro e w3 ⟨A3, c3, rfl, o3, b3⟩
    have cf0 := cell_later b3 ce0
    have cf1 := cell_later b3 ce1
    have O2 := hid (o2.below b3)
    have O3 := hid o3
    have t3 := below_step (below_step ta b2) b3
    have O1 := hid ((Oa.out.below b2).below b3)
    have hcp2 : n ≤ c2 := own_cap o2.row
    clear ca0 ca1 ce0 ce1 o2 o3 b2 b3 ta Oa
    skip
    go_wp2_with fail
    refine (sameAsks_g Hn (by omega) _ _ _ _ _ O2.out.cells O3.out.cells).mono ?_; rintro e w4 ⟨rfl, b4⟩
    have cg0 := cell_later b4 cf0
    have cg1 := cell_later b4 cf1
    have t4 := below_step t3 b4
    have Q1 := hid (O1.out.below b4)
    have Q2 := hid (O2.out.below b4)
    have Q3 := hid (O3.out.below b4)
    clear O1 O2 O3 b4 t3 cf0 cf1
    cases hv : validB l
    · have HV0 := hid hv
      have hno : ok = false := by have := HG.out; rw [askG_bad (by rw [hv]; rfl)] at this; injection this with _ h; exact h.symm
      subst hno
      clear hv
      go_wp2_with fail
      refine (specValid_g Hm HV0 (by omega) _ _ _ Q1.out.cells hcp).mono ?_; rintro e w5 ⟨rfl, b5⟩
      go_wp2_with fail
      refine (sameAsks_g Hn (by omega) _ _ _ _ _ (Q2.out.below b5).cells (Q3.out.below b5).cells).mono ?_; rintro e w6 ⟨rfl, b6⟩
      go_wp2_with fail
      go_ret
      exact ⟨rfl, below_step (below_step t4 b5) b6⟩
    · have HV0 := hid hv
      cases ha : askB (x, y)
      · have hno : ok = false := by have := HG.out; rw [askG_bad (by rw [ha]; simp)] at this; injection this with _ h; exact h.symm
        subst hno
        have hout : x < 0 ∨ 6 ≤ x ∨ y < 0 ∨ 16 ≤ y := by
          simp only [askB, inB, Bool.and_eq_false_iff, decide_eq_false_iff_not] at ha
          omega
        clear hv ha
        go_wp2_with fail
        refine (specValid_g Hm HV0 (by omega) _ _ _ Q1.out.cells hcp).mono ?_; rintro e w5 ⟨rfl, b5⟩
        have ch0 := cell_later b5 cg0
        have ch1 := cell_later b5 cg1
        have t5 := below_step t4 b5
        have R2 := hid (Q2.out.below b5)
        have R3 := hid (Q3.out.below b5)
        clear Q2 Q3 cg0 cg1
        by_cases x0 : x < 0
        · clear hout
          go_wp2_with fail
          refine (sameAsks_g Hn (by omega) _ _ _ _ _ R2.out.cells R3.out.cells).mono ?_; rintro e w6 ⟨rfl, b6⟩
          go_wp2_with fail
          go_ret
          exact ⟨rfl, below_step t5 b6⟩
        · by_cases x1 : 6 ≤ x
          · clear hout
            go_wp2_with fail
            refine (sameAsks_g Hn (by omega) _ _ _ _ _ R2.out.cells R3.out.cells).mono ?_; rintro e w6 ⟨rfl, b6⟩
            go_wp2_with fail
            go_ret
            exact ⟨rfl, below_step t5 b6⟩
          · by_cases y0 : y < 0
            · clear hout
              go_wp2_with fail
              refine (sameAsks_g Hn (by omega) _ _ _ _ _ R2.out.cells R3.out.cells).mono ?_; rintro e w6 ⟨rfl, b6⟩
              go_wp2_with fail
              go_ret
              exact ⟨rfl, below_step t5 b6⟩
            · have y1 : 16 ≤ y := by omega
              clear hout
              go_wp2_with fail
              refine (sameAsks_g Hn (by omega) _ _ _ _ _ R2.out.cells R3.out.cells).mono ?_; rintro e w6 ⟨rfl, b6⟩
              go_wp2_with fail
              go_ret
              exact ⟨rfl, below_step t5 b6⟩
      · have hin : 0 ≤ x ∧ x ≤ 5 ∧ 0 ≤ y ∧ y ≤ 15 := by
          simp only [askB, inB, Bool.and_eq_true, decide_eq_true_eq] at ha
          omega
        have hix : inB x 0 5 = true := by unfold askB at ha; rw [Bool.and_eq_true] at ha; exact ha.1
        obtain ⟨x0, x1, y0, y1⟩ := hin
        obtain ⟨p, hp⟩ : ∃ p, peerN l x = p := ⟨_, rfl⟩
        obtain ⟨q, hq⟩ : ∃ q, blockN l y = q := ⟨_, rfl⟩
        have HR : Hid (roomG l x = 3 - p) := by unfold Hid; rw [roomG_ok hv hix, hp]
        have HB := hid hq
        have hp3 : p ≤ 3 := by rw [← hp]; exact (validB_iff.1 hv).2.2.1 x
        have hq2 : q ≤ 2 := by rw [← hq]; exact (validB_iff.1 hv).2.2.2 y
        have key : Hid (∀ b, (hasA l (x, y) || decide (3 ≤ p) || decide ((if en then 2 else 1) ≤ q)) = b → ok = !b ∧ (b = true → L = l ∧ n = m)) := by
          intro b hb
          have hG := HG.out
          cases b
          · rw [askG_yes hv ha (by simpa only [hp, hq] using hb)] at hG
            injection hG with h1 h2; exact ⟨h2.symm, fun h => by cases h⟩
          · rw [askG_no hv ha (by simpa only [hp, hq] using hb)] at hG
            injection hG with h1 h2; exact ⟨h2.symm, fun _ => ⟨h1.symm, by rw [← Hn.out, ← Hm.out, h1]⟩⟩
        clear hv ha hp hq hix
        go_wp2_with fail
        refine (specValid_g Hm HV0 (by omega) _ _ _ Q1.out.cells hcp).mono ?_; rintro e w5 ⟨rfl, b5⟩
        have ch0 := cell_later b5 cg0
        have ch1 := cell_later b5 cg1
        have t5 := below_step t4 b5
        have R1 := hid (Q1.out.below b5)
        have R2 := hid (Q2.out.below b5)
        clear Q1 Q2 Q3 cg0 cg1 b5 t4
        obtain ⟨hA, hHA⟩ : ∃ h, hasA l (x, y) = h := ⟨_, rfl⟩
        have HH := hid hHA
        rw [hHA] at key
        clear hHA
        cases hA
        · by_cases hp2 : 3 ≤ p
          · obtain ⟨rfl, hLL⟩ := key.out true (by simp [hp2])
            obtain ⟨rfl, rfl⟩ := hLL rfl
            obtain rfl : p = 3 := by omega
            have e0 : ((3 : Int) - ((3 : Nat) : Int) == 0) = true := rfl
            clear key hp2
            cases en
            all_goals
              go_wp2_with fail
              refine (hasAsk_g Hm HH (by omega) _ _ _ R1.out.cells).mono ?_; rintro e w6 ⟨rfl, b6⟩
              have ci0 := cell_later b6 ch0
              have ci1 := cell_later b6 ch1
              go_wp2_with fail
              refine (implRoom_g Hm HR (by omega) _ _ _ (R1.out.below b6).cells hcp).mono ?_; rintro e w7 ⟨rfl, b7⟩
              go_wp2_with fail
              refine (sameAsks_g Hn (by omega) _ _ _ _ _ ((R2.out.below b6).below b7).cells ((R1.out.below b6).below b7).cells).mono ?_; rintro e w8 ⟨rfl, b8⟩
              go_wp2_with fail
              go_ret
              exact ⟨rfl, below_step (below_step (below_step t5 b6) b7) b8⟩
          · have e0 : ((3 : Int) - (p : Int) == 0) = false := by rw [beq_eq_false_iff_ne]; omega
            by_cases hq3 : (if en then 2 else 1) ≤ q
            · obtain ⟨rfl, hLL⟩ := key.out true (by simp [hq3])
              obtain ⟨rfl, rfl⟩ := hLL rfl
              clear key hp2
              cases en
              · have hq4 : 1 ≤ q := by simpa using hq3
                clear hq3
                go_wp2_with fail
                refine (hasAsk_g Hm HH (by omega) _ _ _ R1.out.cells).mono ?_; rintro e w6 ⟨rfl, b6⟩
                have ci0 := cell_later b6 ch0
                have ci1 := cell_later b6 ch1
                go_wp2_with fail
                refine (implRoom_g Hm HR (by omega) _ _ _ (R1.out.below b6).cells hcp).mono ?_; rintro e w7 ⟨rfl, b7⟩
                have cj1 := cell_later b7 ci1
                go_wp2_with fail
                refine (asksFor_g Hm HB (by omega) _ _ _ ((R1.out.below b6).below b7).cells).mono ?_; rintro e w8 ⟨rfl, rfl⟩
                go_wp2_with fail
                refine (sameAsks_g Hn (by omega) _ _ _ _ _ ((R2.out.below b6).below b7).cells ((R1.out.below b6).below b7).cells).mono ?_; rintro e w8 ⟨rfl, b8⟩
                go_wp2_with fail
                go_ret
                exact ⟨rfl, below_step (below_step (below_step t5 b6) b7) b8⟩
              · have hq4 : 2 ≤ q := by simpa using hq3
                clear hq3
                go_wp2_with fail
                refine (hasAsk_g Hm HH (by omega) _ _ _ R1.out.cells).mono ?_; rintro e w6 ⟨rfl, b6⟩
                have ci0 := cell_later b6 ch0
                have ci1 := cell_later b6 ch1
                go_wp2_with fail
                refine (implRoom_g Hm HR (by omega) _ _ _ (R1.out.below b6).cells hcp).mono ?_; rintro e w7 ⟨rfl, b7⟩
                have cj1 := cell_later b7 ci1
                go_wp2_with fail
                refine (asksFor_g Hm HB (by omega) _ _ _ ((R1.out.below b6).below b7).cells).mono ?_; rintro e w8 ⟨rfl, rfl⟩
                go_wp2_with fail
                refine (sameAsks_g Hn (by omega) _ _ _ _ _ ((R2.out.below b6).below b7).cells ((R1.out.below b6).below b7).cells).mono ?_; rintro e w8 ⟨rfl, b8⟩
                go_wp2_with fail
                go_ret
                exact ⟨rfl, below_step (below_step (below_step t5 b6) b7) b8⟩
            · obtain ⟨rfl, -⟩ := key.out false (by simp [hq3]; omega)
              clear key hp2
              cases en
              · have hq4 : q < 1 := by simp at hq3; omega
                clear hq3
                go_wp2_with fail
                refine (hasAsk_g Hm HH (by omega) _ _ _ R1.out.cells).mono ?_; rintro e w6 ⟨rfl, b6⟩
                have ci0 := cell_later b6 ch0
                have ci1 := cell_later b6 ch1
                go_wp2_with fail
                refine (implRoom_g Hm HR (by omega) _ _ _ (R1.out.below b6).cells hcp).mono ?_; rintro e w7 ⟨rfl, b7⟩
                have cj1 := cell_later b7 ci1
                go_wp2_with fail
                refine (asksFor_g Hm HB (by omega) _ _ _ ((R1.out.below b6).below b7).cells).mono ?_; rintro e w8 ⟨rfl, rfl⟩
                go_wp2_with fail
                go_ret
                exact ⟨ret_bool (by simp; omega), below_step (below_step t5 b6) b7⟩
              · have hq4 : q < 2 := by simp at hq3; omega
                clear hq3
                go_wp2_with fail
                refine (hasAsk_g Hm HH (by omega) _ _ _ R1.out.cells).mono ?_; rintro e w6 ⟨rfl, b6⟩
                have ci0 := cell_later b6 ch0
                have ci1 := cell_later b6 ch1
                go_wp2_with fail
                refine (implRoom_g Hm HR (by omega) _ _ _ (R1.out.below b6).cells hcp).mono ?_; rintro e w7 ⟨rfl, b7⟩
                have cj1 := cell_later b7 ci1
                go_wp2_with fail
                refine (asksFor_g Hm HB (by omega) _ _ _ ((R1.out.below b6).below b7).cells).mono ?_; rintro e w8 ⟨rfl, rfl⟩
                go_wp2_with fail
                go_ret
                exact ⟨ret_bool (by simp; omega), below_step (below_step t5 b6) b7⟩
        · obtain ⟨rfl, hLL⟩ := key.out true (by simp)
          obtain ⟨rfl, rfl⟩ := hLL rfl
          clear key
          cases en
          all_goals
            go_wp2_with fail
            refine (hasAsk_g Hm HH (by omega) _ _ _ R1.out.cells).mono ?_; rintro e w6 ⟨rfl, b6⟩
            go_wp2_with fail
            refine (sameAsks_g Hn (by omega) _ _ _ _ _ (R2.out.below b6).cells (R1.out.below b6).cells).mono ?_; rintro e w8 ⟨rfl, b8⟩
            go_wp2_with fail
            go_ret
            exact ⟨rfl, below_step (below_step t5 b6) b8⟩

end Go.Proofs.Ytjfpemneinclfaa
