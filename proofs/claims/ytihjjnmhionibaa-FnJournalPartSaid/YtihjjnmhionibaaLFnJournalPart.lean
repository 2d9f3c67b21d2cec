/- laws.FnJournalPart: the walk. -/
import Derived.Test.YtihjjnmhionibaaLJ0
import Derived.Deep.RegionWith
import Derived.Deep.RegionHeld3
namespace Go.Proofs.Ytihjjnmhionibaa
open Go.RowKit

theorem blocksG_le (l : List RecT) (s k : Int) : (blocksG l s k).1.length ≤ 16 := by
  unfold blocksG
  split
  · rename_i h
    rw [Bool.and_eq_true, inB_iff] at h
    rw [blkT_length]; omega
  · simp

set_option maxRecDepth 100000 in
set_option maxHeartbeats 4000000 in
theorem journalPart_walk (A : Option Addr) (c : Nat) (us : List Int) (B : Option Addr) (d : Nat) (vs : List Int) (w : World) (hr : Cells w A (bytes us)) (hu : ∀ u ∈ us, 0 ≤ u ∧ u ≤ 255) (hc : us.length ≤ c) :
    Calls Try.prog 14 #[.slice A us.length c, .slice B vs.length d] w (RetB w true) := by
  have Hu := hid hu
  clear hu
  by_cases h20 : 1048576 < us.length
  · go_enter Try.func14, Try.ntmps14
    go_wp2
    go_ret
    exact ⟨rfl, Below.refl _ _⟩
  · have hm : us.length ≤ 17592186044416 := by omega
    have hd : decide ((1048576 : Int) < (us.length : Int)) = false := by simp; omega
    clear h20
    by_cases h21 : 1048576 < vs.length
    · have hd2 : decide ((1048576 : Int) < (vs.length : Int)) = true := by simp; omega
      go_enter Try.func14, Try.ntmps14
      go_wp2
      go_ret
      exact ⟨rfl, Below.refl _ _⟩
    have hd2 : decide ((1048576 : Int) < (vs.length : Int)) = false := by simp; omega
    have hvl : vs.length ≤ 1048576 := by omega
    clear h21
    go_enter Try.func14, Try.ntmps14
    go_wp2_with fail
    refine (drawBlocks_any _ _ _ _ hr Hu.out hc hm).mono ?_
    rintro e w1 ⟨A1, c1, m, s, l, x, rfl, hm30, hx0, hx1, Hm, Hsm, o1, b1⟩
    clear hr hc hm hd hd2 Hu
    have HS : Hid (SmallR l) := Hsm.out.small Hm.out (by omega)
    obtain ⟨T, H, hG⟩ : ∃ T H, blocksG l s x = (T, H) := ⟨_, _, rfl⟩
    have hlens := blocksG_lens l s x
    rw [hG] at hlens
    obtain ⟨n, hn⟩ : ∃ n, T.length = n := ⟨_, rfl⟩
    have hn16 : n ≤ 16 := by rw [← hn]; have := blocksG_le l s x; rw [hG] at this; exact this
    have HG := hid hG
    have HT := hid hn
    have HH : Hid (H.length = n) := by unfold Hid; rw [← hlens]; exact hn
    clear hG hlens hn
    have X0 : BoxJ (w1.alloc (.cells #[.slice A1 m c1, .int .i64 s] 29)) w1.heap.size A1 c1 m s l := BoxJ.new o1
    have bz : Below w1.heap.size w1 (w1.alloc (.cells #[.slice A1 m c1, .int .i64 s] 29)) := (Below.refl _ _).alloc (Nat.le_refl _) _
    have t0 := below_step b1 bz
    clear o1 b1 bz
    go_wp2_with fail
    generalize (w1.alloc (.cells #[.slice A1 m c1, .int .i64 s] 29)) = w0 at X0 t0 ⊢
    obtain ⟨X0p, X0q, -, -⟩ := X0.blk.two
    refine (implBlocks_g HG HT HH Hm HS _ _ _ X0.cells).mono ?_; rintro e w11 ⟨A11, c11, B11, d11, rfl, p11, q11, hc11, hd11, b11⟩
    have X11 := X0.below b11
    have t11 := below_step t0 b11
    obtain ⟨X11p, X11q, -, -⟩ := X11.blk.two
    clear X0 t0 X0p X0q b11
    go_wp2_with fail
    refine (specBlocks_g HG HT HH Hm HS _ _ _ X11.cells).mono ?_; rintro e w12 ⟨A12, c12, B12, d12, rfl, p12, q12, hc12, hd12, b12⟩
    have X12 := X11.below b12
    have ua12 := p11.below b12
    have ux12 := q11.below b12
    have t12 := below_step t11 b12
    obtain ⟨X12p, X12q, -, -⟩ := X12.blk.two
    clear X11 p11 q11 t11 X11p X11q b12
    obtain ⟨v, hv⟩ : ∃ v, validJ l s = v := ⟨_, rfl⟩
    have Hv := hid hv
    clear hv
    cases v
    · skip
      go_wp2_with fail
      refine (sameT_g HT (by omega) _ _ _ _ _ ua12 p12).mono ?_; rintro e w13 ⟨rfl, b13⟩
      have X13 := X12.below b13
      have ua13 := ua12.below b13
      have ux13 := ux12.below b13
      have ub13 := p12.below b13
      have uy13 := q12.below b13
      have t13 := below_step t12 b13
      obtain ⟨X13p, X13q, -, -⟩ := X13.blk.two
      clear X12 ua12 ux12 p12 q12 t12 X12p X12q b13
      go_wp2_with fail
      refine (sameB_g HH (by omega) _ _ _ _ _ ux13 uy13).mono ?_; rintro e w14 ⟨rfl, b14⟩
      have X14 := X13.below b14
      have ua14 := ua13.below b14
      have ux14 := ux13.below b14
      have ub14 := ub13.below b14
      have uy14 := uy13.below b14
      have t14 := below_step t13 b14
      obtain ⟨X14p, X14q, -, -⟩ := X14.blk.two
      clear X13 ua13 ux13 ub13 uy13 t13 X13p X13q b14
      go_wp2_with fail
      refine (specValid_g Hv Hm HS _ _ _ X14.cells).mono ?_; rintro e w15 ⟨rfl, b15⟩
      have X15 := X14.below b15
      have ua15 := ua14.below b15
      have ux15 := ux14.below b15
      have ub15 := ub14.below b15
      have uy15 := uy14.below b15
      have t15 := below_step t14 b15
      obtain ⟨X15p, X15q, -, -⟩ := X15.blk.two
      clear X14 ua14 ux14 ub14 uy14 t14 X14p X14q b15
      go_wp2_with fail
      refine (sameT_g HT (by omega) _ _ _ _ _ ua15 ub15).mono ?_; rintro e w16 ⟨rfl, b16⟩
      have X16 := X15.below b16
      have ua16 := ua15.below b16
      have ux16 := ux15.below b16
      have ub16 := ub15.below b16
      have uy16 := uy15.below b16
      have t16 := below_step t15 b16
      obtain ⟨X16p, X16q, -, -⟩ := X16.blk.two
      clear X15 ua15 ux15 ub15 uy15 t15 X15p X15q b16
      go_wp2_with fail
      refine (sameB_g HH (by omega) _ _ _ _ _ ux16 uy16).mono ?_; rintro e w17 ⟨rfl, b17⟩
      have X17 := X16.below b17
      have ua17 := ua16.below b17
      have ux17 := ux16.below b17
      have ub17 := ub16.below b17
      have uy17 := uy16.below b17
      have t17 := below_step t16 b17
      obtain ⟨X17p, X17q, -, -⟩ := X17.blk.two
      clear X16 ua16 ux16 ub16 uy16 t16 X16p X16q b17
      go_wp2_with fail
      go_ret
      exact ⟨rfl, t17⟩
    · skip
      by_cases hx : 0 ≤ x
      · skip
        by_cases hx16 : x ≤ 16
        · skip
          obtain ⟨N, hN⟩ := Int.eq_ofNat_of_zero_le hx
          subst hN
          have hf := HG.out
          rw [blocksG_ok Hv.out (by rw [inB_iff]; omega)] at hf
          injection hf with hT hH
          have hnN : N = n := by rw [← HT.out, ← hT, blkT_length]
          subst hnN
          have HT9 := hid hT
          have HH9 := hid hH
          clear hT hH
          go_wp2_with fail
          refine (sameT_g HT (by omega) _ _ _ _ _ ua12 p12).mono ?_; rintro e w13 ⟨rfl, b13⟩
          have X13 := X12.below b13
          have ua13 := ua12.below b13
          have ux13 := ux12.below b13
          have ub13 := p12.below b13
          have uy13 := q12.below b13
          have t13 := below_step t12 b13
          obtain ⟨X13p, X13q, -, -⟩ := X13.blk.two
          clear X12 ua12 ux12 p12 q12 t12 X12p X12q b13
          go_wp2_with fail
          refine (sameB_g HH (by omega) _ _ _ _ _ ux13 uy13).mono ?_; rintro e w14 ⟨rfl, b14⟩
          have X14 := X13.below b14
          have ua14 := ua13.below b14
          have ux14 := ux13.below b14
          have ub14 := ub13.below b14
          have uy14 := uy13.below b14
          have t14 := below_step t13 b14
          obtain ⟨X14p, X14q, -, -⟩ := X14.blk.two
          clear X13 ua13 ux13 ub13 uy13 t13 X13p X13q b14
          go_wp2_with fail
          refine (specValid_g Hv Hm HS _ _ _ X14.cells).mono ?_; rintro e w15 ⟨rfl, b15⟩
          have X15 := X14.below b15
          have ua15 := ua14.below b15
          have ux15 := ux14.below b15
          have ub15 := ub14.below b15
          have uy15 := uy14.below b15
          have t15 := below_step t14 b15
          obtain ⟨X15p, X15q, -, -⟩ := X15.blk.two
          clear X14 ua14 ux14 ub14 uy14 t14 X14p X14q b15
          obtain ⟨q, hq, e1, e2⟩ : ∃ q : Nat, q ≤ N ∧ (vs.length : Int).tmod ((N : Int) + 1) = q ∧ (vs.length : Int) % ((N : Int) + 1) = q := ⟨vs.length % (N + 1), by have := Nat.mod_lt vs.length (show 0 < N + 1 by omega); omega, by have := Int.ofNat_tmod vs.length (N + 1); push_cast at this; exact this, by push_cast; rfl⟩
          have HG2 : Hid (blocksG l s q = (T.take q, H.take q)) := by have h := blocksG_ok (l := l) (s := s) (n := q) Hv.out (by rw [inB_iff]; omega); rw [← blkT_take l hq, ← blkH_take l hq, HT9.out, HH9.out] at h; exact h
          have HTq : Hid ((T.take q).length = q) := by unfold Hid; rw [List.length_take, HT.out]; omega
          have HHq : Hid ((H.take q).length = q) := by unfold Hid; rw [List.length_take, HH.out]; omega
          have hqc : q ≤ c11 := by omega
          have hqd : q ≤ d11 := by omega
          go_wp2_with fail
          refine (implBlocks_g HG2 HTq HHq Hm HS _ _ _ X15.cells).mono ?_; rintro e w16 ⟨A16, c16, B16, d16, rfl, p16, q16, -, -, b16⟩
          have X16 := X15.below b16
          have ua16 := ua15.below b16
          have ux16 := ux15.below b16
          have ub16 := ub15.below b16
          have uy16 := uy15.below b16
          have t16 := below_step t15 b16
          obtain ⟨X16p, X16q, -, -⟩ := X16.blk.two
          clear X15 ua15 ux15 ub15 uy15 t15 X15p X15q b16
          go_wp2_with fail
          refine (sameT_g HTq (by omega) _ _ _ _ _ p16 (by have h := ua16.take q; unfold strs at h ⊢; rw [← List.map_take] at h; exact h)).mono ?_; rintro e w17 ⟨rfl, b17⟩
          have X17 := X16.below b17
          have ua17 := ua16.below b17
          have ux17 := ux16.below b17
          have ub17 := ub16.below b17
          have uy17 := uy16.below b17
          have um17 := p16.below b17
          have un17 := q16.below b17
          have t17 := below_step t16 b17
          obtain ⟨X17p, X17q, -, -⟩ := X17.blk.two
          clear X16 ua16 ux16 ub16 uy16 p16 q16 t16 X16p X16q b17
          go_wp2_with fail
          refine (sameB_g HHq (by omega) _ _ _ _ _ un17 (by have h := ux17.take q; unfold bools at h ⊢; rw [← List.map_take] at h; exact h)).mono ?_; rintro e w18 ⟨rfl, b18⟩
          have X18 := X17.below b18
          have ua18 := ua17.below b18
          have ux18 := ux17.below b18
          have ub18 := ub17.below b18
          have uy18 := uy17.below b18
          have um18 := um17.below b18
          have un18 := un17.below b18
          have t18 := below_step t17 b18
          obtain ⟨X18p, X18q, -, -⟩ := X18.blk.two
          clear X17 ua17 ux17 ub17 uy17 um17 un17 t17 X17p X17q b18
          go_wp2_with fail
          go_ret
          exact ⟨rfl, t18⟩
        · skip
          go_wp2_with fail
          refine (sameT_g HT (by omega) _ _ _ _ _ ua12 p12).mono ?_; rintro e w13 ⟨rfl, b13⟩
          have X13 := X12.below b13
          have ua13 := ua12.below b13
          have ux13 := ux12.below b13
          have ub13 := p12.below b13
          have uy13 := q12.below b13
          have t13 := below_step t12 b13
          obtain ⟨X13p, X13q, -, -⟩ := X13.blk.two
          clear X12 ua12 ux12 p12 q12 t12 X12p X12q b13
          go_wp2_with fail
          refine (sameB_g HH (by omega) _ _ _ _ _ ux13 uy13).mono ?_; rintro e w14 ⟨rfl, b14⟩
          have X14 := X13.below b14
          have ua14 := ua13.below b14
          have ux14 := ux13.below b14
          have ub14 := ub13.below b14
          have uy14 := uy13.below b14
          have t14 := below_step t13 b14
          obtain ⟨X14p, X14q, -, -⟩ := X14.blk.two
          clear X13 ua13 ux13 ub13 uy13 t13 X13p X13q b14
          go_wp2_with fail
          refine (specValid_g Hv Hm HS _ _ _ X14.cells).mono ?_; rintro e w15 ⟨rfl, b15⟩
          have X15 := X14.below b15
          have ua15 := ua14.below b15
          have ux15 := ux14.below b15
          have ub15 := ub14.below b15
          have uy15 := uy14.below b15
          have t15 := below_step t14 b15
          obtain ⟨X15p, X15q, -, -⟩ := X15.blk.two
          clear X14 ua14 ux14 ub14 uy14 t14 X14p X14q b15
          go_wp2_with fail
          refine (sameT_g HT (by omega) _ _ _ _ _ ua15 ub15).mono ?_; rintro e w16 ⟨rfl, b16⟩
          have X16 := X15.below b16
          have ua16 := ua15.below b16
          have ux16 := ux15.below b16
          have ub16 := ub15.below b16
          have uy16 := uy15.below b16
          have t16 := below_step t15 b16
          obtain ⟨X16p, X16q, -, -⟩ := X16.blk.two
          clear X15 ua15 ux15 ub15 uy15 t15 X15p X15q b16
          go_wp2_with fail
          refine (sameB_g HH (by omega) _ _ _ _ _ ux16 uy16).mono ?_; rintro e w17 ⟨rfl, b17⟩
          have X17 := X16.below b17
          have ua17 := ua16.below b17
          have ux17 := ux16.below b17
          have ub17 := ub16.below b17
          have uy17 := uy16.below b17
          have t17 := below_step t16 b17
          obtain ⟨X17p, X17q, -, -⟩ := X17.blk.two
          clear X16 ua16 ux16 ub16 uy16 t16 X16p X16q b17
          go_wp2_with fail
          go_ret
          exact ⟨rfl, t17⟩
      · skip
        go_wp2_with fail
        refine (sameT_g HT (by omega) _ _ _ _ _ ua12 p12).mono ?_; rintro e w13 ⟨rfl, b13⟩
        have X13 := X12.below b13
        have ua13 := ua12.below b13
        have ux13 := ux12.below b13
        have ub13 := p12.below b13
        have uy13 := q12.below b13
        have t13 := below_step t12 b13
        obtain ⟨X13p, X13q, -, -⟩ := X13.blk.two
        clear X12 ua12 ux12 p12 q12 t12 X12p X12q b13
        go_wp2_with fail
        refine (sameB_g HH (by omega) _ _ _ _ _ ux13 uy13).mono ?_; rintro e w14 ⟨rfl, b14⟩
        have X14 := X13.below b14
        have ua14 := ua13.below b14
        have ux14 := ux13.below b14
        have ub14 := ub13.below b14
        have uy14 := uy13.below b14
        have t14 := below_step t13 b14
        obtain ⟨X14p, X14q, -, -⟩ := X14.blk.two
        clear X13 ua13 ux13 ub13 uy13 t13 X13p X13q b14
        go_wp2_with fail
        refine (specValid_g Hv Hm HS _ _ _ X14.cells).mono ?_; rintro e w15 ⟨rfl, b15⟩
        have X15 := X14.below b15
        have ua15 := ua14.below b15
        have ux15 := ux14.below b15
        have ub15 := ub14.below b15
        have uy15 := uy14.below b15
        have t15 := below_step t14 b15
        obtain ⟨X15p, X15q, -, -⟩ := X15.blk.two
        clear X14 ua14 ux14 ub14 uy14 t14 X14p X14q b15
        go_wp2_with fail
        refine (sameT_g HT (by omega) _ _ _ _ _ ua15 ub15).mono ?_; rintro e w16 ⟨rfl, b16⟩
        have X16 := X15.below b16
        have ua16 := ua15.below b16
        have ux16 := ux15.below b16
        have ub16 := ub15.below b16
        have uy16 := uy15.below b16
        have t16 := below_step t15 b16
        obtain ⟨X16p, X16q, -, -⟩ := X16.blk.two
        clear X15 ua15 ux15 ub15 uy15 t15 X15p X15q b16
        go_wp2_with fail
        refine (sameB_g HH (by omega) _ _ _ _ _ ux16 uy16).mono ?_; rintro e w17 ⟨rfl, b17⟩
        have X17 := X16.below b17
        have ua17 := ua16.below b17
        have ux17 := ux16.below b17
        have ub17 := ub16.below b17
        have uy17 := uy16.below b17
        have t17 := below_step t16 b17
        obtain ⟨X17p, X17q, -, -⟩ := X17.blk.two
        clear X16 ua16 ux16 ub16 uy16 t16 X16p X16q b17
        go_wp2_with fail
        go_ret
        exact ⟨rfl, t17⟩

end Go.Proofs.Ytihjjnmhionibaa
