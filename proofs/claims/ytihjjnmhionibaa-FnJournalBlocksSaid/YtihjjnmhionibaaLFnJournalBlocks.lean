/- laws.FnJournalBlocks: the walk. -/
import Derived.Test.YtihjjnmhionibaaLJ0
import Derived.Deep.RegionWith
import Derived.Deep.RegionHeld3
namespace Go.Proofs.Ytihjjnmhionibaa
open Go.RowKit

theorem blocksG_le (l : List RecT) (s k : Int) : (blocksG l s k).1.length ≤ 16 := by
  unfold blocksG
  split
  · rename_i h
    rw [Bool.and_eq_true, inB_iff] at h
    rw [blkT_length]; omega
  · simp

set_option maxRecDepth 100000 in
set_option maxHeartbeats 4000000 in
theorem journalBlocks_walk (A : Option Addr) (c : Nat) (us : List Int) (w : World) (hr : Cells w A (bytes us)) (hu : ∀ u ∈ us, 0 ≤ u ∧ u ≤ 255) (hc : us.length ≤ c) :
    Calls Try.prog 13 #[.slice A us.length c] w (RetB w true) := by
  have Hu := hid hu
  clear hu
  by_cases h20 : 1048576 < us.length
  · go_enter Try.func13, Try.ntmps13
    go_wp2
    go_ret
    exact ⟨rfl, Below.refl _ _⟩
  · have hm : us.length ≤ 17592186044416 := by omega
    have hd : decide ((1048576 : Int) < (us.length : Int)) = false := by simp; omega
    clear h20
    go_enter Try.func13, Try.ntmps13
    go_wp2_with fail
    refine (drawBlocks_any _ _ _ _ hr Hu.out hc hm).mono ?_
    rintro e w1 ⟨A1, c1, m, s, l, x, rfl, hm30, hx0, hx1, Hm, Hsm, o1, b1⟩
    clear hr hc hm hd Hu
    have HS : Hid (SmallR l) := Hsm.out.small Hm.out (by omega)
    obtain ⟨T, H, hG⟩ : ∃ T H, blocksG l s x = (T, H) := ⟨_, _, rfl⟩
    have hlens := blocksG_lens l s x
    rw [hG] at hlens
    obtain ⟨n, hn⟩ : ∃ n, T.length = n := ⟨_, rfl⟩
    have hn16 : n ≤ 16 := by rw [← hn]; have := blocksG_le l s x; rw [hG] at this; exact this
    have HG := hid hG
    have HT := hid hn
    have HH : Hid (H.length = n) := by unfold Hid; rw [← hlens]; exact hn
    clear hG hlens hn
    have X0 : BoxJ (w1.alloc (.cells #[.slice A1 m c1, .int .i64 s] 29)) w1.heap.size A1 c1 m s l := BoxJ.new o1
    have bz : Below w1.heap.size w1 (w1.alloc (.cells #[.slice A1 m c1, .int .i64 s] 29)) := (Below.refl _ _).alloc (Nat.le_refl _) _
    have t0 := below_step b1 bz
    clear o1 b1 bz
    go_wp2_with fail
    generalize (w1.alloc (.cells #[.slice A1 m c1, .int .i64 s] 29)) = w0 at X0 t0 ⊢
    obtain ⟨X0p, X0q, -, -⟩ := X0.blk.two
    refine (implBlocks_g HG HT HH Hm HS _ _ _ X0.cells).mono ?_; rintro e w11 ⟨A11, c11, B11, d11, rfl, p11, q11, hc11, hd11, b11⟩
    have X11 := X0.below b11
    have t11 := below_step t0 b11
    obtain ⟨X11p, X11q, -, -⟩ := X11.blk.two
    clear X0 t0 X0p X0q b11
    go_wp2_with fail
    refine (specBlocks_g HG HT HH Hm HS _ _ _ X11.cells).mono ?_; rintro e w12 ⟨A12, c12, B12, d12, rfl, p12, q12, hc12, hd12, b12⟩
    have X12 := X11.below b12
    have ua12 := p11.below b12
    have ux12 := q11.below b12
    have t12 := below_step t11 b12
    obtain ⟨X12p, X12q, -, -⟩ := X12.blk.two
    clear X11 p11 q11 t11 X11p X11q b12
    obtain ⟨v, hv⟩ : ∃ v, validJ l s = v := ⟨_, rfl⟩
    have Hv := hid hv
    clear hv
    cases v
    · skip
      go_wp2_with fail
      refine (sameT_g HT (by omega) _ _ _ _ _ ua12 p12).mono ?_; rintro e w13 ⟨rfl, b13⟩
      have X13 := X12.below b13
      have ua13 := ua12.below b13
      have ux13 := ux12.below b13
      have ub13 := p12.below b13
      have uy13 := q12.below b13
      have t13 := below_step t12 b13
      obtain ⟨X13p, X13q, -, -⟩ := X13.blk.two
      clear X12 ua12 ux12 p12 q12 t12 X12p X12q b13
      go_wp2_with fail
      refine (sameB_g HH (by omega) _ _ _ _ _ ux13 uy13).mono ?_; rintro e w14 ⟨rfl, b14⟩
      have X14 := X13.below b14
      have ua14 := ua13.below b14
      have ux14 := ux13.below b14
      have ub14 := ub13.below b14
      have uy14 := uy13.below b14
      have t14 := below_step t13 b14
      obtain ⟨X14p, X14q, -, -⟩ := X14.blk.two
      clear X13 ua13 ux13 ub13 uy13 t13 X13p X13q b14
      go_wp2_with fail
      refine (specValid_g Hv Hm HS _ _ _ X14.cells).mono ?_; rintro e w15 ⟨rfl, b15⟩
      have X15 := X14.below b15
      have ua15 := ua14.below b15
      have ux15 := ux14.below b15
      have ub15 := ub14.below b15
      have uy15 := uy14.below b15
      have t15 := below_step t14 b15
      obtain ⟨X15p, X15q, -, -⟩ := X15.blk.two
      clear X14 ua14 ux14 ub14 uy14 t14 X14p X14q b15
      go_wp2_with fail
      refine (sameT_g HT (by omega) _ _ _ _ _ ua15 ub15).mono ?_; rintro e w16 ⟨rfl, b16⟩
      have X16 := X15.below b16
      have ua16 := ua15.below b16
      have ux16 := ux15.below b16
      have ub16 := ub15.below b16
      have uy16 := uy15.below b16
      have t16 := below_step t15 b16
      obtain ⟨X16p, X16q, -, -⟩ := X16.blk.two
      clear X15 ua15 ux15 ub15 uy15 t15 X15p X15q b16
      go_wp2_with fail
      refine (sameB_g HH (by omega) _ _ _ _ _ ux16 uy16).mono ?_; rintro e w17 ⟨rfl, b17⟩
      have X17 := X16.below b17
      have ua17 := ua16.below b17
      have ux17 := ux16.below b17
      have ub17 := ub16.below b17
      have uy17 := uy16.below b17
      have t17 := below_step t16 b17
      obtain ⟨X17p, X17q, -, -⟩ := X17.blk.two
      clear X16 ua16 ux16 ub16 uy16 t16 X16p X16q b17
      go_wp2_with fail
      go_ret
      exact ⟨rfl, t17⟩
    · skip
      by_cases hx : 0 ≤ x
      · skip
        by_cases hx16 : x ≤ 16
        · skip
          obtain ⟨N, hN⟩ := Int.eq_ofNat_of_zero_le hx
          subst hN
          have hf := HG.out
          rw [blocksG_ok Hv.out (by rw [inB_iff]; omega)] at hf
          injection hf with hT hH
          have hnN : N = n := by rw [← HT.out, ← hT, blkT_length]
          subst hnN
          have HT9 := hid hT
          have HH9 := hid hH
          clear hT hH
          go_wp2_with fail
          refine (sameT_g HT (by omega) _ _ _ _ _ ua12 p12).mono ?_; rintro e w13 ⟨rfl, b13⟩
          have X13 := X12.below b13
          have ua13 := ua12.below b13
          have ux13 := ux12.below b13
          have ub13 := p12.below b13
          have uy13 := q12.below b13
          have t13 := below_step t12 b13
          obtain ⟨X13p, X13q, -, -⟩ := X13.blk.two
          clear X12 ua12 ux12 p12 q12 t12 X12p X12q b13
          go_wp2_with fail
          refine (sameB_g HH (by omega) _ _ _ _ _ ux13 uy13).mono ?_; rintro e w14 ⟨rfl, b14⟩
          have X14 := X13.below b14
          have ua14 := ua13.below b14
          have ux14 := ux13.below b14
          have ub14 := ub13.below b14
          have uy14 := uy13.below b14
          have t14 := below_step t13 b14
          obtain ⟨X14p, X14q, -, -⟩ := X14.blk.two
          clear X13 ua13 ux13 ub13 uy13 t13 X13p X13q b14
          go_wp2_with fail
          refine (specValid_g Hv Hm HS _ _ _ X14.cells).mono ?_; rintro e w15 ⟨rfl, b15⟩
          have X15 := X14.below b15
          have ua15 := ua14.below b15
          have ux15 := ux14.below b15
          have ub15 := ub14.below b15
          have uy15 := uy14.below b15
          have t15 := below_step t14 b15
          obtain ⟨X15p, X15q, -, -⟩ := X15.blk.two
          clear X14 ua14 ux14 ub14 uy14 t14 X14p X14q b15
          have hpos := hid (fun a ha => (recB_parts ((validJ_parts Hv.out).2.2 a ha)).1)
          go_wp2_with fail
          go_loop [9] (fun i => ∃ j : Nat, j ≤ N ∧ i = .int .i64 j) (fun i => N - (intOf i).toNat)
          case atStart => exact ⟨0, Nat.zero_le _, rfl⟩
          case round =>
            obtain ⟨j, hj, rfl⟩ := hrel
            by_cases hlt : j < N
            · skip
              go_wp2_with fail
              go_loop [10, 11, 12] (fun tx bx i => ∃ (k : Nat) (tv : ByteArray) (hv : Bool), k ≤ m ∧ i = .int .i64 k ∧ tx = .string tv ∧ bx = .bool hv ∧ Hid (tv = lastT (l.take k) j) ∧ Hid (hv = lastH (l.take k) j)) (fun _ _ i => m - (intOf i).toNat)
              case atStart => exact ⟨0, ⟨#[]⟩, false, Nat.zero_le _, rfl, rfl, rfl, rfl, rfl⟩
              case round =>
                obtain ⟨k, tv, hv, hk, rfl, rfl, rfl, htv, hhv⟩ := hrel
                by_cases hkm : k < m
                · skip
                  obtain ⟨b1, f1, i, t, hA1, hz, r0, r1⟩ := X15.cells.rec_at (k := k) (by rw [Hm.out]; exact hkm)
                  subst hA1
                  by_cases hij : i = (j : Int)
                  · skip
                    have hl := last_hit hz.out hij
                    have hl1 := hid hl.1
                    have hl2 := hid hl.2
                    have e1 : (i == (j : Int)) = true := by rw [beq_iff_eq]; exact hij
                    clear hl hij
                    go_wp2
                    go_round
                    case rel => exact ⟨k + 1, _, _, by omega, by go_num, rfl, rfl, hl1.out.symm, hl2.out.symm⟩
                    case measure => simp [intOf]; omega
                  · skip
                    have hl := last_miss hz.out hij
                    have hl1 := hid (htv.out.trans hl.1.symm)
                    have hl2 := hid (hhv.out.trans hl.2.symm)
                    have e1 : (i == (j : Int)) = false := by rw [beq_eq_false_iff_ne]; exact hij
                    clear hl hij
                    go_wp2
                    go_round
                    case rel => exact ⟨k + 1, _, _, by omega, by go_num, rfl, rfl, hl1.out, hl2.out⟩
                    case measure => simp [intOf]; omega
                · skip
                  obtain rfl : k = m := by omega
                  clear hkm
                  have h1 : T[j]? = some tv := by rw [htv.out, List.take_of_length_le (by rw [Hm.out]; exact Nat.le_refl _), ← HT9.out]; exact blkT_at hpos.out hlt
                  have h2 : H[j]? = some hv := by rw [hhv.out, List.take_of_length_le (by rw [Hm.out]; exact Nat.le_refl _), ← HH9.out]; exact blkH_at hpos.out hlt
                  obtain ⟨g3, f3, hA3, r3⟩ := ua15.cell_at (strs_get h1)
                  subst hA3
                  obtain ⟨g4, f4, hA4, r4⟩ := ux15.cell_at (bools_get h2)
                  subst hA4
                  clear h1 h2
                  go_wp2
                  go_round
                  case rel => exact ⟨j + 1, by omega, by go_num⟩
                  case measure => simp [intOf]; omega
            · skip
              obtain rfl : j = N := by omega
              go_wp2
              go_ret
              exact ⟨rfl, t15⟩
        · skip
          go_wp2_with fail
          refine (sameT_g HT (by omega) _ _ _ _ _ ua12 p12).mono ?_; rintro e w13 ⟨rfl, b13⟩
          have X13 := X12.below b13
          have ua13 := ua12.below b13
          have ux13 := ux12.below b13
          have ub13 := p12.below b13
          have uy13 := q12.below b13
          have t13 := below_step t12 b13
          obtain ⟨X13p, X13q, -, -⟩ := X13.blk.two
          clear X12 ua12 ux12 p12 q12 t12 X12p X12q b13
          go_wp2_with fail
          refine (sameB_g HH (by omega) _ _ _ _ _ ux13 uy13).mono ?_; rintro e w14 ⟨rfl, b14⟩
          have X14 := X13.below b14
          have ua14 := ua13.below b14
          have ux14 := ux13.below b14
          have ub14 := ub13.below b14
          have uy14 := uy13.below b14
          have t14 := below_step t13 b14
          obtain ⟨X14p, X14q, -, -⟩ := X14.blk.two
          clear X13 ua13 ux13 ub13 uy13 t13 X13p X13q b14
          go_wp2_with fail
          refine (specValid_g Hv Hm HS _ _ _ X14.cells).mono ?_; rintro e w15 ⟨rfl, b15⟩
          have X15 := X14.below b15
          have ua15 := ua14.below b15
          have ux15 := ux14.below b15
          have ub15 := ub14.below b15
          have uy15 := uy14.below b15
          have t15 := below_step t14 b15
          obtain ⟨X15p, X15q, -, -⟩ := X15.blk.two
          clear X14 ua14 ux14 ub14 uy14 t14 X14p X14q b15
          go_wp2_with fail
          refine (sameT_g HT (by omega) _ _ _ _ _ ua15 ub15).mono ?_; rintro e w16 ⟨rfl, b16⟩
          have X16 := X15.below b16
          have ua16 := ua15.below b16
          have ux16 := ux15.below b16
          have ub16 := ub15.below b16
          have uy16 := uy15.below b16
          have t16 := below_step t15 b16
          obtain ⟨X16p, X16q, -, -⟩ := X16.blk.two
          clear X15 ua15 ux15 ub15 uy15 t15 X15p X15q b16
          go_wp2_with fail
          refine (sameB_g HH (by omega) _ _ _ _ _ ux16 uy16).mono ?_; rintro e w17 ⟨rfl, b17⟩
          have X17 := X16.below b17
          have ua17 := ua16.below b17
          have ux17 := ux16.below b17
          have ub17 := ub16.below b17
          have uy17 := uy16.below b17
          have t17 := below_step t16 b17
          obtain ⟨X17p, X17q, -, -⟩ := X17.blk.two
          clear X16 ua16 ux16 ub16 uy16 t16 X16p X16q b17
          go_wp2_with fail
          go_ret
          exact ⟨rfl, t17⟩
      · skip
        go_wp2_with fail
        refine (sameT_g HT (by omega) _ _ _ _ _ ua12 p12).mono ?_; rintro e w13 ⟨rfl, b13⟩
        have X13 := X12.below b13
        have ua13 := ua12.below b13
        have ux13 := ux12.below b13
        have ub13 := p12.below b13
        have uy13 := q12.below b13
        have t13 := below_step t12 b13
        obtain ⟨X13p, X13q, -, -⟩ := X13.blk.two
        clear X12 ua12 ux12 p12 q12 t12 X12p X12q b13
        go_wp2_with fail
        refine (sameB_g HH (by omega) _ _ _ _ _ ux13 uy13).mono ?_; rintro e w14 ⟨rfl, b14⟩
        have X14 := X13.below b14
        have ua14 := ua13.below b14
        have ux14 := ux13.below b14
        have ub14 := ub13.below b14
        have uy14 := uy13.below b14
        have t14 := below_step t13 b14
        obtain ⟨X14p, X14q, -, -⟩ := X14.blk.two
        clear X13 ua13 ux13 ub13 uy13 t13 X13p X13q b14
        go_wp2_with fail
        refine (specValid_g Hv Hm HS _ _ _ X14.cells).mono ?_; rintro e w15 ⟨rfl, b15⟩
        have X15 := X14.below b15
        have ua15 := ua14.below b15
        have ux15 := ux14.below b15
        have ub15 := ub14.below b15
        have uy15 := uy14.below b15
        have t15 := below_step t14 b15
        obtain ⟨X15p, X15q, -, -⟩ := X15.blk.two
        clear X14 ua14 ux14 ub14 uy14 t14 X14p X14q b15
        go_wp2_with fail
        refine (sameT_g HT (by omega) _ _ _ _ _ ua15 ub15).mono ?_; rintro e w16 ⟨rfl, b16⟩
        have X16 := X15.below b16
        have ua16 := ua15.below b16
        have ux16 := ux15.below b16
        have ub16 := ub15.below b16
        have uy16 := uy15.below b16
        have t16 := below_step t15 b16
        obtain ⟨X16p, X16q, -, -⟩ := X16.blk.two
        clear X15 ua15 ux15 ub15 uy15 t15 X15p X15q b16
        go_wp2_with fail
        refine (sameB_g HH (by omega) _ _ _ _ _ ux16 uy16).mono ?_; rintro e w17 ⟨rfl, b17⟩
        have X17 := X16.below b17
        have ua17 := ua16.below b17
        have ux17 := ux16.below b17
        have ub17 := ub16.below b17
        have uy17 := uy16.below b17
        have t17 := below_step t16 b17
        obtain ⟨X17p, X17q, -, -⟩ := X17.blk.two
        clear X16 ua16 ux16 ub16 uy16 t16 X16p X16q b17
        go_wp2_with fail
        go_ret
        exact ⟨rfl, t17⟩

end Go.Proofs.Ytihjjnmhionibaa
