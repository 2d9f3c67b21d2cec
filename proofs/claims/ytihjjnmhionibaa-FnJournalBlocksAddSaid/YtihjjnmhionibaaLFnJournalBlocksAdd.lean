/- laws.FnJournalBlocksAdd: the walk. -/
import Derived.Test.YtihjjnmhionibaaLJ0
import Derived.Deep.RegionWith
import Derived.Deep.RegionHeld3
namespace Go.Proofs.Ytihjjnmhionibaa
open Go.RowKit

set_option maxRecDepth 100000 in
set_option maxHeartbeats 4000000 in
theorem journalBlocksAdd_walk (A : Option Addr) (c : Nat) (us : List Int) (B : Option Addr) (d : Nat) (vs : List Int) (w : World) (hr : Cells w A (bytes us)) (hu : ∀ u ∈ us, 0 ≤ u ∧ u ≤ 255) (hc : us.length ≤ c) :
    Calls Try.prog 10 #[.slice A us.length c, .slice B vs.length d] w (RetB w true) := by
  have Hu := hid hu
  clear hu
  by_cases h20 : 1048576 < us.length
  · go_enter Try.func10, Try.ntmps10
    go_wp2
    go_ret
    exact ⟨rfl, Below.refl _ _⟩
  · have hm : us.length ≤ 17592186044416 := by omega
    have hd : decide ((1048576 : Int) < (us.length : Int)) = false := by simp; omega
    clear h20
    by_cases h21 : 1048576 < vs.length
    · have hd2 : decide ((1048576 : Int) < (vs.length : Int)) = true := by simp; omega
      go_enter Try.func10, Try.ntmps10
      go_wp2
      go_ret
      exact ⟨rfl, Below.refl _ _⟩
    have hd2 : decide ((1048576 : Int) < (vs.length : Int)) = false := by simp; omega
    have hvl : vs.length ≤ 1048576 := by omega
    clear h21
    go_enter Try.func10, Try.ntmps10
    go_wp2_with fail
    refine (drawAdd_any _ _ _ _ hr Hu.out hc hm).mono ?_
    rintro e w1 ⟨A1, c1, m, s, l, i, t, rfl, hm30, ht10, Hm, Hsm, o1, b1⟩
    clear hr hc hm hd hd2 Hu
    have HS : Hid (SmallR l) := Hsm.out.small Hm.out (by omega)
    obtain ⟨L, s', ok, hG⟩ : ∃ L s' ok, addG l s (i, t) = (L, s', ok) := ⟨_, _, _, rfl⟩
    obtain ⟨n, hn⟩ : ∃ n, L.length = n := ⟨_, rfl⟩
    have hG2 := addG_small (s := s) (a := (i, t)) Hsm.out ht10
    rw [hG] at hG2
    have hn31 : n ≤ 31 := by have h1 := hG2.2; have h2 := Hm.out; simp only at h1; omega
    have HSL : Hid (SmallR L) := hG2.1.small hn (by omega)
    have HG := hid hG
    have Hn := hid hn
    clear hG hG2 hn
    obtain ⟨X0, Y0, bz⟩ := boxes2 s i t o1
    have t0 := below_step b1 bz
    clear o1 b1 bz
    go_wp2_with fail
    generalize ((w1.alloc (.cells #[.slice A1 m c1, .int .i64 s] 29)).alloc (.cells #[.int .i64 i, .string t] 35)) = w0 at X0 Y0 t0 ⊢
    obtain ⟨X0p, X0q, -, -⟩ := X0.blk.two
    obtain ⟨Y0p, Y0q, -, -⟩ := Y0.blk.two
    refine (implAdd_g HG Hm Hn HS (by omega) _ _ _ X0.cells).mono ?_; rintro e w11 ⟨A11, c11, rfl, o11, b11⟩
    have X11 := X0.below b11
    have Y11 := Y0.below b11
    have t11 := below_step t0 b11
    obtain ⟨X11p, X11q, -, -⟩ := X11.blk.two
    obtain ⟨Y11p, Y11q, -, -⟩ := Y11.blk.two
    clear X0 Y0 t0 X0p X0q Y0p Y0q b11
    have a12 : Below w11.heap.size w11 (w11.alloc (.cells #[.slice A11 n c11, .int .i64 s'] 29)) := (Below.refl _ _).alloc (Nat.le_refl _) _
    have O12 := BoxJ.new (s := s') o11
    have X12 := X11.below a12
    have Y12 := Y11.below a12
    have t12 := below_step t11 a12
    obtain ⟨X12p, X12q, -, -⟩ := X12.blk.two
    obtain ⟨Y12p, Y12q, -, -⟩ := Y12.blk.two
    obtain ⟨O12p, O12q, -, -⟩ := O12.blk.two
    clear X11 Y11 t11 X11p X11q Y11p Y11q a12
    clear o11
    go_wp2_with fail
    generalize (w11.alloc (.cells #[.slice A11 n c11, .int .i64 s'] 29)) = w12 at t12 X12 Y12 O12 X12p X12q Y12p Y12q O12p O12q ⊢
    refine (specAdd_g HG Hm Hn HS (by omega) _ _ _ X12.cells).mono ?_; rintro e w13 ⟨A13, c13, rfl, o13, b13⟩
    have X13 := X12.below b13
    have Y13 := Y12.below b13
    have O13 := O12.below b13
    have t13 := below_step t12 b13
    obtain ⟨X13p, X13q, -, -⟩ := X13.blk.two
    obtain ⟨Y13p, Y13q, -, -⟩ := Y13.blk.two
    obtain ⟨O13p, O13q, -, -⟩ := O13.blk.two
    clear X12 Y12 O12 t12 X12p X12q Y12p Y12q O12p O12q b13
    have a14 : Below w13.heap.size w13 (w13.alloc (.cells #[.slice A13 n c13, .int .i64 s'] 29)) := (Below.refl _ _).alloc (Nat.le_refl _) _
    have P14 := BoxJ.new (s := s') o13
    have X14 := X13.below a14
    have Y14 := Y13.below a14
    have O14 := O13.below a14
    have t14 := below_step t13 a14
    obtain ⟨X14p, X14q, -, -⟩ := X14.blk.two
    obtain ⟨Y14p, Y14q, -, -⟩ := Y14.blk.two
    obtain ⟨O14p, O14q, -, -⟩ := O14.blk.two
    obtain ⟨P14p, P14q, -, -⟩ := P14.blk.two
    clear X13 Y13 O13 t13 X13p X13q Y13p Y13q O13p O13q a14
    clear o13
    cases ok
    · skip
      go_wp2_with fail
      generalize (w13.alloc (.cells #[.slice A13 n c13, .int .i64 s'] 29)) = w14 at t14 X14 Y14 O14 P14 X14p X14q Y14p Y14q O14p O14q P14p P14q ⊢
      refine (sameJ_g Hn (by omega) _ _ _ _ _ _ O14.cells P14.cells).mono ?_; rintro e w15 ⟨rfl, b15⟩
      have X15 := X14.below b15
      have Y15 := Y14.below b15
      have O15 := O14.below b15
      have P15 := P14.below b15
      have t15 := below_step t14 b15
      obtain ⟨X15p, X15q, -, -⟩ := X15.blk.two
      obtain ⟨Y15p, Y15q, -, -⟩ := Y15.blk.two
      obtain ⟨O15p, O15q, -, -⟩ := O15.blk.two
      obtain ⟨P15p, P15q, -, -⟩ := P15.blk.two
      clear X14 Y14 O14 P14 t14 X14p X14q Y14p Y14q O14p O14q P14p P14q b15
      go_wp2_with fail
      refine (sameJ_g Hn (by omega) _ _ _ _ _ _ O15.cells P15.cells).mono ?_; rintro e w16 ⟨rfl, b16⟩
      have X16 := X15.below b16
      have Y16 := Y15.below b16
      have O16 := O15.below b16
      have P16 := P15.below b16
      have t16 := below_step t15 b16
      obtain ⟨X16p, X16q, -, -⟩ := X16.blk.two
      obtain ⟨Y16p, Y16q, -, -⟩ := Y16.blk.two
      obtain ⟨O16p, O16q, -, -⟩ := O16.blk.two
      obtain ⟨P16p, P16q, -, -⟩ := P16.blk.two
      clear X15 Y15 O15 P15 t15 X15p X15q Y15p Y15q O15p O15q P15p P15q b16
      go_wp2_with fail
      go_ret
      exact ⟨rfl, t16⟩
    · skip
      have hg := addG_true HG.out
      obtain ⟨hv, hrb, h20, hL, hs'⟩ := hg
      subst hs'
      have hnm : n = m + 1 := by rw [← Hn.out, hL, ← Hm.out]; simp
      have HL := hid hL
      have Hv := hid hv
      have HRB := hid hrb
      have hm20 : m < 20 := by rw [← Hm.out]; exact h20
      have Hnm := hid hnm
      clear hv hrb h20 hL hnm
      obtain ⟨hi0, hi15, -⟩ := recB_parts HRB.out
      obtain ⟨I, hI⟩ := Int.eq_ofNat_of_zero_le hi0
      subst hI
      have hI16 : I < 16 := by omega
      obtain ⟨T, hT⟩ : ∃ T, blkT l 16 = T := ⟨_, rfl⟩
      obtain ⟨H, hH⟩ : ∃ H, blkH l 16 = H := ⟨_, rfl⟩
      have HT : Hid (T.length = 16) := by unfold Hid; rw [← hT, blkT_length]
      have HH : Hid (H.length = 16) := by unfold Hid; rw [← hH, blkH_length]
      have HG1 : Hid (blocksG l s 16 = (T, H)) := by have h := blocksG_ok (l := l) (s := s) (n := 16) Hv.out (by decide); rw [hT, hH] at h; exact h
      have HG2 : Hid (blocksG L s 16 = (T.set I t, H.set I true)) := by have h := blocksG_ok (l := L) (s := s) (n := 16) (valid_snoc' Hv HRB HL (by rw [Hm.out]; exact hm20)).out (by decide); rw [HL.out, blkT_app, blkH_app, hT, hH] at h; rw [HL.out]; exact h
      have HT2 : Hid ((T.set I t).length = 16) := by unfold Hid; rw [List.length_set]; exact HT.out
      have HH2 : Hid ((H.set I true).length = 16) := by unfold Hid; rw [List.length_set]; exact HH.out
      clear hT hH
      go_wp2_with fail
      generalize (w13.alloc (.cells #[.slice A13 n c13, .int .i64 s] 29)) = w14 at t14 X14 Y14 O14 P14 X14p X14q Y14p Y14q O14p O14q P14p P14q ⊢
      refine (sameJ_g Hn (by omega) _ _ _ _ _ _ O14.cells P14.cells).mono ?_; rintro e w15 ⟨rfl, b15⟩
      have X15 := X14.below b15
      have Y15 := Y14.below b15
      have O15 := O14.below b15
      have P15 := P14.below b15
      have t15 := below_step t14 b15
      obtain ⟨X15p, X15q, -, -⟩ := X15.blk.two
      obtain ⟨Y15p, Y15q, -, -⟩ := Y15.blk.two
      obtain ⟨O15p, O15q, -, -⟩ := O15.blk.two
      obtain ⟨P15p, P15q, -, -⟩ := P15.blk.two
      clear X14 Y14 O14 P14 t14 X14p X14q Y14p Y14q O14p O14q P14p P14q b15
      go_wp2_with fail
      refine (implBlocks_g HG1 HT HH Hm HS _ _ _ X15.cells).mono ?_; rintro e w16 ⟨A16, c16, B16, d16, rfl, p16, q16, hc16, hd16, b16⟩
      have X16 := X15.below b16
      have Y16 := Y15.below b16
      have O16 := O15.below b16
      have P16 := P15.below b16
      have t16 := below_step t15 b16
      obtain ⟨X16p, X16q, -, -⟩ := X16.blk.two
      obtain ⟨Y16p, Y16q, -, -⟩ := Y16.blk.two
      obtain ⟨O16p, O16q, -, -⟩ := O16.blk.two
      obtain ⟨P16p, P16q, -, -⟩ := P16.blk.two
      clear X15 Y15 O15 P15 t15 X15p X15q Y15p Y15q O15p O15q P15p P15q b16
      go_wp2_with fail
      refine (implBlocks_g HG2 HT2 HH2 Hn HSL _ _ _ O16.cells).mono ?_; rintro e w17 ⟨A17, c17, B17, d17, rfl, p17, q17, hc17, hd17, b17⟩
      have X17 := X16.below b17
      have Y17 := Y16.below b17
      have O17 := O16.below b17
      have P17 := P16.below b17
      have a17 := p16.below b17
      have x17 := q16.below b17
      have t17 := below_step t16 b17
      obtain ⟨X17p, X17q, -, -⟩ := X17.blk.two
      obtain ⟨Y17p, Y17q, -, -⟩ := Y17.blk.two
      obtain ⟨O17p, O17q, -, -⟩ := O17.blk.two
      obtain ⟨P17p, P17q, -, -⟩ := P17.blk.two
      clear X16 Y16 O16 P16 p16 q16 t16 X16p X16q Y16p Y16q O16p O16q P16p P16q b17
      go_wp2_with fail
      go_loopw [16] (fun i wr => ∃ k : Nat, k ≤ 16 ∧ i = .int .i64 k ∧ ∃ q, wr = w17.drewN q) (fun i _ => 16 - (intOf i).toNat)
      case atStart => exact ⟨0, Nat.zero_le _, rfl, 0, rfl⟩
      case round =>
        obtain ⟨k, hk, rfl, q, rfl⟩ := hrel
        by_cases hlt : k < 16
        · skip
          obtain ⟨tv, htv⟩ : ∃ tv, T[k]? = some tv := ⟨T[k]'(by rw [HT.out]; exact hlt), List.getElem?_eq_getElem _⟩
          obtain ⟨hv, hhv⟩ : ∃ hv, H[k]? = some hv := ⟨H[k]'(by rw [HH.out]; exact hlt), List.getElem?_eq_getElem _⟩
          by_cases hkI : k = I
          · skip
            have e1 : ((k : Int) == (I : Int)) = true := by rw [beq_iff_eq]; omega
            have e2 : ((k : Int) != (I : Int)) = false := by rw [bne_eq_false_iff_eq]; omega
            have e3 : (k == I) = true := by rw [beq_iff_eq]; exact hkI
            have e4 : (k != I) = false := by rw [bne_eq_false_iff_eq]; exact hkI
            clear hkI htv hhv
            go_wp2
            go_quiet (fail)
            go_wp2
            go_roundw
            case rel => exact ⟨k + 1, by omega, by go_num, _, rfl⟩
            case measure => simp [intOf]; omega
          · skip
            have e1 : ((k : Int) == (I : Int)) = false := by rw [beq_eq_false_iff_ne]; omega
            have e2 : ((k : Int) != (I : Int)) = true := by rw [bne_iff_ne]; omega
            have e3 : (k == I) = false := by rw [beq_eq_false_iff_ne]; exact hkI
            have e4 : (k != I) = true := by rw [bne_iff_ne]; exact hkI
            obtain ⟨g1, f1, rfl, r1⟩ := a17.cell_at (strs_get htv)
            obtain ⟨g2, f2, rfl, r2⟩ := x17.cell_at (bools_get hhv)
            obtain ⟨g3, f3, rfl, r3⟩ := p17.cell_at (strs_get (show (T.set I t)[k]? = some tv by rw [List.getElem?_set_ne (by omega)]; exact htv))
            obtain ⟨g4, f4, rfl, r4⟩ := q17.cell_at (bools_get (show (H.set I true)[k]? = some hv by rw [List.getElem?_set_ne (by omega)]; exact hhv))
            clear hkI htv hhv
            go_wp2
            go_quiet (fail)
            go_wp2
            go_roundw
            case rel => exact ⟨k + 1, by omega, by go_num, _, rfl⟩
            case measure => simp [intOf]; omega
        · skip
          obtain rfl : k = 16 := by omega
          clear hlt
          obtain ⟨g3, f3, rfl, r3⟩ := p17.cell_at (strs_get (show (T.set I t)[I]? = some t by rw [List.getElem?_set_self (by rw [HT.out]; exact hI16)]))
          obtain ⟨g4, f4, rfl, r4⟩ := q17.cell_at (bools_get (show (H.set I true)[I]? = some true by rw [List.getElem?_set_self (by rw [HH.out]; exact hI16)]))
          have hv0 : decide ((0 : Int) ≤ (vs.length : Int)) = true := by simp
          go_wp2
          go_quiet (fail)
          go_wp2
          go_ret
          exact ⟨rfl, below_step t17 (below_drewN (below_drawn _ _ _) _)⟩

end Go.Proofs.Ytihjjnmhionibaa
