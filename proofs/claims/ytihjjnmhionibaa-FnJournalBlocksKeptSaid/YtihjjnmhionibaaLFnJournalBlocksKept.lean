/- laws.FnJournalBlocksKept: the walk. -/
import Derived.Test.YtihjjnmhionibaaLJ0
import Derived.Deep.RegionWith
import Derived.Deep.RegionHeld3
namespace Go.Proofs.Ytihjjnmhionibaa
open Go.RowKit

theorem crash_get {l L : List RecT} {n k : Nat} (h : L = l.take n) (hk : k < n) : L[k]? = l[k]? := by rw [h, List.getElem?_take, if_pos hk]

set_option maxRecDepth 100000 in
set_option maxHeartbeats 4000000 in
theorem journalBlocksKept_walk (A : Option Addr) (c : Nat) (us : List Int) (B : Option Addr) (d : Nat) (vs : List Int) (w : World) (hr : Cells w A (bytes us)) (hu : ∀ u ∈ us, 0 ≤ u ∧ u ≤ 255) (hc : us.length ≤ c) :
    Calls Try.prog 11 #[.slice A us.length c, .slice B vs.length d] w (RetB w true) := by
  have Hu := hid hu
  clear hu
  by_cases h20 : 1048576 < us.length
  · go_enter Try.func11, Try.ntmps11
    go_wp2
    go_ret
    exact ⟨rfl, Below.refl _ _⟩
  · have hm : us.length ≤ 17592186044416 := by omega
    have hd : decide ((1048576 : Int) < (us.length : Int)) = false := by simp; omega
    clear h20
    by_cases h21 : 1048576 < vs.length
    · have hd2 : decide ((1048576 : Int) < (vs.length : Int)) = true := by simp; omega
      go_enter Try.func11, Try.ntmps11
      go_wp2
      go_ret
      exact ⟨rfl, Below.refl _ _⟩
    have hd2 : decide ((1048576 : Int) < (vs.length : Int)) = false := by simp; omega
    have hvl : vs.length ≤ 1048576 := by omega
    clear h21
    go_enter Try.func11, Try.ntmps11
    go_wp2_with fail
    refine (drawCrash_any _ _ _ _ hr Hu.out hc hm).mono ?_
    rintro e w1 ⟨A1, c1, m, s, l, x, rfl, hm30, hx0, hx1, Hm, Hsm, o1, b1⟩
    clear hr hc hm hd hd2 Hu
    have HS : Hid (SmallR l) := Hsm.out.small Hm.out (by omega)
    obtain ⟨L, n, hG⟩ : ∃ L n, crashG l s x = (L, n) := ⟨_, _, rfl⟩
    have hG2 := crashG_small (s := s) (x := x) Hsm.out
    rw [hG] at hG2
    have HSL : Hid (SmallR L) := hG2.1.small rfl (by have h1 := hG2.2; have h2 := Hm.out; simp only at h1; omega)
    have hLn : L.length ≤ m := by have h1 := hG2.2; have h2 := Hm.out; simp only at h1; omega
    have HLn := hid hLn
    have HG := hid hG
    clear hG hG2 hLn
    have X0 : BoxJ (w1.alloc (.cells #[.slice A1 m c1, .int .i64 s] 29)) w1.heap.size A1 c1 m s l := BoxJ.new o1
    have bz : Below w1.heap.size w1 (w1.alloc (.cells #[.slice A1 m c1, .int .i64 s] 29)) := (Below.refl _ _).alloc (Nat.le_refl _) _
    have t0 := below_step b1 bz
    clear o1 b1 bz
    go_wp2_with fail
    generalize (w1.alloc (.cells #[.slice A1 m c1, .int .i64 s] 29)) = w0 at X0 t0 ⊢
    obtain ⟨X0p, X0q, -, -⟩ := X0.blk.two
    refine (implCrash_g HG Hm HS (by omega) (by omega) _ _ _ X0.cells X0.cap).mono ?_; rintro e w11 ⟨A11, c11, rfl, o11, b11⟩
    have X11 := X0.below b11
    have t11 := below_step t0 b11
    obtain ⟨X11p, X11q, -, -⟩ := X11.blk.two
    clear X0 t0 X0p X0q b11
    have Hn := hid (own_len o11)
    have hn30 : n ≤ m := by have h1 := HLn.out; have h2 := Hn.out; omega
    have a12 : Below w11.heap.size w11 (w11.alloc (.cells #[.slice A11 n c11, .int .i64 n] 29)) := (Below.refl _ _).alloc (Nat.le_refl _) _
    have O12 := BoxJ.new (s := (n : Int)) o11
    have X12 := X11.below a12
    have t12 := below_step t11 a12
    obtain ⟨X12p, X12q, -, -⟩ := X12.blk.two
    obtain ⟨O12p, O12q, -, -⟩ := O12.blk.two
    clear X11 t11 X11p X11q a12
    clear o11
    go_wp2_with fail
    generalize (w11.alloc (.cells #[.slice A11 n c11, .int .i64 n] 29)) = w12 at t12 X12 O12 X12p X12q O12p O12q ⊢
    refine (specCrash_g HG Hm HS (by omega) (by omega) _ _ _ X12.cells X12.cap).mono ?_; rintro e w13 ⟨A13, c13, rfl, o13, b13⟩
    have X13 := X12.below b13
    have O13 := O12.below b13
    have t13 := below_step t12 b13
    obtain ⟨X13p, X13q, -, -⟩ := X13.blk.two
    obtain ⟨O13p, O13q, -, -⟩ := O13.blk.two
    clear X12 O12 t12 X12p X12q O12p O12q b13
    have a14 : Below w13.heap.size w13 (w13.alloc (.cells #[.slice A13 n c13, .int .i64 n] 29)) := (Below.refl _ _).alloc (Nat.le_refl _) _
    have P14 := BoxJ.new (s := (n : Int)) o13
    have X14 := X13.below a14
    have O14 := O13.below a14
    have t14 := below_step t13 a14
    obtain ⟨X14p, X14q, -, -⟩ := X14.blk.two
    obtain ⟨O14p, O14q, -, -⟩ := O14.blk.two
    obtain ⟨P14p, P14q, -, -⟩ := P14.blk.two
    clear X13 O13 t13 X13p X13q O13p O13q a14
    clear o13
    obtain ⟨v, hv⟩ : ∃ v, validJ l s = v := ⟨_, rfl⟩
    have Hv := hid hv
    clear hv
    cases v
    · skip
      go_wp2_with fail
      generalize (w13.alloc (.cells #[.slice A13 n c13, .int .i64 n] 29)) = w14 at t14 X14 O14 P14 X14p X14q O14p O14q P14p P14q ⊢
      refine (sameJ_g Hn (by omega) _ _ _ _ _ _ O14.cells P14.cells).mono ?_; rintro e w15 ⟨rfl, b15⟩
      have X15 := X14.below b15
      have O15 := O14.below b15
      have P15 := P14.below b15
      have t15 := below_step t14 b15
      obtain ⟨X15p, X15q, -, -⟩ := X15.blk.two
      obtain ⟨O15p, O15q, -, -⟩ := O15.blk.two
      obtain ⟨P15p, P15q, -, -⟩ := P15.blk.two
      clear X14 O14 P14 t14 X14p X14q O14p O14q P14p P14q b15
      go_wp2_with fail
      refine (specValid_g Hv Hm HS _ _ _ X15.cells).mono ?_; rintro e w16 ⟨rfl, b16⟩
      have X16 := X15.below b16
      have O16 := O15.below b16
      have P16 := P15.below b16
      have t16 := below_step t15 b16
      obtain ⟨X16p, X16q, -, -⟩ := X16.blk.two
      obtain ⟨O16p, O16q, -, -⟩ := O16.blk.two
      obtain ⟨P16p, P16q, -, -⟩ := P16.blk.two
      clear X15 O15 P15 t15 X15p X15q O15p O15q P15p P15q b16
      go_wp2_with fail
      refine (sameJ_g Hn (by omega) _ _ _ _ _ _ O16.cells P16.cells).mono ?_; rintro e w17 ⟨rfl, b17⟩
      have X17 := X16.below b17
      have O17 := O16.below b17
      have P17 := P16.below b17
      have t17 := below_step t16 b17
      obtain ⟨X17p, X17q, -, -⟩ := X17.blk.two
      obtain ⟨O17p, O17q, -, -⟩ := O17.blk.two
      obtain ⟨P17p, P17q, -, -⟩ := P17.blk.two
      clear X16 O16 P16 t16 X16p X16q O16p O16q P16p P16q b17
      go_wp2_with fail
      go_ret
      exact ⟨rfl, t17⟩
    · skip
      by_cases hx : 0 ≤ x
      · skip
        obtain ⟨hvL, hcr, hLl, hs0, hsn, hnx⟩ := crash_again HG.out Hv.out hx
        have HvL := hid hvL
        have HCR := hid hcr
        have HLl := hid hLl
        have HNX := hid hnx
        clear hvL hcr hLl hnx
        go_wp2_with fail
        generalize (w13.alloc (.cells #[.slice A13 n c13, .int .i64 n] 29)) = w14 at t14 X14 O14 P14 X14p X14q O14p O14q P14p P14q ⊢
        refine (sameJ_g Hn (by omega) _ _ _ _ _ _ O14.cells P14.cells).mono ?_; rintro e w15 ⟨rfl, b15⟩
        have X15 := X14.below b15
        have O15 := O14.below b15
        have P15 := P14.below b15
        have t15 := below_step t14 b15
        obtain ⟨X15p, X15q, -, -⟩ := X15.blk.two
        obtain ⟨O15p, O15q, -, -⟩ := O15.blk.two
        obtain ⟨P15p, P15q, -, -⟩ := P15.blk.two
        clear X14 O14 P14 t14 X14p X14q O14p O14q P14p P14q b15
        go_wp2_with fail
        refine (specValid_g Hv Hm HS _ _ _ X15.cells).mono ?_; rintro e w16 ⟨rfl, b16⟩
        have X16 := X15.below b16
        have O16 := O15.below b16
        have P16 := P15.below b16
        have t16 := below_step t15 b16
        obtain ⟨X16p, X16q, -, -⟩ := X16.blk.two
        obtain ⟨O16p, O16q, -, -⟩ := O16.blk.two
        obtain ⟨P16p, P16q, -, -⟩ := P16.blk.two
        clear X15 O15 P15 t15 X15p X15q O15p O15q P15p P15q b16
        obtain ⟨S, hS0⟩ := Int.eq_ofNat_of_zero_le hs0
        subst hS0
        have hSn : S ≤ n := by omega
        have hSm : S ≤ m := by omega
        have hLk := hid (fun k (hk : k < n) => crash_get HLl.out hk)
        obtain ⟨T, hT⟩ : ∃ T, blkT L 16 = T := ⟨_, rfl⟩
        obtain ⟨H, hH⟩ : ∃ H, blkH L 16 = H := ⟨_, rfl⟩
        have HT : Hid (T.length = 16) := by unfold Hid; rw [← hT, blkT_length]
        have HH : Hid (H.length = 16) := by unfold Hid; rw [← hH, blkH_length]
        have HG1 : Hid (blocksG L n 16 = (T, H)) := by have h := blocksG_ok (l := L) (s := n) (n := 16) HvL.out (by decide); rw [hT, hH] at h; exact h
        have HB := hid hH
        clear hT hH
        go_wp2_with fail
        refine (implBlocks_g HG1 HT HH Hn HSL _ _ _ O16.cells).mono ?_; rintro e w17 ⟨A17, c17, B17, d17, rfl, -, q17, hc17, hd17, b17⟩
        have X17 := X16.below b17
        have O17 := O16.below b17
        have P17 := P16.below b17
        have t17 := below_step t16 b17
        obtain ⟨X17p, X17q, -, -⟩ := X17.blk.two
        obtain ⟨O17p, O17q, -, -⟩ := O17.blk.two
        obtain ⟨P17p, P17q, -, -⟩ := P17.blk.two
        clear X16 O16 P16 t16 X16p X16q O16p O16q P16p P16q b17
        go_wp2_with fail
        go_loop [11] (fun i => ∃ k : Nat, k ≤ S ∧ i = .int .i64 k) (fun i => S - (intOf i).toNat)
        case atStart => exact ⟨0, Nat.zero_le _, rfl⟩
        case round =>
          obtain ⟨j, hj, rfl⟩ := hrel
          by_cases hlt : j < S
          · skip
            have hjm : j < m := by omega
            have hjn : j < n := by omega
            obtain ⟨b1, f1, i, t, hA1, hz, r0, r1⟩ := X17.cells.rec_at (k := j) (by rw [Hm.out]; exact hjm)
            subst hA1
            obtain ⟨hi0, hi15, -⟩ := recB_parts ((validJ_parts Hv.out).2.2 _ (List.mem_of_getElem? hz.out))
            obtain ⟨I, hI⟩ := Int.eq_ofNat_of_zero_le hi0
            subst hI
            have hI16 : I < 16 := by omega
            have hHI : H[I]? = some true := by rw [← HB.out]; exact blkH_mem (a := ((I : Int), t)) (List.mem_of_getElem? ((hLk.out j hjn).trans hz.out)) hI16
            obtain ⟨g4, f4, hA4, r4⟩ := q17.cell_at (bools_get hHI)
            subst hA4
            clear hHI
            go_wp2
            go_round
            case rel => exact ⟨j + 1, by omega, by go_num⟩
            case measure => simp [intOf]; omega
          · skip
            obtain rfl : j = S := by omega
            go_wp2
            go_ret
            exact ⟨rfl, t17⟩
      · skip
        go_wp2_with fail
        generalize (w13.alloc (.cells #[.slice A13 n c13, .int .i64 n] 29)) = w14 at t14 X14 O14 P14 X14p X14q O14p O14q P14p P14q ⊢
        refine (sameJ_g Hn (by omega) _ _ _ _ _ _ O14.cells P14.cells).mono ?_; rintro e w15 ⟨rfl, b15⟩
        have X15 := X14.below b15
        have O15 := O14.below b15
        have P15 := P14.below b15
        have t15 := below_step t14 b15
        obtain ⟨X15p, X15q, -, -⟩ := X15.blk.two
        obtain ⟨O15p, O15q, -, -⟩ := O15.blk.two
        obtain ⟨P15p, P15q, -, -⟩ := P15.blk.two
        clear X14 O14 P14 t14 X14p X14q O14p O14q P14p P14q b15
        go_wp2_with fail
        refine (specValid_g Hv Hm HS _ _ _ X15.cells).mono ?_; rintro e w16 ⟨rfl, b16⟩
        have X16 := X15.below b16
        have O16 := O15.below b16
        have P16 := P15.below b16
        have t16 := below_step t15 b16
        obtain ⟨X16p, X16q, -, -⟩ := X16.blk.two
        obtain ⟨O16p, O16q, -, -⟩ := O16.blk.two
        obtain ⟨P16p, P16q, -, -⟩ := P16.blk.two
        clear X15 O15 P15 t15 X15p X15q O15p O15q P15p P15q b16
        go_wp2_with fail
        refine (sameJ_g Hn (by omega) _ _ _ _ _ _ O16.cells P16.cells).mono ?_; rintro e w17 ⟨rfl, b17⟩
        have X17 := X16.below b17
        have O17 := O16.below b17
        have P17 := P16.below b17
        have t17 := below_step t16 b17
        obtain ⟨X17p, X17q, -, -⟩ := X17.blk.two
        obtain ⟨O17p, O17q, -, -⟩ := O17.blk.two
        obtain ⟨P17p, P17q, -, -⟩ := P17.blk.two
        clear X16 O16 P16 t16 X16p X16q O16p O16q P16p P16q b17
        go_wp2_with fail
        go_ret
        exact ⟨rfl, t17⟩

end Go.Proofs.Ytihjjnmhionibaa
