/- laws.FnJournalLost: the walk. -/
import Derived.Test.YtihjjnmhionibaaLJ0
import Derived.Deep.RegionWith
import Derived.Deep.RegionHeld3
namespace Go.Proofs.Ytihjjnmhionibaa
open Go.RowKit

set_option maxRecDepth 100000 in
set_option maxHeartbeats 4000000 in
theorem journalLost_walk (A : Option Addr) (c : Nat) (us : List Int) (w : World) (hr : Cells w A (bytes us)) (hu : ∀ u ∈ us, 0 ≤ u ∧ u ≤ 255) (hc : us.length ≤ c) :
    Calls Try.prog 9 #[.slice A us.length c] w (RetB w true) := by
  have Hu := hid hu
  clear hu
  by_cases h20 : 1048576 < us.length
  · go_enter Try.func9, Try.ntmps9
    go_wp2
    go_ret
    exact ⟨rfl, Below.refl _ _⟩
  · have hm : us.length ≤ 17592186044416 := by omega
    have hd : decide ((1048576 : Int) < (us.length : Int)) = false := by simp; omega
    clear h20
    go_enter Try.func9, Try.ntmps9
    go_wp2_with fail
    refine (drawAdd_any _ _ _ _ hr Hu.out hc hm).mono ?_
    rintro e w1 ⟨A1, c1, m, s, l, i, t, rfl, hm30, ht10, Hm, Hsm, o1, b1⟩
    clear hr hc hm hd Hu
    have HS : Hid (SmallR l) := Hsm.out.small Hm.out (by omega)
    obtain ⟨L, s', ok, hG⟩ : ∃ L s' ok, addG l s (i, t) = (L, s', ok) := ⟨_, _, _, rfl⟩
    obtain ⟨n, hn⟩ : ∃ n, L.length = n := ⟨_, rfl⟩
    have hG2 := addG_small (s := s) (a := (i, t)) Hsm.out ht10
    rw [hG] at hG2
    have hn31 : n ≤ 31 := by have h1 := hG2.2; have h2 := Hm.out; simp only at h1; omega
    have HSL : Hid (SmallR L) := hG2.1.small hn (by omega)
    have HG := hid hG
    have Hn := hid hn
    clear hG hG2 hn
    obtain ⟨X0, Y0, bz⟩ := boxes2 s i t o1
    have t0 := below_step b1 bz
    clear o1 b1 bz
    go_wp2_with fail
    generalize ((w1.alloc (.cells #[.slice A1 m c1, .int .i64 s] 29)).alloc (.cells #[.int .i64 i, .string t] 35)) = w0 at X0 Y0 t0 ⊢
    obtain ⟨X0p, X0q, -, -⟩ := X0.blk.two
    obtain ⟨Y0p, Y0q, -, -⟩ := Y0.blk.two
    refine (implAdd_g HG Hm Hn HS (by omega) _ _ _ X0.cells).mono ?_; rintro e w11 ⟨A11, c11, rfl, o11, b11⟩
    have X11 := X0.below b11
    have Y11 := Y0.below b11
    have t11 := below_step t0 b11
    obtain ⟨X11p, X11q, -, -⟩ := X11.blk.two
    obtain ⟨Y11p, Y11q, -, -⟩ := Y11.blk.two
    clear X0 Y0 t0 X0p X0q Y0p Y0q b11
    have a12 : Below w11.heap.size w11 (w11.alloc (.cells #[.slice A11 n c11, .int .i64 s'] 29)) := (Below.refl _ _).alloc (Nat.le_refl _) _
    have O12 := BoxJ.new (s := s') o11
    have X12 := X11.below a12
    have Y12 := Y11.below a12
    have t12 := below_step t11 a12
    obtain ⟨X12p, X12q, -, -⟩ := X12.blk.two
    obtain ⟨Y12p, Y12q, -, -⟩ := Y12.blk.two
    obtain ⟨O12p, O12q, -, -⟩ := O12.blk.two
    clear X11 Y11 t11 X11p X11q Y11p Y11q a12
    clear o11
    go_wp2_with fail
    generalize (w11.alloc (.cells #[.slice A11 n c11, .int .i64 s'] 29)) = w12 at t12 X12 Y12 O12 X12p X12q Y12p Y12q O12p O12q ⊢
    refine (specAdd_g HG Hm Hn HS (by omega) _ _ _ X12.cells).mono ?_; rintro e w13 ⟨A13, c13, rfl, o13, b13⟩
    have X13 := X12.below b13
    have Y13 := Y12.below b13
    have O13 := O12.below b13
    have t13 := below_step t12 b13
    obtain ⟨X13p, X13q, -, -⟩ := X13.blk.two
    obtain ⟨Y13p, Y13q, -, -⟩ := Y13.blk.two
    obtain ⟨O13p, O13q, -, -⟩ := O13.blk.two
    clear X12 Y12 O12 t12 X12p X12q Y12p Y12q O12p O12q b13
    have a14 : Below w13.heap.size w13 (w13.alloc (.cells #[.slice A13 n c13, .int .i64 s'] 29)) := (Below.refl _ _).alloc (Nat.le_refl _) _
    have P14 := BoxJ.new (s := s') o13
    have X14 := X13.below a14
    have Y14 := Y13.below a14
    have O14 := O13.below a14
    have t14 := below_step t13 a14
    obtain ⟨X14p, X14q, -, -⟩ := X14.blk.two
    obtain ⟨Y14p, Y14q, -, -⟩ := Y14.blk.two
    obtain ⟨O14p, O14q, -, -⟩ := O14.blk.two
    obtain ⟨P14p, P14q, -, -⟩ := P14.blk.two
    clear X13 Y13 O13 t13 X13p X13q Y13p Y13q O13p O13q a14
    clear o13
    cases ok
    · skip
      go_wp2_with fail
      generalize (w13.alloc (.cells #[.slice A13 n c13, .int .i64 s'] 29)) = w14 at t14 X14 Y14 O14 P14 X14p X14q Y14p Y14q O14p O14q P14p P14q ⊢
      refine (sameJ_g Hn (by omega) _ _ _ _ _ _ O14.cells P14.cells).mono ?_; rintro e w15 ⟨rfl, b15⟩
      have X15 := X14.below b15
      have Y15 := Y14.below b15
      have O15 := O14.below b15
      have P15 := P14.below b15
      have t15 := below_step t14 b15
      obtain ⟨X15p, X15q, -, -⟩ := X15.blk.two
      obtain ⟨Y15p, Y15q, -, -⟩ := Y15.blk.two
      obtain ⟨O15p, O15q, -, -⟩ := O15.blk.two
      obtain ⟨P15p, P15q, -, -⟩ := P15.blk.two
      clear X14 Y14 O14 P14 t14 X14p X14q Y14p Y14q O14p O14q P14p P14q b15
      go_wp2_with fail
      refine (sameJ_g Hn (by omega) _ _ _ _ _ _ O15.cells P15.cells).mono ?_; rintro e w16 ⟨rfl, b16⟩
      have X16 := X15.below b16
      have Y16 := Y15.below b16
      have O16 := O15.below b16
      have P16 := P15.below b16
      have t16 := below_step t15 b16
      obtain ⟨X16p, X16q, -, -⟩ := X16.blk.two
      obtain ⟨Y16p, Y16q, -, -⟩ := Y16.blk.two
      obtain ⟨O16p, O16q, -, -⟩ := O16.blk.two
      obtain ⟨P16p, P16q, -, -⟩ := P16.blk.two
      clear X15 Y15 O15 P15 t15 X15p X15q Y15p Y15q O15p O15q P15p P15q b16
      go_wp2_with fail
      go_ret
      exact ⟨rfl, t16⟩
    · skip
      have hg := addG_true HG.out
      obtain ⟨hv, hrb, h20, hL, hs'⟩ := hg
      subst hs'
      have hnm : n = m + 1 := by rw [← Hn.out, hL, ← Hm.out]; simp
      have HL := hid hL
      have Hv := hid hv
      have HRB := hid hrb
      have hm20 : m < 20 := by rw [← Hm.out]; exact h20
      have Hnm := hid hnm
      clear hv hrb h20 hL hnm
      have HC : Hid (crashG L s 0 = (L.take s.toNat, s.toNat)) := by unfold Hid; rw [HL.out]; exact crash_zero Hv.out HRB.out (by rw [Hm.out]; exact hm20)
      have Hs : Hid (∃ q : Nat, s = q ∧ q ≤ m) := by have h1 := (validJ_parts Hv.out).2.1; rw [inB_iff] at h1; exact ⟨s.toNat, by omega, by have := Hm.out; omega⟩
      obtain ⟨q, hq, hqm⟩ := Hs.out
      clear Hs
      have HQ : Hid (crashG L q 0 = (L.take q, q)) := by have h := HC.out; rw [hq] at h; simpa [Hid] using h
      clear HC
      subst hq
      go_wp2_with fail
      generalize (w13.alloc (.cells #[.slice A13 n c13, .int .i64 q] 29)) = w14 at t14 X14 Y14 O14 P14 X14p X14q Y14p Y14q O14p O14q P14p P14q ⊢
      refine (sameJ_g Hn (by omega) _ _ _ _ _ _ O14.cells P14.cells).mono ?_; rintro e w15 ⟨rfl, b15⟩
      have X15 := X14.below b15
      have Y15 := Y14.below b15
      have O15 := O14.below b15
      have P15 := P14.below b15
      have t15 := below_step t14 b15
      obtain ⟨X15p, X15q, -, -⟩ := X15.blk.two
      obtain ⟨Y15p, Y15q, -, -⟩ := Y15.blk.two
      obtain ⟨O15p, O15q, -, -⟩ := O15.blk.two
      obtain ⟨P15p, P15q, -, -⟩ := P15.blk.two
      clear X14 Y14 O14 P14 t14 X14p X14q Y14p Y14q O14p O14q P14p P14q b15
      go_wp2_with fail
      refine (implCrash_g HQ Hn HSL (by omega) (by omega) _ _ _ O15.cells O15.cap).mono ?_; rintro e w16 ⟨A16, c16, rfl, o16, b16⟩
      have X16 := X15.below b16
      have Y16 := Y15.below b16
      have O16 := O15.below b16
      have P16 := P15.below b16
      have t16 := below_step t15 b16
      obtain ⟨X16p, X16q, -, -⟩ := X16.blk.two
      obtain ⟨Y16p, Y16q, -, -⟩ := Y16.blk.two
      obtain ⟨O16p, O16q, -, -⟩ := O16.blk.two
      obtain ⟨P16p, P16q, -, -⟩ := P16.blk.two
      clear X15 Y15 O15 P15 t15 X15p X15q Y15p Y15q O15p O15q P15p P15q b16
      have a17 : Below w16.heap.size w16 (w16.alloc (.cells #[.slice A16 q c16, .int .i64 q] 29)) := (Below.refl _ _).alloc (Nat.le_refl _) _
      have Q17 := BoxJ.new (s := (q : Int)) o16
      have X17 := X16.below a17
      have Y17 := Y16.below a17
      have O17 := O16.below a17
      have P17 := P16.below a17
      have t17 := below_step t16 a17
      obtain ⟨X17p, X17q, -, -⟩ := X17.blk.two
      obtain ⟨Y17p, Y17q, -, -⟩ := Y17.blk.two
      obtain ⟨O17p, O17q, -, -⟩ := O17.blk.two
      obtain ⟨P17p, P17q, -, -⟩ := P17.blk.two
      obtain ⟨Q17p, Q17q, -, -⟩ := Q17.blk.two
      clear X16 Y16 O16 P16 t16 X16p X16q Y16p Y16q O16p O16q P16p P16q a17
      clear o16
      go_wp2_with fail
      go_ret
      exact ⟨rfl, t17⟩

end Go.Proofs.Ytihjjnmhionibaa
