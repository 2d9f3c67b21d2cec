/- laws.FnExactRareOrder: the walk. -/
import Derived.Test.YtckbpiapkooamaaR7
namespace Go.Proofs.Ytckbpiapkooamaa
open Go.RowKit

set_option maxHeartbeats 4000000 in
theorem exactRareOrder_walk (A : Option Addr) (c : Nat) (ps : List Bits) (B : Option Addr) (d : Nat) (mine : Bits) (w : World) (hr : Mat w A ps) (hcm : ps.length ≤ 9223372036854775807) (hcl : ∀ bs ∈ ps, List.length bs ≤ 9223372036854775807) (hmi : Cells w B (bools mine)) (hml : mine.length ≤ 9223372036854775807) :
    Calls Try.prog 16 #[.slice A ps.length c, .slice B mine.length d] w (RetB w true) := by
  by_cases h20 : 1048576 < mine.length
  · go_enter Try.func16, Try.ntmps16
    go_wp2
    go_ret
    exact ⟨rfl, Below.refl _ _⟩
  · have hm : mine.length ≤ 1048576 := by omega
    have HZ := hid (szBoolSS_any A c ps w hr hcm hcl)
    clear hcl h20
    go_enter Try.func16, Try.ntmps16
    go_wp2_with fail
    refine HZ.out.mono ?_; rintro e w1 ⟨v, rfl, hv, rfl⟩
    rcases hv with hv | ⟨hv, hs⟩
    · go_wp2_with fail
      go_ret
      exact ⟨rfl, Below.refl _ _⟩
    · have Hs := hid hs
      clear hs HZ
      go_wp2_with fail
      refine (toBoolSS_any _ _ _ _ hr Hs.out).mono ?_; rintro e w1 ⟨A1, c1, rfl, o1, b1⟩
      go_wp2_with fail
      refine (toBoolS_any _ _ _ _ (hmi.below b1) hm).mono ?_; rintro e w2 ⟨A2, c2, rfl, o2, b2⟩
      have t2 := below_step b1 b2
      go_wp2_with fail
      obtain ⟨L, hL⟩ : ∃ L, orderG ps mine = L := ⟨_, rfl⟩
      obtain ⟨n, hn⟩ : ∃ n, L.length = n := ⟨_, rfl⟩
      have hn16 : n ≤ 16 := by rw [← hn, ← hL]; exact orderG_len _ _
      have HL := hid hL
      have Hn := hid hn
      clear hL hn
      have hr0 := hid hr
      have hmi0 := hid hmi
      clear hr hmi
      refine (specOrder_g HL Hn (hid rfl) (hid rfl) _ _ _ _ _ (o1.mat.below b2) Hs o2.cells (by omega)).mono ?_; rintro e w3 ⟨A3, c3, rfl, o3, b3⟩
      have t3 := hid (below_step t2 b3)
      have P3 := hid o3
      have z3 := b3.size
      clear o1 o2 o3 b1 b2 b3 t2
      go_wp2_with fail
      refine (toBoolSS_any _ _ _ _ (hr0.out.below t3.out) Hs.out).mono ?_; rintro e w4 ⟨A4, c4, rfl, o4, b4⟩
      have t4 := hid (below_step t3.out b4)
      have z4 := b4.size
      have X4 := hid o4
      have P4 := hid (P3.out.below b4)
      clear o4 b4 P3
      go_wp2_with fail
      refine (toBoolS_any _ _ _ _ (hmi0.out.below t4.out) hm).mono ?_; rintro e w5 ⟨A5, c5, rfl, o5, b5⟩
      have t5 := hid (below_step t4.out b5)
      have z5 := b5.size
      have Y5 := hid o5
      have X5 := hid (X4.out.below b5)
      have P5 := hid (P4.out.below b5)
      clear o5 b5 X4 P4
      go_wp2_with fail
      refine (implOrder_g HL Hn (hid rfl) (hid rfl) _ _ _ _ _ X5.out.mat Hs Y5.out.cells (by omega)).mono ?_; rintro e w6 ⟨A6, c6, rfl, o6, b6⟩
      have t6 := hid (below_step t5.out b6)
      have z6 := b6.size
      have G6 := hid o6
      have Y6 := hid (Y5.out.below b6)
      have X6 := hid (X5.out.below b6)
      have P6 := hid (P5.out.below b6)
      clear o6 b6 X5 Y5 P5
      go_wp2_with fail
      refine (eqIntS_n Hn (by omega) _ _ _ _ _ G6.out.cells P6.out.cells).mono ?_; rintro e w7 ⟨rfl, b7⟩
      have t7 := hid (below_step t6.out b7)
      have G7 := hid (G6.out.below b7)
      have Y7 := hid (Y6.out.below b7)
      have X7 := hid (X6.out.below b7)
      have P7 := hid (P6.out.below b7)
      clear b7 G6 X6 Y6 P6
      go_wp2_with fail
      refine (toBoolSS_any _ _ _ _ (hr0.out.below t7.out) Hs.out).mono ?_; rintro e w8 ⟨A8, c8, rfl, o8, b8⟩
      have t8 := hid (below_step t7.out b8)
      have G8 := hid (G7.out.below b8)
      have Y8 := hid (Y7.out.below b8)
      have X8 := hid (X7.out.below b8)
      have P8 := hid (P7.out.below b8)
      clear b8 G7 X7 Y7 P7
      go_wp2_with fail
      refine (eqBoolSS_true _ _ _ _ _ _ X8.out.mat o8.mat Hs.out).mono ?_; rintro e w9 ⟨rfl, b9⟩
      have t9 := hid (below_step t8.out b9)
      have G9 := hid (G8.out.below b9)
      have Y9 := hid (Y8.out.below b9)
      have X9 := hid (X8.out.below b9)
      have P9 := hid (P8.out.below b9)
      clear b9 G8 X8 Y8 P8 o8
      go_wp2_with fail
      refine (toBoolS_any _ _ _ _ (hmi0.out.below t9.out) hm).mono ?_; rintro e w10 ⟨A10, c10, rfl, o10, b10⟩
      have t10 := hid (below_step t9.out b10)
      have G10 := hid (G9.out.below b10)
      have Y10 := hid (Y9.out.below b10)
      have X10 := hid (X9.out.below b10)
      have P10 := hid (P9.out.below b10)
      clear b10 G9 X9 Y9 P9
      go_wp2_with fail
      refine (eqBoolS_true _ _ _ _ _ _ Y10.out.cells o10.cells (by omega)).mono ?_; rintro e w11 ⟨rfl, b11⟩
      have t11 := hid (below_step t10.out b11)
      have G11 := hid (G10.out.below b11)
      have Y11 := hid (Y10.out.below b11)
      have X11 := hid (X10.out.below b11)
      have P11 := hid (P10.out.below b11)
      have s3 := t3.out.size
      clear b11 G10 X10 Y10 P10 o10
      go_wp2_with fail
      refine (markBoolSS_any _ _ _ _ _ _ X11.out Hs.out).mono ?_; rintro e w12 ⟨⟨q, rfl, hq⟩, ch12⟩
      have t12 := hid (below_chg t11.out ch12 s3)
      have G12 := hid (G11.out.chg ch12 (.inr (by omega)))
      have Y12 := hid (Y11.out.chg ch12 (.inr (Nat.le_refl _)))
      have P12 := hid (P11.out.chg ch12 (.inl (Nat.le_refl _)))
      clear ch12 G11 X11 Y11 P11
      go_wp2_with fail
      refine (markBoolS_any _ _ _ _ _ _ _ Y12.out hm (by omega) (by omega)).mono ?_; rintro e w13 ⟨rfl, ch13⟩
      have t13 := hid (below_chg t12.out ch13 (by omega))
      have G13 := hid (G12.out.chg ch13 (.inr (Nat.le_refl _)))
      have P13 := hid (P12.out.chg ch13 (.inl (by omega)))
      clear ch13 G12 Y12 P12
      go_wp2_with fail
      refine (eqIntS_n Hn (by omega) _ _ _ _ _ G13.out.cells P13.out.cells).mono ?_; rintro e w14 ⟨rfl, b14⟩
      have t14 := hid (below_step t13.out b14)
      have G14 := hid (G13.out.below b14)
      have P14 := hid (P13.out.below b14)
      clear b14 G13 P13
      go_wp2_with fail
      refine (markIntS_n Hn (by omega) _ _ _ _ _ _ G14.out (by omega) (by omega)).mono ?_; rintro e w15 ⟨rfl, om, ch15⟩
      have t15 := hid (below_chg t14.out ch15 (by omega))
      have M15 := hid om
      have P15 := hid (P14.out.chg ch15 (.inl (by omega)))
      clear ch15 G14 P14 om
      go_wp2_with fail
      refine (heldIntS_any _ _ _ _ _ M15.out.cells (by omega) (by omega) (by omega)).mono ?_; rintro e w16 ⟨rfl, b16⟩
      have t16 := hid (below_step t15.out b16)
      have M16 := hid (M15.out.below b16)
      have P16 := hid (P15.out.below b16)
      clear b16 M15 P15
      go_wp2_with fail
      refine (toBoolSS_any _ _ _ _ (hr0.out.below t16.out) Hs.out).mono ?_; rintro e w17 ⟨A17, c17, rfl, o17, b17⟩
      have t17 := hid (below_step t16.out b17)
      have M17 := hid (M16.out.below b17)
      have P17 := hid (P16.out.below b17)
      clear M16 P16
      go_wp2_with fail
      refine (toBoolS_any _ _ _ _ (hmi0.out.below t17.out) hm).mono ?_; rintro e w18 ⟨A18, c18, rfl, o18, b18⟩
      have t18 := hid (below_step t17.out b18)
      have M18 := hid (M17.out.below b18)
      have P18 := hid (P17.out.below b18)
      clear M17 P17
      go_wp2_with fail
      refine (implOrder_g HL Hn (hid rfl) (hid rfl) _ _ _ _ _ (o17.mat.below b18) Hs o18.cells (by omega)).mono ?_; rintro e w19 ⟨A19, c19, rfl, o19, b19⟩
      have t19 := hid (below_step t18.out b19)
      have M19 := hid (M18.out.below b19)
      have P19 := hid (P18.out.below b19)
      go_wp2_with fail
      refine (eqIntS_n Hn (by omega) _ _ _ _ _ o19.cells P19.out.cells).mono ?_; rintro e w20 ⟨rfl, b20⟩
      have t20 := hid (below_step t19.out b20)
      have M20 := hid (M19.out.below b20)
      go_wp2_with fail
      refine (heldIntS_any _ _ _ _ _ M20.out.cells (by omega) (by omega) (by omega)).mono ?_; rintro e w21 ⟨rfl, b21⟩
      go_wp2_with fail
      go_ret
      exact ⟨rfl, below_step t20.out b21⟩

end Go.Proofs.Ytckbpiapkooamaa
