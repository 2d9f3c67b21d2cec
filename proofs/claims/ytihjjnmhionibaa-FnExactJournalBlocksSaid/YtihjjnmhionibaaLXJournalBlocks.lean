/- laws.FnExactJournalBlocks: the walk. -/
import Derived.Test.YtihjjnmhionibaaLXJ0
import Derived.Deep.RegionWith
import Derived.Deep.CutRange
namespace Go.Proofs.Ytihjjnmhionibaa
open Go.RowKit

theorem blocksG_le (l : List RecT) (s k : Int) : (blocksG l s k).1.length ≤ 16 := by
  unfold blocksG
  split
  · rename_i h
    rw [Bool.and_eq_true, inB_iff] at h
    rw [blkT_length]; omega
  · simp

set_option maxRecDepth 100000 in
set_option maxHeartbeats 4000000 in
theorem exactJournalBlocks_walk (A : Option Addr) (c : Nat) (l : List RecT) (s : Int) (x : Int) (w : World) (hr : Cells w A (recs l)) (hm0 : l.length ≤ 9223372036854775807) (hl : ∀ a ∈ l, a.2.size ≤ 9223372036854775807) :
    Calls Try.prog 17 #[jv A l.length c s, .int .i64 x] w (RetB w true) := by
  have bw : Below w.heap.size w (w.alloc (.cells #[.slice A l.length c, .int .i64 s] 24)) := (Below.refl _ _).alloc (Nat.le_refl _) _
  have q0 := Blk.new w 24 (JB A l.length c s)
  obtain ⟨c0, c1, -, -⟩ := q0.two
  have l0 : w.heap.size < (w.alloc (.cells #[.slice A l.length c, .int .i64 s] 24)).heap.size := by simp
  have hr0 := hid (hr.below bw)
  have hS := hid (fun W h => szJournal_any A c l s W h hm0 hl)
  clear hr q0 hl
  go_enter Try.func17, Try.ntmps17
  go_wp2_with fail
  generalize w.alloc (.cells #[.slice A l.length c, .int .i64 s] 24) = W0 at bw hr0 c0 c1 l0 ⊢
  refine (hS.out _ hr0.out).mono ?_; rintro e w1 ⟨v, rfl, hv, b1⟩
  by_cases h0 : v < 0
  · go_wp2_with fail
    go_ret
    exact ⟨rfl, below_step bw b1⟩
  · have hv2 : 0 ≤ v ∧ v ≤ 1048576 ∧ FitR l := by rcases hv with h | h; exact absurd h h0; exact h
    have Hf := hid hv2.2.2
    have hm := hv2.2.2.1
    have HS : Hid (SmallR l) := Hf.out.small
    have HQ0 := hid c0
    have HQ1 := hid c1
    have Hr0 := hr0
    have t1 := b1
    have z1 : W0.heap.size ≤ w1.heap.size := b1.size
    have a1p := cell_later t1 HQ0.out
    have a1q := cell_later t1 HQ1.out
    clear hv hv2 b1 c0 c1 hr0 hS
    obtain ⟨T, H, hG⟩ : ∃ T H, blocksG l s x = (T, H) := ⟨_, _, rfl⟩
    have hlens := blocksG_lens l s x
    rw [hG] at hlens
    obtain ⟨n, hn0⟩ : ∃ n, T.length = n := ⟨_, rfl⟩
    have hn : n ≤ 16 := by rw [← hn0]; have := blocksG_le l s x; rw [hG] at this; exact this
    have HG := hid hG
    have HT := hid hn0
    have HH : Hid (H.length = n) := by unfold Hid; rw [← hlens]; exact hn0
    clear hG hlens hn0
    go_wp2_with fail
    refine (toJournal_any A c l s w1 (Hr0.out.below t1) hm).mono ?_; rintro e w2 ⟨A2, c2, rfl, o2, b2⟩
    have t2 := below_step t1 b2
    have z2 : w1.heap.size ≤ w2.heap.size := b2.size
    have a2p := cell_later t2 HQ0.out
    have a2q := cell_later t2 HQ1.out
    clear t1 a1p a1q b2
    go_wp2_with fail
    refine (specBlocks_o HG HT HH (hid rfl) HS _ _ _ o2.cells).mono ?_; rintro e w3 ⟨A3, c3, B3, d3, e13, f13, e23, f23, rfl, oT3, oH3, dj3, g13, g23, g33, g43, b3⟩
    have t3 := below_step t2 b3
    have z3 : w2.heap.size ≤ w3.heap.size := b3.size
    have a3p := cell_later t3 HQ0.out
    have a3q := cell_later t3 HQ1.out
    clear t2 a2p a2q b3
    clear o2
    go_wp2_with fail
    refine (toJournal_any A c l s w3 (Hr0.out.below t3) hm).mono ?_; rintro e w4 ⟨A4, c4, rfl, o4, b4⟩
    have t4 := below_step t3 b4
    have VT4 := oT3.below b4
    have VH4 := oH3.below b4
    have z4 : w3.heap.size ≤ w4.heap.size := b4.size
    have a4p := cell_later t4 HQ0.out
    have a4q := cell_later t4 HQ1.out
    clear t3 oT3 oH3 a3p a3q b4
    have x5 : Below w4.heap.size w4 (w4.alloc (.cells #[.slice A4 l.length c4, .int .i64 s] 29)) := (Below.refl _ _).alloc (Nat.le_refl _) _
    have y5 : w4.heap.size < (w4.alloc (.cells #[.slice A4 l.length c4, .int .i64 s] 29)).heap.size := by simp
    have X5 := BoxO.new (s := s) o4
    have t5 := below_step t4 x5
    have VT5 := VT4.below x5
    have VH5 := VH4.below x5
    have a5p := cell_later t5 HQ0.out
    have a5q := cell_later t5 HQ1.out
    obtain ⟨X5p, X5q, -, -⟩ := X5.blk.two
    clear t4 VT4 VH4 a4p a4q x5
    clear o4
    go_wp2_with fail
    generalize (w4.alloc (.cells #[.slice A4 l.length c4, .int .i64 s] 29)) = w5 at t5 VT5 VH5 X5 a5p a5q X5p X5q y5 ⊢
    refine (implBlocks_o HG HT HH (hid rfl) HS _ _ _ X5.cells).mono ?_; rintro e w6 ⟨A6, c6, B6, d6, e16, f16, e26, f26, rfl, oT6, oH6, dj6, g16, g26, g36, g46, b6⟩
    have t6 := below_step t5 b6
    have VT6 := VT5.below b6
    have VH6 := VH5.below b6
    have X6 := X5.below b6
    have z6 : w5.heap.size ≤ w6.heap.size := b6.size
    have a6p := cell_later t6 HQ0.out
    have a6q := cell_later t6 HQ1.out
    obtain ⟨X6p, X6q, -, -⟩ := X6.blk.two
    clear t5 VT5 VH5 X5 a5p a5q X5p X5q b6
    go_wp2_with fail
    refine (eqT_g HT (by omega) _ _ _ _ _ oT6.cells VT6.cells).mono ?_; rintro e w7 ⟨rfl, b7⟩
    have t7 := below_step t6 b7
    have VT7 := VT6.below b7
    have VH7 := VH6.below b7
    have X7 := X6.below b7
    have UT7 := oT6.below b7
    have UH7 := oH6.below b7
    have z7 : w6.heap.size ≤ w7.heap.size := b7.size
    have a7p := cell_later t7 HQ0.out
    have a7q := cell_later t7 HQ1.out
    obtain ⟨X7p, X7q, -, -⟩ := X7.blk.two
    clear t6 VT6 VH6 X6 oT6 oH6 a6p a6q X6p X6q b7
    go_wp2_with fail
    refine (eqB_g HH (by omega) _ _ _ _ _ UH7.cells VH7.cells).mono ?_; rintro e w8 ⟨rfl, b8⟩
    have t8 := below_step t7 b8
    have VT8 := VT7.below b8
    have VH8 := VH7.below b8
    have X8 := X7.below b8
    have UT8 := UT7.below b8
    have UH8 := UH7.below b8
    have z8 : w7.heap.size ≤ w8.heap.size := b8.size
    have a8p := cell_later t8 HQ0.out
    have a8q := cell_later t8 HQ1.out
    obtain ⟨X8p, X8q, -, -⟩ := X8.blk.two
    clear t7 VT7 VH7 X7 UT7 UH7 a7p a7q X7p X7q b8
    go_wp2_with fail
    go_cut [50] from 46 (fun v wx => v = .bool false ∧ Below w8.heap.size w8 wx)
    case first =>
      have Xd := X8.below (Below.refl w8.heap.size w8).drew
      obtain ⟨xdp, xdq, -, -⟩ := Xd.blk.two
      have td := below_step t8 (Below.refl w8.heap.size w8).drew
      have adp := cell_later td HQ0.out
      have adq := cell_later td HQ1.out
      go_region_with (first | (go_at_call 20; (refine (toJournal_any A c l s _ (Hr0.out.below td) hm).mono ?_); rintro e we ⟨Ae, ce, rfl, oe, be⟩; have Oe := hid oe; have Xe := Xd.below be; obtain ⟨xep, xeq, -, -⟩ := Xe.blk.two; clear oe) | (go_at_call 22; (refine (eqJ_g (hid rfl) (by omega) _ _ _ _ _ _ Xe.cells Oe.out.cells).mono ?_); rintro e wf ⟨rfl, bf⟩; have Bf := hid bf; clear bf))
      all_goals
        go_wp2_with fail
        go_meet
        exact ⟨rfl, below_step (Below.refl w8.heap.size w8).drew (below_step be Bf.out)⟩
    case rest =>
    obtain ⟨rfl, b9⟩ := hcut
    obtain ⟨w9, hw9⟩ : ∃ x, x = wc := ⟨_, rfl⟩
    subst hw9
    have t9 := below_step t8 b9
    have VT9 := VT8.below b9
    have VH9 := VH8.below b9
    have X9 := X8.below b9
    have UT9 := UT8.below b9
    have UH9 := UH8.below b9
    have z9 : w8.heap.size ≤ w9.heap.size := b9.size
    have a9p := cell_later t9 HQ0.out
    have a9q := cell_later t9 HQ1.out
    obtain ⟨X9p, X9q, -, -⟩ := X9.blk.two
    clear t8 VT8 VH8 X8 UT8 UH8 a8p a8q X8p X8q b9
    go_wp2_with fail
    refine (markJ_g (hid rfl) (by omega) _ _ _ _ _ _ X9.own).mono ?_; rintro e w10 ⟨rfl, O10, b10⟩
    have X10B := X9.blk.chg b10 (by omega)
    have t10 := below_chg t9 b10 (by omega)
    have VT10 := VT9.chg b10 (by omega)
    have VH10 := VH9.chg b10 (by omega)
    have UT10 := UT9.chg b10 (by omega)
    have UH10 := UH9.chg b10 (by omega)
    have z10 : w9.heap.size ≤ w10.heap.size := b10.size
    have X10 := BoxO.mk X10B O10
    clear X10B
    have a10p := cell_later t10 HQ0.out
    have a10q := cell_later t10 HQ1.out
    obtain ⟨X10p, X10q, -, -⟩ := X10.blk.two
    clear t9 VT9 VH9 UT9 UH9 X9 a9p a9q X9p X9q b10 O10
    go_wp2_with fail
    refine (eqT_g HT (by omega) _ _ _ _ _ UT10.cells VT10.cells).mono ?_; rintro e w11 ⟨rfl, b11⟩
    have t11 := below_step t10 b11
    have VT11 := VT10.below b11
    have VH11 := VH10.below b11
    have UT11 := UT10.below b11
    have UH11 := UH10.below b11
    have z11 : w10.heap.size ≤ w11.heap.size := b11.size
    have a11p := cell_later t11 HQ0.out
    have a11q := cell_later t11 HQ1.out
    clear t10 VT10 VH10 UT10 UH10 a10p a10q b11
    go_wp2_with fail
    refine (eqB_g HH (by omega) _ _ _ _ _ UH11.cells VH11.cells).mono ?_; rintro e w12 ⟨rfl, b12⟩
    have t12 := below_step t11 b12
    have VT12 := VT11.below b12
    have VH12 := VH11.below b12
    have UT12 := UT11.below b12
    have UH12 := UH11.below b12
    have z12 : w11.heap.size ≤ w12.heap.size := b12.size
    have a12p := cell_later t12 HQ0.out
    have a12q := cell_later t12 HQ1.out
    clear t11 VT11 VH11 UT11 UH11 a11p a11q b12
    go_wp2_with fail
    refine (markT_g HT (by omega) _ _ _ _ _ UT12).mono ?_; rintro e w13 ⟨rfl, O13, b13⟩
    have t13 := below_chg t12 b13 (by omega)
    have VT13 := VT12.chg b13 (by omega)
    have VH13 := VH12.chg b13 (by omega)
    have UH13 := UH12.chg b13 (by omega)
    have z13 : w12.heap.size ≤ w13.heap.size := b13.size
    have UT13 := O13
    have a13p := cell_later t13 HQ0.out
    have a13q := cell_later t13 HQ1.out
    clear t12 VT12 VH12 UH12 UT12 a12p a12q b13 O13
    go_wp2_with fail
    refine (markB_g HH (by omega) _ _ _ _ _ UH13).mono ?_; rintro e w14 ⟨rfl, O14, b14⟩
    have t14 := below_chg t13 b14 (by omega)
    have VT14 := VT13.chg b14 (by omega)
    have VH14 := VH13.chg b14 (by omega)
    have UT14 := UT13.chg b14 (by omega)
    have z14 : w13.heap.size ≤ w14.heap.size := b14.size
    have UH14 := O14
    have a14p := cell_later t14 HQ0.out
    have a14q := cell_later t14 HQ1.out
    clear t13 VT13 VH13 UT13 UH13 a13p a13q b14 O14
    go_wp2_with fail
    refine (heldT_g (by omega) _ _ _ UT14.cells).mono ?_; rintro e w15 ⟨rfl, b15⟩
    have t15 := below_step t14 b15
    have VT15 := VT14.below b15
    have VH15 := VH14.below b15
    have UT15 := UT14.below b15
    have UH15 := UH14.below b15
    have z15 : w14.heap.size ≤ w15.heap.size := b15.size
    have a15p := cell_later t15 HQ0.out
    have a15q := cell_later t15 HQ1.out
    clear t14 VT14 VH14 UT14 UH14 a14p a14q b15
    go_wp2_with fail
    refine (heldB_g (by omega) _ _ _ UH15.cells).mono ?_; rintro e w16 ⟨rfl, b16⟩
    have t16 := below_step t15 b16
    have VT16 := VT15.below b16
    have VH16 := VH15.below b16
    have UT16 := UT15.below b16
    have UH16 := UH15.below b16
    have z16 : w15.heap.size ≤ w16.heap.size := b16.size
    have a16p := cell_later t16 HQ0.out
    have a16q := cell_later t16 HQ1.out
    clear t15 VT15 VH15 UT15 UH15 a15p a15q b16
    go_wp2_with fail
    refine (toJournal_any A c l s w16 (Hr0.out.below t16) hm).mono ?_; rintro e w17 ⟨A17, c17, rfl, o17, b17⟩
    have t17 := below_step t16 b17
    have VT17 := VT16.below b17
    have VH17 := VH16.below b17
    have UT17 := UT16.below b17
    have UH17 := UH16.below b17
    have z17 : w16.heap.size ≤ w17.heap.size := b17.size
    have a17p := cell_later t17 HQ0.out
    have a17q := cell_later t17 HQ1.out
    clear t16 VT16 VH16 UT16 UH16 a16p a16q b17
    go_wp2_with fail
    refine (implBlocks_o HG HT HH (hid rfl) HS _ _ _ o17.cells).mono ?_; rintro e w18 ⟨A18, c18, B18, d18, e118, f118, e218, f218, rfl, oT18, oH18, dj18, g118, g218, g318, g418, b18⟩
    have t18 := below_step t17 b18
    have VT18 := VT17.below b18
    have VH18 := VH17.below b18
    have UT18 := UT17.below b18
    have UH18 := UH17.below b18
    have z18 : w17.heap.size ≤ w18.heap.size := b18.size
    have a18p := cell_later t18 HQ0.out
    have a18q := cell_later t18 HQ1.out
    clear t17 VT17 VH17 UT17 UH17 a17p a17q b18
    clear o17
    go_wp2_with fail
    refine (eqT_g HT (by omega) _ _ _ _ _ oT18.cells VT18.cells).mono ?_; rintro e w19 ⟨rfl, b19⟩
    have t19 := below_step t18 b19
    have VT19 := VT18.below b19
    have VH19 := VH18.below b19
    have UT19 := UT18.below b19
    have UH19 := UH18.below b19
    have RT19 := oT18.below b19
    have RH19 := oH18.below b19
    have z19 : w18.heap.size ≤ w19.heap.size := b19.size
    have a19p := cell_later t19 HQ0.out
    have a19q := cell_later t19 HQ1.out
    clear t18 VT18 VH18 UT18 UH18 oT18 oH18 a18p a18q b19
    go_wp2_with fail
    refine (eqB_g HH (by omega) _ _ _ _ _ RH19.cells VH19.cells).mono ?_; rintro e w20 ⟨rfl, b20⟩
    have t20 := below_step t19 b20
    have VT20 := VT19.below b20
    have VH20 := VH19.below b20
    have UT20 := UT19.below b20
    have UH20 := UH19.below b20
    have RT20 := RT19.below b20
    have RH20 := RH19.below b20
    have z20 : w19.heap.size ≤ w20.heap.size := b20.size
    have a20p := cell_later t20 HQ0.out
    have a20q := cell_later t20 HQ1.out
    clear t19 VT19 VH19 UT19 UH19 RT19 RH19 a19p a19q b20
    go_wp2_with fail
    refine (heldT_g (by omega) _ _ _ UT20.cells).mono ?_; rintro e w21 ⟨rfl, b21⟩
    have t21 := below_step t20 b21
    have VT21 := VT20.below b21
    have VH21 := VH20.below b21
    have UT21 := UT20.below b21
    have UH21 := UH20.below b21
    have RT21 := RT20.below b21
    have RH21 := RH20.below b21
    have z21 : w20.heap.size ≤ w21.heap.size := b21.size
    have a21p := cell_later t21 HQ0.out
    have a21q := cell_later t21 HQ1.out
    clear t20 VT20 VH20 UT20 UH20 RT20 RH20 a20p a20q b21
    go_wp2_with fail
    refine (heldB_g (by omega) _ _ _ UH21.cells).mono ?_; rintro e w22 ⟨rfl, b22⟩
    have t22 := below_step t21 b22
    have VT22 := VT21.below b22
    have VH22 := VH21.below b22
    have UT22 := UT21.below b22
    have UH22 := UH21.below b22
    have RT22 := RT21.below b22
    have RH22 := RH21.below b22
    have z22 : w21.heap.size ≤ w22.heap.size := b22.size
    have a22p := cell_later t22 HQ0.out
    have a22q := cell_later t22 HQ1.out
    clear t21 VT21 VH21 UT21 UH21 RT21 RH21 a21p a21q b22
    go_wp2_with fail
    go_ret
    exact ⟨rfl, below_step bw t22⟩

end Go.Proofs.Ytihjjnmhionibaa
