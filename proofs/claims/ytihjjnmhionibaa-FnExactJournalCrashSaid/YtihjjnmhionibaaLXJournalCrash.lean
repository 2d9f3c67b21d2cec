/- laws.FnExactJournalCrash: the walk. -/
import Derived.Test.YtihjjnmhionibaaLXJ0
import Derived.Deep.RegionWith
import Derived.Deep.CutRange
namespace Go.Proofs.Ytihjjnmhionibaa
open Go.RowKit

set_option maxRecDepth 100000 in
set_option maxHeartbeats 4000000 in
theorem exactJournalCrash_walk (A : Option Addr) (c : Nat) (l : List RecT) (s : Int) (x : Int) (w : World) (hr : Cells w A (recs l)) (hm0 : l.length ≤ 9223372036854775807) (hl : ∀ a ∈ l, a.2.size ≤ 9223372036854775807) (hx0 : -9223372036854775808 ≤ x) (hx1 : x ≤ 9223372036854775807) :
    Calls Try.prog 12 #[jv A l.length c s, .int .i64 x] w (RetB w true) := by
  have bw : Below w.heap.size w (w.alloc (.cells #[.slice A l.length c, .int .i64 s] 24)) := (Below.refl _ _).alloc (Nat.le_refl _) _
  have q0 := Blk.new w 24 (JB A l.length c s)
  obtain ⟨c0, c1, -, -⟩ := q0.two
  have l0 : w.heap.size < (w.alloc (.cells #[.slice A l.length c, .int .i64 s] 24)).heap.size := by simp
  have hr0 := hid (hr.below bw)
  have hS := hid (fun W h => szJournal_any A c l s W h hm0 hl)
  clear hr q0 hl
  go_enter Try.func12, Try.ntmps12
  go_wp2_with fail
  generalize w.alloc (.cells #[.slice A l.length c, .int .i64 s] 24) = W0 at bw hr0 c0 c1 l0 ⊢
  refine (hS.out _ hr0.out).mono ?_; rintro e w1 ⟨v, rfl, hv, b1⟩
  by_cases h0 : v < 0
  · go_wp2_with fail
    go_ret
    exact ⟨rfl, below_step bw b1⟩
  · have hv2 : 0 ≤ v ∧ v ≤ 1048576 ∧ FitR l := by rcases hv with h | h; exact absurd h h0; exact h
    have Hf := hid hv2.2.2
    have hm := hv2.2.2.1
    have HS : Hid (SmallR l) := Hf.out.small
    have HQ0 := hid c0
    have HQ1 := hid c1
    have Hr0 := hr0
    have t1 := b1
    have z1 : W0.heap.size ≤ w1.heap.size := b1.size
    have a1p := cell_later t1 HQ0.out
    have a1q := cell_later t1 HQ1.out
    clear hv hv2 b1 c0 c1 hr0 hS
    obtain ⟨L, n, hG⟩ : ∃ L n, crashG l s x = (L, n) := ⟨_, _, rfl⟩
    have hLn := crashG_len (l := l) (s := s) (x := x)
    rw [hG] at hLn
    have HLn := hid hLn
    have HG := hid hG
    clear hG hLn
    go_wp2_with fail
    refine (toJournal_any A c l s w1 (Hr0.out.below t1) hm).mono ?_; rintro e w2 ⟨A2, c2, rfl, o2, b2⟩
    have t2 := below_step t1 b2
    have z2 : w1.heap.size ≤ w2.heap.size := b2.size
    have a2p := cell_later t2 HQ0.out
    have a2q := cell_later t2 HQ1.out
    clear t1 a1p a1q b2
    go_wp2_with fail
    refine (specCrash_g HG (hid rfl) HS hx0 hx1 _ _ _ o2.cells (own_cap o2.row)).mono ?_; rintro e w3 ⟨A3, c3, rfl, o3, b3⟩
    have t3 := below_step t2 b3
    have z3 : w2.heap.size ≤ w3.heap.size := b3.size
    have a3p := cell_later t3 HQ0.out
    have a3q := cell_later t3 HQ1.out
    clear t2 a2p a2q b3
    have Hn := hid (own_len o3)
    have hn : n ≤ 1048577 := by have h1 := HLn.out; have h2 := Hn.out; omega
    have x4 : Below w3.heap.size w3 (w3.alloc (.cells #[.slice A3 n c3, .int .i64 (n : Int)] 29)) := (Below.refl _ _).alloc (Nat.le_refl _) _
    have y4 : w3.heap.size < (w3.alloc (.cells #[.slice A3 n c3, .int .i64 (n : Int)] 29)).heap.size := by simp
    have V4 := BoxO.new (s := (n : Int)) o3
    have t4 := below_step t3 x4
    have a4p := cell_later t4 HQ0.out
    have a4q := cell_later t4 HQ1.out
    obtain ⟨V4p, V4q, -, -⟩ := V4.blk.two
    clear t3 a3p a3q x4
    clear o3 o2
    go_wp2_with fail
    generalize (w3.alloc (.cells #[.slice A3 n c3, .int .i64 (n : Int)] 29)) = w4 at t4 V4 a4p a4q V4p V4q y4 ⊢
    refine (toJournal_any A c l s w4 (Hr0.out.below t4) hm).mono ?_; rintro e w5 ⟨A5, c5, rfl, o5, b5⟩
    have t5 := below_step t4 b5
    have V5 := V4.below b5
    have z5 : w4.heap.size ≤ w5.heap.size := b5.size
    have a5p := cell_later t5 HQ0.out
    have a5q := cell_later t5 HQ1.out
    obtain ⟨V5p, V5q, -, -⟩ := V5.blk.two
    clear t4 V4 a4p a4q V4p V4q b5
    have x6 : Below w5.heap.size w5 (w5.alloc (.cells #[.slice A5 l.length c5, .int .i64 s] 29)) := (Below.refl _ _).alloc (Nat.le_refl _) _
    have y6 : w5.heap.size < (w5.alloc (.cells #[.slice A5 l.length c5, .int .i64 s] 29)).heap.size := by simp
    have X6 := BoxO.new (s := s) o5
    have t6 := below_step t5 x6
    have V6 := V5.below x6
    have a6p := cell_later t6 HQ0.out
    have a6q := cell_later t6 HQ1.out
    obtain ⟨V6p, V6q, -, -⟩ := V6.blk.two
    obtain ⟨X6p, X6q, -, -⟩ := X6.blk.two
    clear t5 V5 a5p a5q V5p V5q x6
    clear o5
    go_wp2_with fail
    generalize (w5.alloc (.cells #[.slice A5 l.length c5, .int .i64 s] 29)) = w6 at t6 V6 X6 a6p a6q V6p V6q X6p X6q y6 ⊢
    refine (implCrash_g HG (hid rfl) HS hx0 hx1 _ _ _ X6.cells X6.cap).mono ?_; rintro e w7 ⟨A7, c7, rfl, o7, b7⟩
    have t7 := below_step t6 b7
    have V7 := V6.below b7
    have X7 := X6.below b7
    have z7 : w6.heap.size ≤ w7.heap.size := b7.size
    have a7p := cell_later t7 HQ0.out
    have a7q := cell_later t7 HQ1.out
    obtain ⟨V7p, V7q, -, -⟩ := V7.blk.two
    obtain ⟨X7p, X7q, -, -⟩ := X7.blk.two
    clear t6 V6 X6 a6p a6q V6p V6q X6p X6q b7
    have x8 : Below w7.heap.size w7 (w7.alloc (.cells #[.slice A7 n c7, .int .i64 (n : Int)] 29)) := (Below.refl _ _).alloc (Nat.le_refl _) _
    have y8 : w7.heap.size < (w7.alloc (.cells #[.slice A7 n c7, .int .i64 (n : Int)] 29)).heap.size := by simp
    have U8 := BoxO.new (s := (n : Int)) o7
    have t8 := below_step t7 x8
    have V8 := V7.below x8
    have X8 := X7.below x8
    have a8p := cell_later t8 HQ0.out
    have a8q := cell_later t8 HQ1.out
    obtain ⟨V8p, V8q, -, -⟩ := V8.blk.two
    obtain ⟨X8p, X8q, -, -⟩ := X8.blk.two
    obtain ⟨U8p, U8q, -, -⟩ := U8.blk.two
    clear t7 V7 X7 a7p a7q V7p V7q X7p X7q x8
    clear o7
    go_wp2_with fail
    generalize (w7.alloc (.cells #[.slice A7 n c7, .int .i64 (n : Int)] 29)) = w8 at t8 V8 X8 U8 a8p a8q V8p V8q X8p X8q U8p U8q y8 ⊢
    refine (eqJ_g Hn hn _ _ _ _ _ _ U8.cells V8.cells).mono ?_; rintro e w9 ⟨rfl, b9⟩
    have t9 := below_step t8 b9
    have V9 := V8.below b9
    have X9 := X8.below b9
    have U9 := U8.below b9
    have z9 : w8.heap.size ≤ w9.heap.size := b9.size
    have a9p := cell_later t9 HQ0.out
    have a9q := cell_later t9 HQ1.out
    obtain ⟨V9p, V9q, -, -⟩ := V9.blk.two
    obtain ⟨X9p, X9q, -, -⟩ := X9.blk.two
    obtain ⟨U9p, U9q, -, -⟩ := U9.blk.two
    clear t8 V8 X8 U8 a8p a8q V8p V8q X8p X8q U8p U8q b9
    go_wp2_with fail
    go_cut [35] from 31 (fun v wx => v = .bool false ∧ Below w9.heap.size w9 wx)
    case first =>
      have Xd := X9.below (Below.refl w9.heap.size w9).drew
      obtain ⟨xdp, xdq, -, -⟩ := Xd.blk.two
      have td := below_step t9 (Below.refl w9.heap.size w9).drew
      have adp := cell_later td HQ0.out
      have adq := cell_later td HQ1.out
      go_region_with (first | (go_at_call 20; (refine (toJournal_any A c l s _ (Hr0.out.below td) hm).mono ?_); rintro e we ⟨Ae, ce, rfl, oe, be⟩; have Oe := hid oe; have Xe := Xd.below be; obtain ⟨xep, xeq, -, -⟩ := Xe.blk.two; clear oe) | (go_at_call 22; (refine (eqJ_g (hid rfl) (by omega) _ _ _ _ _ _ Xe.cells Oe.out.cells).mono ?_); rintro e wf ⟨rfl, bf⟩; have Bf := hid bf; clear bf))
      all_goals
        go_wp2_with fail
        go_meet
        exact ⟨rfl, below_step (Below.refl w9.heap.size w9).drew (below_step be Bf.out)⟩
    case rest =>
    obtain ⟨rfl, b10⟩ := hcut
    obtain ⟨w10, hw10⟩ : ∃ x, x = wc := ⟨_, rfl⟩
    subst hw10
    have t10 := below_step t9 b10
    have V10 := V9.below b10
    have X10 := X9.below b10
    have U10 := U9.below b10
    have z10 : w9.heap.size ≤ w10.heap.size := b10.size
    have a10p := cell_later t10 HQ0.out
    have a10q := cell_later t10 HQ1.out
    obtain ⟨V10p, V10q, -, -⟩ := V10.blk.two
    obtain ⟨X10p, X10q, -, -⟩ := X10.blk.two
    obtain ⟨U10p, U10q, -, -⟩ := U10.blk.two
    clear t9 V9 X9 U9 a9p a9q V9p V9q X9p X9q U9p U9q b10
    go_wp2_with fail
    refine (markJ_g (hid rfl) (by omega) _ _ _ _ _ _ X10.own).mono ?_; rintro e w11 ⟨rfl, O11, b11⟩
    have X11B := X10.blk.chg b11 (by omega)
    have t11 := below_chg t10 b11 (by omega)
    have V11 := V10.chg b11 (by omega) (by omega)
    have U11 := U10.chg b11 (by omega) (by omega)
    have z11 : w10.heap.size ≤ w11.heap.size := b11.size
    have X11 := BoxO.mk X11B O11
    clear X11B
    have a11p := cell_later t11 HQ0.out
    have a11q := cell_later t11 HQ1.out
    obtain ⟨V11p, V11q, -, -⟩ := V11.blk.two
    obtain ⟨X11p, X11q, -, -⟩ := X11.blk.two
    obtain ⟨U11p, U11q, -, -⟩ := U11.blk.two
    clear t10 V10 U10 X10 a10p a10q V10p V10q X10p X10q U10p U10q b11 O11
    go_wp2_with fail
    refine (eqJ_g Hn hn _ _ _ _ _ _ U11.cells V11.cells).mono ?_; rintro e w12 ⟨rfl, b12⟩
    have t12 := below_step t11 b12
    have V12 := V11.below b12
    have U12 := U11.below b12
    have z12 : w11.heap.size ≤ w12.heap.size := b12.size
    have a12p := cell_later t12 HQ0.out
    have a12q := cell_later t12 HQ1.out
    obtain ⟨V12p, V12q, -, -⟩ := V12.blk.two
    obtain ⟨U12p, U12q, -, -⟩ := U12.blk.two
    clear t11 V11 U11 a11p a11q V11p V11q U11p U11q b12
    go_wp2_with fail
    refine (markJ_g Hn hn _ _ _ _ _ _ U12.own).mono ?_; rintro e w13 ⟨rfl, O13, b13⟩
    have U13B := U12.blk.chg b13 (by omega)
    have t13 := below_chg t12 b13 (by omega)
    have V13 := V12.chg b13 (by omega) (by omega)
    have z13 : w12.heap.size ≤ w13.heap.size := b13.size
    have U13 := BoxO.mk U13B O13
    clear U13B
    have a13p := cell_later t13 HQ0.out
    have a13q := cell_later t13 HQ1.out
    obtain ⟨V13p, V13q, -, -⟩ := V13.blk.two
    obtain ⟨U13p, U13q, -, -⟩ := U13.blk.two
    clear t12 V12 U12 a12p a12q V12p V12q U12p U12q b13 O13
    go_wp2_with fail
    refine (heldJ_g hn _ _ _ _ U13.cells).mono ?_; rintro e w14 ⟨rfl, b14⟩
    have t14 := below_step t13 b14
    have V14 := V13.below b14
    have U14 := U13.below b14
    have z14 : w13.heap.size ≤ w14.heap.size := b14.size
    have a14p := cell_later t14 HQ0.out
    have a14q := cell_later t14 HQ1.out
    obtain ⟨V14p, V14q, -, -⟩ := V14.blk.two
    obtain ⟨U14p, U14q, -, -⟩ := U14.blk.two
    clear t13 V13 U13 a13p a13q V13p V13q U13p U13q b14
    go_wp2_with fail
    refine (toJournal_any A c l s w14 (Hr0.out.below t14) hm).mono ?_; rintro e w15 ⟨A15, c15, rfl, o15, b15⟩
    have t15 := below_step t14 b15
    have V15 := V14.below b15
    have U15 := U14.below b15
    have z15 : w14.heap.size ≤ w15.heap.size := b15.size
    have a15p := cell_later t15 HQ0.out
    have a15q := cell_later t15 HQ1.out
    obtain ⟨V15p, V15q, -, -⟩ := V15.blk.two
    obtain ⟨U15p, U15q, -, -⟩ := U15.blk.two
    clear t14 V14 U14 a14p a14q V14p V14q U14p U14q b15
    go_wp2_with fail
    refine (implCrash_g HG (hid rfl) HS hx0 hx1 _ _ _ o15.cells (own_cap o15.row)).mono ?_; rintro e w16 ⟨A16, c16, rfl, o16, b16⟩
    have t16 := below_step t15 b16
    have V16 := V15.below b16
    have U16 := U15.below b16
    have z16 : w15.heap.size ≤ w16.heap.size := b16.size
    have a16p := cell_later t16 HQ0.out
    have a16q := cell_later t16 HQ1.out
    obtain ⟨V16p, V16q, -, -⟩ := V16.blk.two
    obtain ⟨U16p, U16q, -, -⟩ := U16.blk.two
    clear t15 V15 U15 a15p a15q V15p V15q U15p U15q b16
    have x17 : Below w16.heap.size w16 (w16.alloc (.cells #[.slice A16 n c16, .int .i64 (n : Int)] 29)) := (Below.refl _ _).alloc (Nat.le_refl _) _
    have y17 : w16.heap.size < (w16.alloc (.cells #[.slice A16 n c16, .int .i64 (n : Int)] 29)).heap.size := by simp
    have H17 := BoxO.new (s := (n : Int)) o16
    have t17 := below_step t16 x17
    have V17 := V16.below x17
    have U17 := U16.below x17
    have a17p := cell_later t17 HQ0.out
    have a17q := cell_later t17 HQ1.out
    obtain ⟨V17p, V17q, -, -⟩ := V17.blk.two
    obtain ⟨U17p, U17q, -, -⟩ := U17.blk.two
    obtain ⟨H17p, H17q, -, -⟩ := H17.blk.two
    clear t16 V16 U16 a16p a16q V16p V16q U16p U16q x17
    clear o16 o15
    go_wp2_with fail
    generalize (w16.alloc (.cells #[.slice A16 n c16, .int .i64 (n : Int)] 29)) = w17 at t17 V17 U17 H17 a17p a17q V17p V17q U17p U17q H17p H17q y17 ⊢
    refine (eqJ_g Hn hn _ _ _ _ _ _ H17.cells V17.cells).mono ?_; rintro e w18 ⟨rfl, b18⟩
    have t18 := below_step t17 b18
    have V18 := V17.below b18
    have U18 := U17.below b18
    have H18 := H17.below b18
    have z18 : w17.heap.size ≤ w18.heap.size := b18.size
    have a18p := cell_later t18 HQ0.out
    have a18q := cell_later t18 HQ1.out
    obtain ⟨V18p, V18q, -, -⟩ := V18.blk.two
    obtain ⟨U18p, U18q, -, -⟩ := U18.blk.two
    obtain ⟨H18p, H18q, -, -⟩ := H18.blk.two
    clear t17 V17 U17 H17 a17p a17q V17p V17q U17p U17q H17p H17q b18
    go_wp2_with fail
    refine (heldJ_g hn _ _ _ _ U18.cells).mono ?_; rintro e w19 ⟨rfl, b19⟩
    have t19 := below_step t18 b19
    have V19 := V18.below b19
    have U19 := U18.below b19
    have H19 := H18.below b19
    have z19 : w18.heap.size ≤ w19.heap.size := b19.size
    have a19p := cell_later t19 HQ0.out
    have a19q := cell_later t19 HQ1.out
    obtain ⟨V19p, V19q, -, -⟩ := V19.blk.two
    obtain ⟨U19p, U19q, -, -⟩ := U19.blk.two
    obtain ⟨H19p, H19q, -, -⟩ := H19.blk.two
    clear t18 V18 U18 H18 a18p a18q V18p V18q U18p U18q H18p H18q b19
    go_wp2_with fail
    go_ret
    exact ⟨rfl, below_step bw t19⟩

end Go.Proofs.Ytihjjnmhionibaa
