/- laws.FnExactJournalAdd: the walk. -/
import Derived.Test.YtihjjnmhionibaaLXJ0
import Derived.Deep.RegionWith
import Derived.Deep.CutRange
namespace Go.Proofs.Ytihjjnmhionibaa
open Go.RowKit

/-- What stands behind the region that makes a box for JournalAdd's answer. -/
structure AddEnd (W wx : World) (X lo hi : Nat) (A : Option Addr) (c n : Nat) (s : Int) (L : List RecT) : Prop where
  box : BoxO wx X lo hi A c n s L
  le : W.heap.size ≤ lo
  top : hi ≤ wx.heap.size
  leX : W.heap.size ≤ X
  far : X < lo ∨ hi ≤ X
  below : Below W.heap.size W wx
/-- The box, still empty. -/
structure AddK (W w : World) (X : Nat) : Prop where
  blk : Blk w X 29 (JB none 0 0 0)
  le : W.heap.size ≤ X
theorem AddK.below {W w w' : World} {X : Nat} (h : AddK W w X) (hb : Below w.heap.size w w') : AddK W w' X := ⟨h.blk.below hb h.blk.lt, h.le⟩
theorem addK_new {W w w' : World} (h : W.heap.size ≤ w.heap.size) (hb : Below (w.alloc (.cells #[.slice none 0 0, .int .i64 0] 29)).heap.size (w.alloc (.cells #[.slice none 0 0, .int .i64 0] 29)) w') : AddK W w' w.heap.size :=
  ⟨(Blk.new w 29 (JB none 0 0 0)).below hb (by simp), h⟩
theorem addK_drew {W w' : World} (hb : Below (W.alloc (.cells #[.slice none 0 0, .int .i64 0] 29)).drew.heap.size (W.alloc (.cells #[.slice none 0 0, .int .i64 0] 29)).drew w') : AddK W w' W.heap.size :=
  ⟨Blk.below (w := (W.alloc (.cells #[.slice none 0 0, .int .i64 0] 29)).drew) (Blk.new W 29 (JB none 0 0 0)) hb (by simp), Nat.le_refl _⟩
section
variable {W wR wS : World} {A : Option Addr} {c n : Nat} {s : Int} {L : List RecT}
theorem endA (bR : Below W.heap.size W wR) (b9 : Below wR.heap.size wR wS) (o : Own wS wR.heap.size wS.heap.size 35 2 A c n (recs L)) :
    AddEnd W (wS.alloc (.cells #[.slice A n c, .int .i64 s] 29)) wS.heap.size wR.heap.size wS.heap.size A c n s L :=
  ⟨BoxO.new o, bR.size, by simp, by have := bR.size; have := b9.size; omega, .inr (Nat.le_refl _), (below_step bR b9).alloc (by have := bR.size; have := b9.size; omega) _⟩
theorem end_set {X lo : Nat} (b : Below W.heap.size W wS) (o : Own wS lo wS.heap.size 35 2 A c n (recs L)) (k : AddK W wS X) (hX : X < lo) (hl : W.heap.size ≤ lo) :
    AddEnd W ((wS.setCell ⟨X, 0, none⟩ (.slice A n c)).setCell ⟨X, 1, none⟩ (.int .i64 s)) X lo wS.heap.size A c n s L := by
  have h1 := (k.blk.set 0 (.slice A n c)).set 1 (.int .i64 s)
  exact ⟨⟨by simpa using h1, own_set_ne (own_set_ne o hX _ _) hX _ _⟩, hl, by simp [World.setCell], k.le, .inl hX, (b.setCell k.le _).setCell k.le _⟩
theorem endB {X : Nat} (bR : Below W.heap.size W wR) (b9 : Below wR.heap.size wR wS) (o : Own wS wR.heap.size wS.heap.size 35 2 A c n (recs L)) (k : AddK W wS X) (hX : X < wR.heap.size) :
    AddEnd W ((wS.setCell ⟨X, 0, none⟩ (.slice A n c)).setCell ⟨X, 1, none⟩ (.int .i64 s)) X wR.heap.size wS.heap.size A c n s L := end_set (below_step bR b9) o k hX bR.size
theorem endC (bR : Below W.heap.size W wR) (b9 : Below (wR.alloc (.cells #[.slice none 0 0, .int .i64 0] 29)).heap.size (wR.alloc (.cells #[.slice none 0 0, .int .i64 0] 29)) wS) (o : Own wS (wR.alloc (.cells #[.slice none 0 0, .int .i64 0] 29)).heap.size wS.heap.size 35 2 A c n (recs L)) (k : AddK W wS wR.heap.size) :
    AddEnd W ((wS.setCell ⟨wR.heap.size, 0, none⟩ (.slice A n c)).setCell ⟨wR.heap.size, 1, none⟩ (.int .i64 s)) wR.heap.size (wR.alloc (.cells #[.slice none 0 0, .int .i64 0] 29)).heap.size wS.heap.size A c n s L :=
  end_set (below_step (bR.alloc bR.size _) b9) o k (by simp) (by have := bR.size; simp; omega)
end

set_option maxRecDepth 100000 in
set_option maxHeartbeats 16000000 in
theorem exactJournalAdd_walk (A : Option Addr) (c : Nat) (l : List RecT) (s i : Int) (t : ByteArray) (w : World) (hr : Cells w A (recs l)) (hm0 : l.length ≤ 9223372036854775807) (hl : ∀ a ∈ l, a.2.size ≤ 9223372036854775807) (htm : t.size ≤ 9223372036854775807) :
    Calls Try.prog 16 #[jv A l.length c s, rv i t] w (RetB w true) := by
  have bv : Below (w.alloc (.cells #[.slice A l.length c, .int .i64 s] 24)).heap.size (w.alloc (.cells #[.slice A l.length c, .int .i64 s] 24)) ((w.alloc (.cells #[.slice A l.length c, .int .i64 s] 24)).alloc (.cells #[.int .i64 i, .string t] 55)) := (Below.refl _ _).alloc (Nat.le_refl _) _
  have bw : Below w.heap.size w ((w.alloc (.cells #[.slice A l.length c, .int .i64 s] 24)).alloc (.cells #[.int .i64 i, .string t] 55)) := below_step ((Below.refl _ _).alloc (Nat.le_refl _) _) bv
  have q0 := (Blk.new w 24 (JB A l.length c s)).below bv (by simp)
  obtain ⟨c0, c1, -, -⟩ := q0.two
  have q1 : Blk ((w.alloc (.cells #[.slice A l.length c, .int .i64 s] 24)).alloc (.cells #[.int .i64 i, .string t] 55)) (w.heap.size + 1) 55 [.int .i64 i, .string t] := by
    have h := Blk.new (w.alloc (.cells #[.slice A l.length c, .int .i64 s] 24)) 55 [.int .i64 i, .string t]
    simpa using h
  obtain ⟨r0, r1, -, -⟩ := q1.two
  have l0 : w.heap.size + 1 < ((w.alloc (.cells #[.slice A l.length c, .int .i64 s] 24)).alloc (.cells #[.int .i64 i, .string t] 55)).heap.size := by simp
  have hr0 := hid (hr.below bw)
  have hS := hid (fun W h => szJournal_any A c l s W h hm0 hl)
  clear hr q0 q1 hl bv
  go_enter Try.func16, Try.ntmps16
  go_wp2_with fail
  generalize ((w.alloc (.cells #[.slice A l.length c, .int .i64 s] 24)).alloc (.cells #[.int .i64 i, .string t] 55)) = W0 at bw hr0 c0 c1 r0 r1 l0 ⊢
  refine (hS.out _ hr0.out).mono ?_; rintro e w1 ⟨v, rfl, hv, b1⟩
  by_cases h0 : v < 0
  · go_wp2_with fail
    go_ret
    exact ⟨rfl, below_step bw b1⟩
  · have hv2 : 0 ≤ v ∧ v ≤ 1048576 ∧ FitR l := by rcases hv with h | h; exact absurd h h0; exact h
    have Hf := hid hv2.2.2
    have hm := hv2.2.2.1
    have hv1 := hv2.2.1
    have HS : Hid (SmallR l) := Hf.out.small
    have HQ0 := hid c0
    have HQ1 := hid c1
    have HR0 := hid r0
    have HR1 := hid r1
    have Hr0 := hr0
    have d0 := cell_later b1 r0
    have d1 := cell_later b1 r1
    clear hv hv2 c0 c1 r0 r1 hr0 hS
    by_cases hov : v < (t.size : Int)
    · go_wp2_with fail
      refine (szRecord_over i t v w1 htm (by omega) hov).mono ?_; rintro e w2 ⟨rfl, b2⟩
      go_wp2_with fail
      go_ret
      exact ⟨rfl, below_step bw (below_step b1 b2)⟩
    have ht : t.size ≤ 1048576 := by omega
    go_wp2_with fail
    refine (szRecord_any i t v w1 (by omega) hv1).mono ?_; rintro e w2 ⟨rfl, b2⟩
    have t2 := below_step b1 b2
    have z2 : W0.heap.size ≤ w2.heap.size := t2.size
    have a2p := cell_later t2 HQ0.out
    have a2q := cell_later t2 HQ1.out
    clear b1 b2 d0 d1
    obtain ⟨L, s', ok, hG⟩ : ∃ L s' ok, addG l s (i, t) = (L, s', ok) := ⟨_, _, _, rfl⟩
    have hLn := addG_len (l := l) (s := s) (a := (i, t))
    rw [hG] at hLn
    obtain ⟨n, hn0⟩ : ∃ n, L.length = n := ⟨_, rfl⟩
    have hn : n ≤ 1048577 := by simp only at hLn; omega
    have HG := hid hG
    have Hn := hid hn0
    clear hG hLn hn0
    go_wp2_with fail
    go_cut [6, 7] from 27 (fun v u wx => ∃ (X lo hi : Nat) (A6 : Option Addr) (c6 : Nat), v = .pointer (some ⟨X, 0, none⟩) ∧ u = .bool ok ∧ AddEnd w2 wx X lo hi A6 c6 n s' L)
    case first =>
      have dr : Below w2.heap.size w2 w2.drew := (Below.refl _ _).drew
      have drz : Below w2.heap.size w2 (w2.alloc (.cells #[.slice none 0 0, .int .i64 0] 29)).drew := ((Below.refl _ _).alloc (Nat.le_refl _) _).drew
      have hzW : w.heap.size + 1 < w2.heap.size := by omega
      have hzW0 : w.heap.size < w2.heap.size := by omega
      have HW := hid (Hr0.out.below (below_step t2 dr))
      have HWZ := hid (Hr0.out.below (below_step t2 drz))
      have awr0 := cell_later t2 HR0.out
      have awr1 := cell_later t2 HR1.out
      have adr0 := cell_later (below_step t2 dr) HR0.out
      have adr1 := cell_later (below_step t2 dr) HR1.out
      have aws0 := cell_later t2 HQ0.out
      have aws1 := cell_later t2 HQ1.out
      have ads0 := cell_later (below_step t2 dr) HQ0.out
      have ads1 := cell_later (below_step t2 dr) HQ1.out
      go_region_with (first | (go_at_call 20; ((with_reducible refine (toJournal_any A c l s w2.drew HW.out hm).mono ?_); rintro e wT ⟨A7, c7, rfl, o7, b7⟩; have bT : Below w2.heap.size w2 wT := below_step dr b7; have OT := hid o7; have wTr0 := cell_later (below_step t2 bT) HR0.out; have wTr1 := cell_later (below_step t2 bT) HR1.out; have wTz : w.heap.size + 1 < wT.heap.size   := (by have := bT.size; omega); clear o7)) | (go_at_call 20; ((with_reducible refine (toJournal_any A c l s (w2.alloc (.cells #[.slice none 0 0, .int .i64 0] 29)).drew HWZ.out hm).mono ?_); rintro e wT ⟨A7, c7, rfl, o7, b7⟩; have bT : Below w2.heap.size w2 wT := below_step drz b7; have OT := hid o7; have kT : Hid (AddK w2 wT w2.heap.size) := addK_drew b7; have wTr0 := cell_later (below_step t2 bT) HR0.out; have wTr1 := cell_later (below_step t2 bT) HR1.out; have wTz : w.heap.size + 1 < wT.heap.size   := (by have := bT.size; omega); clear o7)) | (go_at_call 41; ((with_reducible refine (toRecord_any i t wT).mono ?_); rintro e wR ⟨rfl, b8⟩; have bR : Below w2.heap.size w2 wR := below_step bT b8; have CR := hid (OT.out.cells.below b8); have wRr0 := cell_later (below_step t2 bR) HR0.out; have wRr1 := cell_later (below_step t2 bR) HR1.out; have wRz : w.heap.size + 1 < wR.heap.size   := (by have := bR.size; omega); (first | have kR : Hid (AddK w2 wR _) := kT.out.below b8 | skip))) | (go_at_call 41; ((with_reducible refine (toRecord_any i t (wT.alloc (.cells #[.slice none 0 0, .int .i64 0] 29))).mono ?_); rintro e wR ⟨rfl, b8⟩; have bR : Below w2.heap.size w2 wR := below_step bT (below_step ((Below.refl wT.heap.size wT).alloc (Nat.le_refl _) _) b8); have CR := hid (OT.out.cells.below (below_step ((Below.refl wT.heap.size wT).alloc (Nat.le_refl _) _) b8)); have kR : Hid (AddK w2 wR wT.heap.size) := addK_new bT.size b8; have wRr0 := cell_later (below_step t2 bR) HR0.out; have wRr1 := cell_later (below_step t2 bR) HR1.out; have wRz : w.heap.size + 1 < wR.heap.size   := (by have := bR.size; omega))) | (go_at_call 25; ((with_reducible refine (specAdd_g HG (hid rfl) Hn HS ht _ _ wR CR.out).mono ?_); rintro e wS ⟨A9, c9, rfl, o9, b9⟩; have OS := hid o9; clear o9; (first | (have kS : Hid (AddK w2 wS _) := kR.out.below b9; have kX := hid (kR.out.blk.lt); obtain ⟨xc0, xc1, xf0, xf1⟩ := kS.out.blk.two) | skip))) | (go_at_call 25; ((with_reducible refine (specAdd_g HG (hid rfl) Hn HS ht _ _ (wR.alloc (.cells #[.slice none 0 0, .int .i64 0] 29)) (CR.out.below ((Below.refl wR.heap.size wR).alloc (Nat.le_refl _) _))).mono ?_); rintro e wS ⟨A9, c9, rfl, o9, b9⟩; have OS := hid o9; clear o9; have kS : Hid (AddK w2 wS wR.heap.size) := addK_new bR.size b9; obtain ⟨xc0, xc1, xf0, xf1⟩ := kS.out.blk.two)) | fail)
      all_goals
        go_wp2_with fail
        go_meet
        first
          | exact ⟨_, _, _, A9, c9, rfl, rfl, endA bR b9 OS.out⟩
          | exact ⟨_, _, _, A9, c9, rfl, rfl, endB bR b9 OS.out kS.out kX.out⟩
          | exact ⟨_, _, _, A9, c9, rfl, rfl, endC bR b9 OS.out kS.out⟩
    case rest =>
    obtain ⟨X3, lo3, hi3, A3, c3, rfl, rfl, E3⟩ := hcut
    obtain ⟨w3, hw3⟩ : ∃ x, x = wc := ⟨_, rfl⟩
    subst hw3
    have g3 := E3.le
    have gt3 := E3.top
    have gX3 := E3.leX
    have gf3 := E3.far
    have b3 := E3.below
    have gl3 := E3.box.blk.lt
    have t3 := below_step t2 b3
    have z3 : w2.heap.size ≤ w3.heap.size := b3.size
    have V3 := E3.box
    have a3p := cell_later t3 HQ0.out
    have a3q := cell_later t3 HQ1.out
    obtain ⟨V3p, V3q, -, -⟩ := V3.blk.two
    clear t2 b3 E3
    go_wp2_with fail
    refine (toJournal_any A c l s w3 (Hr0.out.below t3) hm).mono ?_; rintro e w4 ⟨A4, c4, rfl, o4, b4⟩
    have t4 := below_step t3 b4
    have V4 := V3.below b4
    have z4 : w3.heap.size ≤ w4.heap.size := b4.size
    have a4p := cell_later t4 HQ0.out
    have a4q := cell_later t4 HQ1.out
    obtain ⟨V4p, V4q, -, -⟩ := V4.blk.two
    clear t3 V3 a3p a3q V3p V3q b4
    have x5 : Below w4.heap.size w4 (w4.alloc (.cells #[.slice A4 l.length c4, .int .i64 s] 29)) := (Below.refl _ _).alloc (Nat.le_refl _) _
    have y5 : w4.heap.size < (w4.alloc (.cells #[.slice A4 l.length c4, .int .i64 s] 29)).heap.size := by simp
    have X5 := BoxO.new (s := s) o4
    have t5 := below_step t4 x5
    have V5 := V4.below x5
    have a5p := cell_later t5 HQ0.out
    have a5q := cell_later t5 HQ1.out
    obtain ⟨V5p, V5q, -, -⟩ := V5.blk.two
    obtain ⟨X5p, X5q, -, -⟩ := X5.blk.two
    clear t4 V4 a4p a4q V4p V4q x5
    clear o4
    go_wp2_with fail
    generalize (w4.alloc (.cells #[.slice A4 l.length c4, .int .i64 s] 29)) = w5 at t5 V5 X5 a5p a5q V5p V5q X5p X5q y5 ⊢
    skip
    go_wp2_with fail
    go_cut [9, 10] from 37 (fun v u wx => ∃ (X lo hi : Nat) (A6 : Option Addr) (c6 : Nat), v = .pointer (some ⟨X, 0, none⟩) ∧ u = .bool ok ∧ AddEnd w5 wx X lo hi A6 c6 n s' L)
    case first =>
      have dr : Below w5.heap.size w5 w5.drew := (Below.refl _ _).drew
      have drz : Below w5.heap.size w5 (w5.alloc (.cells #[.slice none 0 0, .int .i64 0] 29)).drew := ((Below.refl _ _).alloc (Nat.le_refl _) _).drew
      have hzW : w.heap.size + 1 < w5.heap.size := by omega
      have hzW0 : w.heap.size < w5.heap.size := by omega
      have HW := hid (Hr0.out.below (below_step t5 dr))
      have HWZ := hid (Hr0.out.below (below_step t5 drz))
      have awr0 := cell_later t5 HR0.out
      have awr1 := cell_later t5 HR1.out
      have adr0 := cell_later (below_step t5 dr) HR0.out
      have adr1 := cell_later (below_step t5 dr) HR1.out
      have XD := X5.below (Below.refl w5.heap.size w5).drew
      obtain ⟨xd0, xd1, -, -⟩ := XD.blk.two
      have hXz := X5.blk.lt
      have XDZ := X5.below drz
      go_region_with (first | (go_at_call 41; ((with_reducible refine (toRecord_any i t w5.drew).mono ?_); rintro e wR ⟨rfl, b8⟩; have bR : Below w5.heap.size w5 wR := below_step dr b8; have CR := hid (XD.cells.below b8); have wRr0 := cell_later (below_step t5 bR) HR0.out; have wRr1 := cell_later (below_step t5 bR) HR1.out; have wRz : w.heap.size + 1 < wR.heap.size   := (by have := bR.size; omega); have XR := XD.below b8; obtain ⟨xr0, xr1, -, -⟩ := XR.blk.two; have hXr := XR.blk.lt)) | (go_at_call 41; ((with_reducible refine (toRecord_any i t (w5.alloc (.cells #[.slice none 0 0, .int .i64 0] 29)).drew).mono ?_); rintro e wR ⟨rfl, b8⟩; have bR : Below w5.heap.size w5 wR := below_step drz b8; have CR := hid (XDZ.cells.below b8); have kR : Hid (AddK w5 wR w5.heap.size) := addK_drew b8; have wRr0 := cell_later (below_step t5 bR) HR0.out; have wRr1 := cell_later (below_step t5 bR) HR1.out; have wRz : w.heap.size + 1 < wR.heap.size   := (by have := bR.size; omega); have XR := XDZ.below b8; obtain ⟨xr0, xr1, -, -⟩ := XR.blk.two; have hXr := XR.blk.lt)) | (go_at_call 24; ((with_reducible refine (implAdd_g HG (hid rfl) Hn HS ht _ _ wR CR.out).mono ?_); rintro e wS ⟨A9, c9, rfl, o9, b9⟩; have OS := hid o9; clear o9; (first | (have kS : Hid (AddK w5 wS _) := kR.out.below b9; have kX := hid (kR.out.blk.lt); obtain ⟨xc0, xc1, xf0, xf1⟩ := kS.out.blk.two) | skip))) | (go_at_call 24; ((with_reducible refine (implAdd_g HG (hid rfl) Hn HS ht _ _ (wR.alloc (.cells #[.slice none 0 0, .int .i64 0] 29)) (CR.out.below ((Below.refl wR.heap.size wR).alloc (Nat.le_refl _) _))).mono ?_); rintro e wS ⟨A9, c9, rfl, o9, b9⟩; have OS := hid o9; clear o9; have kS : Hid (AddK w5 wS wR.heap.size) := addK_new bR.size b9; obtain ⟨xc0, xc1, xf0, xf1⟩ := kS.out.blk.two)) | fail)
      all_goals
        go_wp2_with fail
        go_meet
        first
          | exact ⟨_, _, _, A9, c9, rfl, rfl, endA bR b9 OS.out⟩
          | exact ⟨_, _, _, A9, c9, rfl, rfl, endB bR b9 OS.out kS.out kX.out⟩
          | exact ⟨_, _, _, A9, c9, rfl, rfl, endC bR b9 OS.out kS.out⟩
    case rest =>
    obtain ⟨X6, lo6, hi6, A6, c6, rfl, rfl, E6⟩ := hcut
    obtain ⟨w6, hw6⟩ : ∃ x, x = wc := ⟨_, rfl⟩
    subst hw6
    have g6 := E6.le
    have gt6 := E6.top
    have gX6 := E6.leX
    have gf6 := E6.far
    have b6 := E6.below
    have gl6 := E6.box.blk.lt
    have t6 := below_step t5 b6
    have V6 := V5.below b6
    have X6 := X5.below b6
    have z6 : w5.heap.size ≤ w6.heap.size := b6.size
    have U6 := E6.box
    have a6p := cell_later t6 HQ0.out
    have a6q := cell_later t6 HQ1.out
    obtain ⟨V6p, V6q, -, -⟩ := V6.blk.two
    obtain ⟨X6p, X6q, -, -⟩ := X6.blk.two
    obtain ⟨U6p, U6q, -, -⟩ := U6.blk.two
    clear t5 V5 X5 a5p a5q V5p V5q X5p X5q b6 E6
    go_wp2_with fail
    refine (eqJ_g Hn hn _ _ _ _ _ _ U6.cells V6.cells).mono ?_; rintro e w7 ⟨rfl, b7⟩
    have t7 := below_step t6 b7
    have V7 := V6.below b7
    have X7 := X6.below b7
    have U7 := U6.below b7
    have z7 : w6.heap.size ≤ w7.heap.size := b7.size
    have a7p := cell_later t7 HQ0.out
    have a7q := cell_later t7 HQ1.out
    obtain ⟨V7p, V7q, -, -⟩ := V7.blk.two
    obtain ⟨X7p, X7q, -, -⟩ := X7.blk.two
    obtain ⟨U7p, U7q, -, -⟩ := U7.blk.two
    clear t6 V6 X6 U6 a6p a6q V6p V6q X6p X6q U6p U6q b7
    go_wp2_with fail
    go_cut [56] from 52 (fun v wx => v = .bool false ∧ Below w7.heap.size w7 wx)
    case first =>
      have Xd := X7.below (Below.refl w7.heap.size w7).drew
      obtain ⟨xdp, xdq, -, -⟩ := Xd.blk.two
      have td := below_step t7 (Below.refl w7.heap.size w7).drew
      have adp := cell_later td HQ0.out
      have adq := cell_later td HQ1.out
      go_region_with (first | (go_at_call 20; (refine (toJournal_any A c l s _ (Hr0.out.below td) hm).mono ?_); rintro e we ⟨Ae, ce, rfl, oe, be⟩; have Oe := hid oe; have Xe := Xd.below be; obtain ⟨xep, xeq, -, -⟩ := Xe.blk.two; clear oe) | (go_at_call 22; (refine (eqJ_g (hid rfl) (by omega) _ _ _ _ _ _ Xe.cells Oe.out.cells).mono ?_); rintro e wf ⟨rfl, bf⟩; have Bf := hid bf; clear bf))
      all_goals
        go_wp2_with fail
        go_meet
        exact ⟨rfl, below_step (Below.refl w7.heap.size w7).drew (below_step be Bf.out)⟩
    case rest =>
    obtain ⟨rfl, b8⟩ := hcut
    obtain ⟨w8, hw8⟩ : ∃ x, x = wc := ⟨_, rfl⟩
    subst hw8
    have t8 := below_step t7 b8
    have V8 := V7.below b8
    have X8 := X7.below b8
    have U8 := U7.below b8
    have z8 : w7.heap.size ≤ w8.heap.size := b8.size
    have a8p := cell_later t8 HQ0.out
    have a8q := cell_later t8 HQ1.out
    obtain ⟨V8p, V8q, -, -⟩ := V8.blk.two
    obtain ⟨X8p, X8q, -, -⟩ := X8.blk.two
    obtain ⟨U8p, U8q, -, -⟩ := U8.blk.two
    clear t7 V7 X7 U7 a7p a7q V7p V7q X7p X7q U7p U7q b8
    go_wp2_with fail
    refine (markJ_g (hid rfl) (by omega) _ _ _ _ _ _ X8.own).mono ?_; rintro e w9 ⟨rfl, O9, b9⟩
    have X9B := X8.blk.chg b9 (by omega)
    have t9 := below_chg t8 b9 (by omega)
    have V9 := V8.chg b9 (by omega) (by omega)
    have U9 := U8.chg b9 (by omega) (by omega)
    have z9 : w8.heap.size ≤ w9.heap.size := b9.size
    have X9 := BoxO.mk X9B O9
    clear X9B
    have a9p := cell_later t9 HQ0.out
    have a9q := cell_later t9 HQ1.out
    obtain ⟨V9p, V9q, -, -⟩ := V9.blk.two
    obtain ⟨X9p, X9q, -, -⟩ := X9.blk.two
    obtain ⟨U9p, U9q, -, -⟩ := U9.blk.two
    clear t8 V8 U8 X8 a8p a8q V8p V8q X8p X8q U8p U8q b9 O9
    go_wp2_with fail
    refine (eqJ_g Hn hn _ _ _ _ _ _ U9.cells V9.cells).mono ?_; rintro e w10 ⟨rfl, b10⟩
    have t10 := below_step t9 b10
    have V10 := V9.below b10
    have U10 := U9.below b10
    have z10 : w9.heap.size ≤ w10.heap.size := b10.size
    have a10p := cell_later t10 HQ0.out
    have a10q := cell_later t10 HQ1.out
    obtain ⟨V10p, V10q, -, -⟩ := V10.blk.two
    obtain ⟨U10p, U10q, -, -⟩ := U10.blk.two
    clear t9 V9 U9 a9p a9q V9p V9q U9p U9q b10
    go_wp2_with fail
    refine (markJ_g Hn hn _ _ _ _ _ _ U10.own).mono ?_; rintro e w11 ⟨rfl, O11, b11⟩
    have U11B := U10.blk.chg b11 (by omega)
    have t11 := below_chg t10 b11 (by omega)
    have V11 := V10.chg b11 (by omega) (by omega)
    have z11 : w10.heap.size ≤ w11.heap.size := b11.size
    have U11 := BoxO.mk U11B O11
    clear U11B
    have a11p := cell_later t11 HQ0.out
    have a11q := cell_later t11 HQ1.out
    obtain ⟨V11p, V11q, -, -⟩ := V11.blk.two
    obtain ⟨U11p, U11q, -, -⟩ := U11.blk.two
    clear t10 V10 U10 a10p a10q V10p V10q U10p U10q b11 O11
    go_wp2_with fail
    refine (heldJ_g hn _ _ _ _ U11.cells).mono ?_; rintro e w12 ⟨rfl, b12⟩
    have t12 := below_step t11 b12
    have V12 := V11.below b12
    have U12 := U11.below b12
    have z12 : w11.heap.size ≤ w12.heap.size := b12.size
    have a12p := cell_later t12 HQ0.out
    have a12q := cell_later t12 HQ1.out
    obtain ⟨V12p, V12q, -, -⟩ := V12.blk.two
    obtain ⟨U12p, U12q, -, -⟩ := U12.blk.two
    clear t11 V11 U11 a11p a11q V11p V11q U11p U11q b12
    go_wp2_with fail
    go_cut [14, 15] from 85 (fun v u wx => ∃ (X lo hi : Nat) (A6 : Option Addr) (c6 : Nat), v = .pointer (some ⟨X, 0, none⟩) ∧ u = .bool ok ∧ AddEnd w12 wx X lo hi A6 c6 n s' L)
    case first =>
      have dr : Below w12.heap.size w12 w12.drew := (Below.refl _ _).drew
      have drz : Below w12.heap.size w12 (w12.alloc (.cells #[.slice none 0 0, .int .i64 0] 29)).drew := ((Below.refl _ _).alloc (Nat.le_refl _) _).drew
      have hzW : w.heap.size + 1 < w12.heap.size := by omega
      have hzW0 : w.heap.size < w12.heap.size := by omega
      have HW := hid (Hr0.out.below (below_step t12 dr))
      have HWZ := hid (Hr0.out.below (below_step t12 drz))
      have awr0 := cell_later t12 HR0.out
      have awr1 := cell_later t12 HR1.out
      have adr0 := cell_later (below_step t12 dr) HR0.out
      have adr1 := cell_later (below_step t12 dr) HR1.out
      have aws0 := cell_later t12 HQ0.out
      have aws1 := cell_later t12 HQ1.out
      have ads0 := cell_later (below_step t12 dr) HQ0.out
      have ads1 := cell_later (below_step t12 dr) HQ1.out
      go_region_with (first | (go_at_call 20; ((with_reducible refine (toJournal_any A c l s w12.drew HW.out hm).mono ?_); rintro e wT ⟨A7, c7, rfl, o7, b7⟩; have bT : Below w12.heap.size w12 wT := below_step dr b7; have OT := hid o7; have wTr0 := cell_later (below_step t12 bT) HR0.out; have wTr1 := cell_later (below_step t12 bT) HR1.out; have wTz : w.heap.size + 1 < wT.heap.size   := (by have := bT.size; omega); clear o7)) | (go_at_call 20; ((with_reducible refine (toJournal_any A c l s (w12.alloc (.cells #[.slice none 0 0, .int .i64 0] 29)).drew HWZ.out hm).mono ?_); rintro e wT ⟨A7, c7, rfl, o7, b7⟩; have bT : Below w12.heap.size w12 wT := below_step drz b7; have OT := hid o7; have kT : Hid (AddK w12 wT w12.heap.size) := addK_drew b7; have wTr0 := cell_later (below_step t12 bT) HR0.out; have wTr1 := cell_later (below_step t12 bT) HR1.out; have wTz : w.heap.size + 1 < wT.heap.size   := (by have := bT.size; omega); clear o7)) | (go_at_call 41; ((with_reducible refine (toRecord_any i t wT).mono ?_); rintro e wR ⟨rfl, b8⟩; have bR : Below w12.heap.size w12 wR := below_step bT b8; have CR := hid (OT.out.cells.below b8); have wRr0 := cell_later (below_step t12 bR) HR0.out; have wRr1 := cell_later (below_step t12 bR) HR1.out; have wRz : w.heap.size + 1 < wR.heap.size   := (by have := bR.size; omega); (first | have kR : Hid (AddK w12 wR _) := kT.out.below b8 | skip))) | (go_at_call 41; ((with_reducible refine (toRecord_any i t (wT.alloc (.cells #[.slice none 0 0, .int .i64 0] 29))).mono ?_); rintro e wR ⟨rfl, b8⟩; have bR : Below w12.heap.size w12 wR := below_step bT (below_step ((Below.refl wT.heap.size wT).alloc (Nat.le_refl _) _) b8); have CR := hid (OT.out.cells.below (below_step ((Below.refl wT.heap.size wT).alloc (Nat.le_refl _) _) b8)); have kR : Hid (AddK w12 wR wT.heap.size) := addK_new bT.size b8; have wRr0 := cell_later (below_step t12 bR) HR0.out; have wRr1 := cell_later (below_step t12 bR) HR1.out; have wRz : w.heap.size + 1 < wR.heap.size   := (by have := bR.size; omega))) | (go_at_call 24; ((with_reducible refine (implAdd_g HG (hid rfl) Hn HS ht _ _ wR CR.out).mono ?_); rintro e wS ⟨A9, c9, rfl, o9, b9⟩; have OS := hid o9; clear o9; (first | (have kS : Hid (AddK w12 wS _) := kR.out.below b9; have kX := hid (kR.out.blk.lt); obtain ⟨xc0, xc1, xf0, xf1⟩ := kS.out.blk.two) | skip))) | (go_at_call 24; ((with_reducible refine (implAdd_g HG (hid rfl) Hn HS ht _ _ (wR.alloc (.cells #[.slice none 0 0, .int .i64 0] 29)) (CR.out.below ((Below.refl wR.heap.size wR).alloc (Nat.le_refl _) _))).mono ?_); rintro e wS ⟨A9, c9, rfl, o9, b9⟩; have OS := hid o9; clear o9; have kS : Hid (AddK w12 wS wR.heap.size) := addK_new bR.size b9; obtain ⟨xc0, xc1, xf0, xf1⟩ := kS.out.blk.two)) | fail)
      all_goals
        go_wp2_with fail
        go_meet
        first
          | exact ⟨_, _, _, A9, c9, rfl, rfl, endA bR b9 OS.out⟩
          | exact ⟨_, _, _, A9, c9, rfl, rfl, endB bR b9 OS.out kS.out kX.out⟩
          | exact ⟨_, _, _, A9, c9, rfl, rfl, endC bR b9 OS.out kS.out⟩
    case rest =>
    obtain ⟨X13, lo13, hi13, A13, c13, rfl, rfl, E13⟩ := hcut
    obtain ⟨w13, hw13⟩ : ∃ x, x = wc := ⟨_, rfl⟩
    subst hw13
    have g13 := E13.le
    have gt13 := E13.top
    have gX13 := E13.leX
    have gf13 := E13.far
    have b13 := E13.below
    have gl13 := E13.box.blk.lt
    have t13 := below_step t12 b13
    have V13 := V12.below b13
    have U13 := U12.below b13
    have z13 : w12.heap.size ≤ w13.heap.size := b13.size
    have R13 := E13.box
    have a13p := cell_later t13 HQ0.out
    have a13q := cell_later t13 HQ1.out
    obtain ⟨V13p, V13q, -, -⟩ := V13.blk.two
    obtain ⟨U13p, U13q, -, -⟩ := U13.blk.two
    obtain ⟨R13p, R13q, -, -⟩ := R13.blk.two
    clear t12 V12 U12 a12p a12q V12p V12q U12p U12q b13 E13
    go_wp2_with fail
    refine (eqJ_g Hn hn _ _ _ _ _ _ R13.cells V13.cells).mono ?_; rintro e w14 ⟨rfl, b14⟩
    have t14 := below_step t13 b14
    have V14 := V13.below b14
    have U14 := U13.below b14
    have R14 := R13.below b14
    have z14 : w13.heap.size ≤ w14.heap.size := b14.size
    have a14p := cell_later t14 HQ0.out
    have a14q := cell_later t14 HQ1.out
    obtain ⟨V14p, V14q, -, -⟩ := V14.blk.two
    obtain ⟨U14p, U14q, -, -⟩ := U14.blk.two
    obtain ⟨R14p, R14q, -, -⟩ := R14.blk.two
    clear t13 V13 U13 R13 a13p a13q V13p V13q U13p U13q R13p R13q b14
    go_wp2_with fail
    refine (heldJ_g hn _ _ _ _ U14.cells).mono ?_; rintro e w15 ⟨rfl, b15⟩
    have t15 := below_step t14 b15
    have V15 := V14.below b15
    have U15 := U14.below b15
    have R15 := R14.below b15
    have z15 : w14.heap.size ≤ w15.heap.size := b15.size
    have a15p := cell_later t15 HQ0.out
    have a15q := cell_later t15 HQ1.out
    obtain ⟨V15p, V15q, -, -⟩ := V15.blk.two
    obtain ⟨U15p, U15q, -, -⟩ := U15.blk.two
    obtain ⟨R15p, R15q, -, -⟩ := R15.blk.two
    clear t14 V14 U14 R14 a14p a14q V14p V14q U14p U14q R14p R14q b15
    go_wp2_with fail
    go_ret
    exact ⟨rfl, below_step bw t15⟩

end Go.Proofs.Ytihjjnmhionibaa
