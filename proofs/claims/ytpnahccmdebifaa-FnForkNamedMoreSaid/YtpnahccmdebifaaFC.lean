/- Forks drawn. -/
import Derived.Test.YtpnahccmdebifaaFB
import Derived.Test.YtpnahccmdebifaaF8
import Derived.Test.YtpnahccmdebifaaF3
import Derived.Deep.CutRange
namespace Go.Proofs.Ytpnahccmdebifaa
open Go.RowKit

def zero7 : List Value := [.int .i64 0, .int .i64 0, .int .i64 0, .int .i64 0, .int .i64 0, .int .i64 0, .int .i64 0]
/-- A drawn fork. -/
def DrawnF (w : World) (g p : Nat) (e : Ending) (w' : World) : Prop := ∃ (x : ForkT) (p' : Nat), e = .returned (fv x) ∧ Rd w' g p' ∧ p' ≤ p + 1000 ∧ Only g w w'

/-- Two rows of leaves, a reader, the block of the result. -/
structure FAt (w wr : World) (g B n : Nat) (A : Option Addr) (c : Nat) (l : List Int) (A5 : Option Addr) (c5 : Nat) (l5 : List Int) (p P : Nat) : Prop where
  rowA : Own wr w.heap.size B 3 1 A c n (ints l)
  rowB : wr.ownsRow B 3 1 (.slice A5 n c5) n (ints l5)
  len : l5.length = n
  res : Blk wr w.heap.size 32 zero7
  rd : Rd wr g p
  le : p ≤ P
  on : Only g w wr
  gw : g < w.heap.size
  wB : w.heap.size < B
section
variable {w W W' : World} {g B n : Nat} {A : Option Addr} {c : Nat} {l : List Int} {A5 : Option Addr} {c5 : Nat} {l5 : List Int} {p P : Nat}
theorem FAt.only (h : FAt w W g B n A c l A5 c5 l5 p P) (ho : Only g W W') {p' P' : Nat} (hr : Rd W' g p') (hp : p' ≤ P') : FAt w W' g B n A c l A5 c5 l5 p' P' :=
  ⟨⟨own_only h.rowA.row h.gw ho, h.rowA.lt⟩, own_only h.rowB (by have := h.gw; have := h.wB; omega) ho, h.len, blk_only h.res ho (by have := h.gw; omega), hr, hp, h.on.trans ho, h.gw, h.wB⟩
theorem FAt.set {gb : Nat} (h : FAt w W g B n A c l (some ⟨gb, 0, none⟩) c5 l5 p P) (hb : B ≤ gb) (i : Nat) (z : Int) : FAt w (W.setCell ⟨gb, i, none⟩ (.int .i64 z)) g B n A c l (some ⟨gb, 0, none⟩) c5 (l5.set i z) p P := by
  have gw := h.gw
  have wB := h.wB
  refine ⟨h.rowA.chg (chg_set W (Nat.le_refl gb) (Nat.lt_succ_self gb) i _) (.inl hb), ?_, by rw [List.length_set]; exact h.len, ?_, rd_set h.rd (by omega) _ _, h.le, only_set h.on (by omega) _ _, gw, wB⟩
  · have OS := (Own.of_row h.rowB).set i (.int .i64 z)
    rw [ints_set] at OS
    exact OS.row
  · exact (Below.heap_setCell _ _ _ _ (by simp; omega)).trans h.res
end
/-- What the making of a fork starts from: two rows of leaves, a reader, the block of the result. -/
structure FIn (w wr : World) (g n : Nat) (A : Option Addr) (c : Nat) (l : List Int) (n5 : Nat) (A5 : Option Addr) (c5 : Nat) (l5 : List Int) (p P : Nat) : Prop where
  cA : Cells wr A (ints l)
  cB : Cells wr A5 (ints l5)
  len : l5.length = n5
  n28 : n5 ≤ 28
  cap : n5 ≤ c5
  cap2 : c5 ≤ maxLen
  res : Blk wr w.heap.size 32 zero7
  rd : Rd wr g p
  le : p ≤ P
  on : Only g w wr
theorem FAt.fin {w W : World} {g B n : Nat} {A : Option Addr} {c : Nat} {l : List Int} {A5 : Option Addr} {c5 : Nat} {l5 : List Int} {p P : Nat} (h : FAt w W g B n A c l A5 c5 l5 p P) (hn : n ≤ 28) : FIn w W g n A c l n A5 c5 l5 p P :=
  ⟨h.rowA.cells, own_cells h.rowB, h.len, hn, own_cap h.rowB, own_capM h.rowB, h.res, h.rd, h.le, h.on⟩
theorem FAt.drawn {w W W' : World} {g B n : Nat} {A : Option Addr} {c : Nat} {l : List Int} {A5 : Option Addr} {c5 : Nat} {l5 : List Int} {p P : Nat} (h : FAt w W g B n A c l A5 c5 l5 p P) {n6 c6 lo hi p' P' : Nat} {A6 : Option Addr} {l6 : List Int} (hn : n6 ≤ 28) (hl : Hid (l6.length = n6)) (ho : Own W' lo hi 3 1 A6 c6 n6 (ints l6)) (hr : Rd W' g p') (hp : p' ≤ P') (hon : Only g W W') : FIn w W' g n A c l n6 A6 c6 l6 p' P' := by
  have h2 := h.only hon hr hp
  exact ⟨h2.rowA.cells, ho.cells, hl.out, hn, own_cap ho.row, own_capM ho.row, h2.res, hr, hp, h2.on⟩

/-- The fork that is being made, in the first new block behind w. -/
structure XAt (w W : World) (x : ForkT) : Prop where
  below : Below w.heap.size w W
  blk : Blk W w.heap.size 32 (fcells x)
section
variable {w W W' : World} {x : ForkT}
theorem XAt.next (h : XAt w W x) (hb : Below W.heap.size W W') : XAt w W' x := ⟨below_step h.below hb, h.blk.below hb h.blk.lt⟩
theorem below_three {w W : World} (h : Below w.heap.size w W) (i j k : Nat) (a b c : Value) : Below w.heap.size w (((W.setCell ⟨w.heap.size, i, none⟩ a).setCell ⟨w.heap.size, j, none⟩ b).setCell ⟨w.heap.size, k, none⟩ c) :=
  below_chg (below_chg (below_chg h (chg_set _ (Nat.le_refl _) (Nat.lt_succ_self _) i a) (Nat.le_refl _)) (chg_set _ (Nat.le_refl _) (Nat.lt_succ_self _) j b) (Nat.le_refl _)) (chg_set _ (Nat.le_refl _) (Nat.lt_succ_self _) k c) (Nat.le_refl _)
theorem XAt.setA {pub : Int} {h1 h2 : HeadT} (h : XAt w W ⟨pub, h1, h2⟩) (a b c : Int) : XAt w (((W.setCell ⟨w.heap.size, 1, none⟩ (.int .i64 a)).setCell ⟨w.heap.size, 2, none⟩ (.int .i64 b)).setCell ⟨w.heap.size, 3, none⟩ (.int .i64 c)) ⟨pub, ⟨a, b, c⟩, h2⟩ :=
  ⟨below_three h.below _ _ _ _ _ _, by have k := ((h.blk.set 1 (.int .i64 a)).set 2 (.int .i64 b)).set 3 (.int .i64 c); exact k⟩
theorem XAt.setB {pub : Int} {h1 h2 : HeadT} (h : XAt w W ⟨pub, h1, h2⟩) (a b c : Int) : XAt w (((W.setCell ⟨w.heap.size, 4, none⟩ (.int .i64 a)).setCell ⟨w.heap.size, 5, none⟩ (.int .i64 b)).setCell ⟨w.heap.size, 6, none⟩ (.int .i64 c)) ⟨pub, h1, ⟨a, b, c⟩⟩ :=
  ⟨below_three h.below _ _ _ _ _ _, by have k := ((h.blk.set 4 (.int .i64 a)).set 5 (.int .i64 b)).set 6 (.int .i64 c); exact k⟩
end
/-- The fork made, the reader, the block of the result. -/
structure FX (w W : World) (g X : Nat) (x : ForkT) (p P : Nat) : Prop where
  blk : Blk W X 32 (fcells x)
  res : Blk W w.heap.size 32 zero7
  rd : Rd W g p
  le : p ≤ P
  on : Only g w W
  gw : g < w.heap.size
  wX : w.heap.size < X
theorem FX.of {w wc W : World} {g n : Nat} {A : Option Addr} {c : Nat} {l : List Int} {n5 : Nat} {A5 : Option Addr} {c5 : Nat} {l5 : List Int} {p P : Nat} {x : ForkT} (h : FIn w wc g n A c l n5 A5 c5 l5 p P) (k : XAt wc W x) (hg : g < w.heap.size) : FX w W g wc.heap.size x p P :=
  ⟨k.blk, h.res.below k.below h.res.lt, rd_grown h.rd k.below h.rd.lt, h.le, only_step h.on k.below h.on.size, hg, h.res.lt⟩
section
variable {w W W' : World} {g X : Nat} {x : ForkT} {p P : Nat}
theorem FX.only (h : FX w W g X x p P) (ho : Only g W W') {p' P' : Nat} (hr : Rd W' g p') (hp : p' ≤ P') : FX w W' g X x p' P' :=
  ⟨blk_only h.blk ho (by have := h.gw; have := h.wX; omega), blk_only h.res ho (by have := h.gw; omega), hr, hp, h.on.trans ho, h.gw, h.wX⟩
theorem FX.set (h : FX w W g X x p P) (i : Nat) (v : Value) {y : ForkT} (hy : (fcells x).set i v = fcells y) : FX w (W.setCell ⟨X, i, none⟩ v) g X y p P := by
  have gw := h.gw
  have wX := h.wX
  refine ⟨by rw [← hy]; exact h.blk.set i v, (Below.heap_setCell _ _ _ _ (by simp; omega)).trans h.res, rd_set h.rd (by omega) _ _, h.le, only_set h.on (by omega) _ _, gw, wX⟩
def World.seven (W : World) (b : Nat) (x : ForkT) : World :=
  ((((((W.setCell ⟨b, 0, none⟩ (.int .i64 x.pub)).setCell ⟨b, 1, none⟩ (.int .i64 x.a.len)).setCell ⟨b, 2, none⟩ (.int .i64 x.a.dig)).setCell ⟨b, 3, none⟩ (.int .i64 x.a.sign)).setCell ⟨b, 4, none⟩ (.int .i64 x.b.len)).setCell ⟨b, 5, none⟩ (.int .i64 x.b.dig)).setCell ⟨b, 6, none⟩ (.int .i64 x.b.sign)
theorem FX.done (h : FX w W g X x p P) : Blk (World.seven W w.heap.size x) w.heap.size 32 (fcells x) ∧ Rd (World.seven W w.heap.size x) g p ∧ Only g w (World.seven W w.heap.size x) := by
  have gw := h.gw
  have k := ((((((h.res.set 0 (.int .i64 x.pub)).set 1 (.int .i64 x.a.len)).set 2 (.int .i64 x.a.dig)).set 3 (.int .i64 x.a.sign)).set 4 (.int .i64 x.b.len)).set 5 (.int .i64 x.b.dig)).set 6 (.int .i64 x.b.sign)
  unfold World.seven
  refine ⟨k, ?_, ?_⟩
  · exact rd_set (rd_set (rd_set (rd_set (rd_set (rd_set (rd_set h.rd gw _ _) gw _ _) gw _ _) gw _ _) gw _ _) gw _ _) gw _ _
  · have q := Nat.le_refl w.heap.size
    exact only_set (only_set (only_set (only_set (only_set (only_set (only_set h.on q _ _) q _ _) q _ _) q _ _) q _ _) q _ _) q _ _
end

set_option maxRecDepth 100000 in
set_option maxHeartbeats 4000000 in
theorem l91Fork_any (g p : Nat) (w : World) (hr : Rd w g p) (hp : p ≤ 800000000) :
    Calls Try.prog 14 #[.pointer (some ⟨g, 0, none⟩)] w (DrawnF w g p) := by
  have hgl := hr.lt
  have b0 : Below w.heap.size w (w.alloc (.cells #[.int .i64 0, .int .i64 0, .int .i64 0, .int .i64 0, .int .i64 0, .int .i64 0, .int .i64 0] 32)) := (Below.refl _ _).alloc (Nat.le_refl _) _
  have r0 := hr.below b0
  have q0 := hid (Blk.new w 32 zero7)
  have on0 : Only g w (w.alloc (.cells #[.int .i64 0, .int .i64 0, .int .i64 0, .int .i64 0, .int .i64 0, .int .i64 0, .int .i64 0] 32)) := only_grown b0 (Nat.le_refl _)
  unfold zero7 at q0
  go_enter Try.func14, Try.ntmps14
  go_wp2_with fail
  refine (l91Good_any _ _ _ r0 (by omega)).mono ?_
  rintro e w1 ⟨s, p1, rfl, s0, s1, r1, hp1, o1⟩
  have on1 := on0.trans o1
  have q1 := hid (blk_only q0.out o1 (by omega))
  clear r0 on0 o1 q0 b0 hr
  go_wp2_with fail
  refine (l91Leaves_any _ _ _ r1 (by omega)).mono ?_
  rintro e w3 ⟨A4, c4, n4, l4, p3, rfl, hn4, hl4, o4, r3, hp3, o3⟩
  have on3 := on1.trans o3
  have q3 := hid (blk_only q1.out o3 (by omega))
  have hs3 := on3.size
  have hz1 := o3.size
  have hz0 := on1.size
  have hw1 : w.heap.size < w1.heap.size := q1.out.lt
  clear r1 on1 o3 q1
  have B3 : Below w3.heap.size w3 (w3.alloc (.cells #[] 3)) := (Below.refl _ _).alloc (Nat.le_refl _) _
  have O4 := hid o4
  have HA0 : Hid (∀ A5 c5 w5, w5.ownsRow w3.heap.size 3 1 (.slice A5 n4 c5) n4 (ints l4) → Below w3.heap.size (w3.alloc (.cells #[] 3)) w5 → FAt w w5 g w3.heap.size n4 A4 c4 l4 A5 c5 l4 p3 (p + 103)) := by
    intro A5 c5 w5 ho5 hb5
    have hb := B3.trans hb5
    have h1 := q3.out
    exact ⟨(o4.below hb).weak hz0 (Nat.le_refl _), ho5, hl4.out, h1.below hb h1.lt, r3.below hb, by omega, only_step on3 hb hs3, hgl, h1.lt⟩
  have hn4c : n4 ≤ c4 := own_cap o4.row
  have hc4m : c4 ≤ maxLen := own_capM o4.row
  clear o4 q3 on3 r3 hz0
  go_upto_region 4 with (at_builtin; refine wpList_app rfl (.tmp 11) (.tmp 12) 25 rfl w3.heap.size Try.underlying25 info_int rfl (by omega) (by omega) _ 0 0 [] rfl (own_empty w3 3 1 (Nat.le_refl _)) A4 n4 c4 (ints l4) rfl (by rw [ints_length, hl4.out, Nat.mul_one]) (O4.out.cells.below B3) (ints_oneCell _ _) n4 (ints l4) (Nat.zero_add _) rfl (by omega) (by simp) ?_; intro A5 c5 w5 ho5 hb5)
  have F5 := HA0.out A5 c5 w5 ho5 hb5
  clear ho5 hb5 HA0 B3 O4
  go_cut [21] from 14 to 21 (fun v wx => ∃ (b : Bool) (p5 : Nat), v = .bool b ∧ (b = true → 0 < n4) ∧ FAt w wx g w3.heap.size n4 A4 c4 l4 A5 c5 l4 p5 (p + 104))
  case first =>
    by_cases h0 : 0 < n4
    · go_wp2_with fail
      refine (pick_any _ _ _ _ F5.rd (by have := F5.le; omega) (by omega)).mono ?_
      rintro e w6 ⟨m, rfl, -, -, -, r6, o6, -⟩
      have F6 := F5.only o6 r6 (show p3 + 1 ≤ p + 104 by have := F5.le; omega)
      go_wp2_with fail
      go_meet
      exact ⟨_, _, rfl, fun _ => h0, F6⟩
    · go_wp2_with fail
      go_meet
      exact ⟨false, _, rfl, by simp, { F5 with le := by have := F5.le; omega }⟩
  case rest =>
    clear F5
    obtain ⟨b, p5, rfl, hb, F6⟩ := hcut
    have G6 := hid F6
    clear F6
    go_upto_if 21 with (fail)
    go_cut [5] from 22 to 35 (fun v wx => ∃ (p6 : Nat) (l5 : List Int), v = .slice A5 n4 c5 ∧ FAt w wx g w3.heap.size n4 A4 c4 l4 A5 c5 l5 p6 (p + 106))
    case first =>
      cases b
      · go_wp2_with fail
        go_meet
        exact ⟨_, _, rfl, { G6.out with le := by have := G6.out.le; omega }⟩
      · have h0 := hb rfl
        clear hb
        go_wp2_with fail
        refine (pick_any _ _ _ _ G6.out.rd (by have := G6.out.le; omega) (by omega)).mono ?_
        rintro e w7 ⟨m, rfl, a0, a1, -, r7, o7, -⟩
        have a1 := a1 (by omega)
        have F7 := G6.out.only o7 r7 (show p5 + 1 ≤ p + 105 by have := G6.out.le; omega)
        clear r7 o7
        go_wp2_with fail
        refine (pick_any _ _ _ _ F7.rd (by have := F7.le; omega) (by omega)).mono ?_
        rintro e w8 ⟨y, rfl, y0, y1, -, r8, o8, -⟩
        have y1 := y1 (by omega)
        have F8 := F7.only o8 r8 (show p5 + 1 + 1 ≤ p + 106 by have := F7.le; omega)
        clear r8 o8 F7
        obtain ⟨X, rfl⟩ := Int.eq_ofNat_of_zero_le a0
        obtain ⟨g9, hA9, hlo9, hhi9, h9, hf9⟩ := (Own.of_row F8.rowB).int_of (k := X) (z := l4[X]'(by rw [hl4.out]; omega)) (List.getElem?_eq_getElem _)
        subst hA9
        have G8 := hid F8
        have hXk : X < n4 := by omega
        clear F8
        go_wp2
        go_meet
        exact ⟨_, _, rfl, G8.out.set hlo9 X _⟩
    case rest =>
      clear G6 hb
      obtain ⟨p6, l5, rfl, F6⟩ := hcut
      have G6 := hid F6
      clear F6
      go_upto_if 33 with (fail)
      refine (pick_any _ _ _ _ G6.out.rd (by have := G6.out.le; omega) (by omega)).mono ?_
      rintro e w7 ⟨m, rfl, a0, a1, -, r7, o7, -⟩
      have G7 := hid (G6.out.only o7 r7 (show p6 + 1 ≤ p + 107 by have := G6.out.le; omega))
      clear r7 o7 G6
      go_upto_if 33 with (fail)
      go_cut [5] from 33 to 35 (fun v wx => ∃ (p8 n6 c6 : Nat) (A6 : Option Addr) (l6 : List Int), v = .slice A6 n6 c6 ∧ FIn w wx g n4 A4 c4 l4 n6 A6 c6 l6 p8 (p + 207))
      case first =>
        by_cases h0 : m = 0
        · have hb0 : (m == 0) = true := by rw [h0]; rfl
          clear h0
          go_wp2_with fail
          refine (l91Leaves_any _ _ _ G7.out.rd (by have := G7.out.le; omega)).mono ?_
          rintro e w8 ⟨A6, c6, n6, l6, p8, rfl, hn6, hl6, o6, r8, hp8, o8⟩
          have F8 := hid (G7.out.drawn hn6 hl6 o6 r8 (show p8 ≤ p + 207 by have := G7.out.le; omega) o8)
          go_wp2_with fail
          go_meet
          exact ⟨_, _, _, _, _, rfl, F8.out⟩
        · have hb0 : (m == 0) = false := by rw [beq_eq_false_iff_ne]; exact h0
          clear h0
          go_wp2_with fail
          go_meet
          exact ⟨_, _, _, _, _, rfl, (({ G7.out with le := by have := G7.out.le; omega } : FAt w w7 g w3.heap.size n4 A4 c4 l4 A5 c5 l5 (p6 + 1) (p + 207))).fin hn4⟩
      case rest =>
        clear G7
        obtain ⟨p8, n6, c6, A6, l6, rfl, F8⟩ := hcut
        have G8 := hid F8
        have n28 := F8.n28
        have hc6 := F8.cap
        have hc6m := F8.cap2
        have hl6 := hid F8.len
        clear F8
        go_wp2_with fail
        have cA := G8.out.cA
        have cB := G8.out.cB
        refine (headPublic_any s _ s0 s1).mono ?_
        rintro e w9 ⟨⟨pub, rfl⟩, rfl⟩
        have k9 := hid (XAt.mk (x := ⟨pub, ⟨0, 0, 0⟩, ⟨0, 0, 0⟩⟩) ((Below.refl wc.heap.size wc).alloc (Nat.le_refl _) _) (Blk.new wc 32 (fcells ⟨pub, ⟨0, 0, 0⟩, ⟨0, 0, 0⟩⟩)))
        go_wp2_with fail
        refine (headMake_any s A4 c4 n4 l4 _ s0 s1 hl4 (cA.below k9.out.below) (by omega) hn4c hc4m).mono ?_
        rintro e wa ⟨⟨a1, a2, a3⟩, ba, rfl, hba⟩
        have ka := hid (k9.out.next hba)
        obtain ⟨d0, d1, d2, d3, d4, d5, d6⟩ := ka.out.blk.seven
        have f1 := ka.out.blk.free 1
        have f2 := ka.out.blk.free 2
        have f3 := ka.out.blk.free 3
        have kb := hid (ka.out.setA a1 a2 a3)
        clear k9 hba ka
        go_wp2_with fail
        clear d0 d1 d2 d3 d4 d5 d6 f1 f2 f3
        generalize ((wa.setCell ⟨wc.heap.size, 1, none⟩ (.int .i64 a1)).setCell ⟨wc.heap.size, 2, none⟩ (.int .i64 a2)).setCell ⟨wc.heap.size, 3, none⟩ (.int .i64 a3) = wb at kb ⊢
        refine (headMake_any s A6 c6 n6 l6 _ s0 s1 hl6 (cB.below kb.out.below) (by omega) hc6 hc6m).mono ?_
        rintro e wd ⟨⟨b1, b2, b3⟩, bb, rfl, hbb⟩
        have kd := hid (kb.out.next hbb)
        obtain ⟨d0, d1, d2, d3, d4, d5, d6⟩ := kd.out.blk.seven
        have f4 := kd.out.blk.free 4
        have f5 := kd.out.blk.free 5
        have f6 := kd.out.blk.free 6
        have ke := hid (kd.out.setB b1 b2 b3)
        clear kb hbb kd
        go_wp2_with fail
        clear d0 d1 d2 d3 d4 d5 d6 f4 f5 f6
        have hX := G8.out.res.lt
        have xe := FX.of G8.out ke.out hgl
        clear ke G8 cA cB hl6 hl4
        generalize ((wd.setCell ⟨wc.heap.size, 4, none⟩ (.int .i64 b1)).setCell ⟨wc.heap.size, 5, none⟩ (.int .i64 b2)).setCell ⟨wc.heap.size, 6, none⟩ (.int .i64 b3) = we at xe ⊢
        generalize wc.heap.size = X at *
        refine (pick_any _ _ _ _ xe.rd (by have := xe.le; omega) (by omega)).mono ?_
        rintro e wf ⟨m, rfl, -, -, -, rf, of, -⟩
        have xf := hid (xe.only of rf (show p8 + 1 ≤ p + 208 by have := xe.le; omega))
        clear xe rf of
        by_cases h0 : m = 0
        · have hb0 : (m == 0) = true := by rw [h0]; rfl
          subst h0
          go_wp2_with fail
          refine (l91Secret_any _ _ _ xf.out.rd (by have := xf.out.le; omega)).mono ?_
          rintro e wh ⟨z, p9, rfl, -, -, rh, hp9, oh⟩
          have xh := xf.out.only oh rh (show p9 ≤ p + 211 by have := xf.out.le; omega)
          have xi := hid (xh.set (y := ⟨z, ⟨a1, a2, a3⟩, ⟨b1, b2, b3⟩⟩) 0 (.int .i64 z) rfl)
          obtain ⟨d0, d1, d2, d3, d4, d5, d6⟩ := xh.blk.seven
          have f0 := xh.blk.free 0
          obtain ⟨r0, r1, r2, r3, r4, r5, r6⟩ := xh.res.seven
          have g0 := xh.res.free 0
          have g1 := xh.res.free 1
          have g2 := xh.res.free 2
          have g3 := xh.res.free 3
          have g4 := xh.res.free 4
          have g5 := xh.res.free 5
          have g6 := xh.res.free 6
          clear xh xf rh oh
          go_wp2
          obtain ⟨kD, rD, oD⟩ := xi.out.done
          unfold World.seven at kD rD oD
          obtain ⟨y0, y1, y2, y3, y4, y5, y6⟩ := Blk.seven kD
          refine bodyPost_ret (v := fv ⟨z, ⟨a1, a2, a3⟩, ⟨b1, b2, b3⟩⟩) (by simp [results, Try.results14, go_sem, y0, y1, y2, y3, y4, y5, y6]) rfl ?_
          exact ⟨_, _, rfl, rD, by have := xi.out.le; omega, oD⟩
        · have hb0 : (m == 0) = false := by rw [beq_eq_false_iff_ne]; exact h0
          by_cases h1 : m = 1
          · have hb1 : (m == 1) = true := by rw [h1]; rfl
            subst h1
            go_wp2_with fail
            refine (l91Secret_any _ _ _ xf.out.rd (by have := xf.out.le; omega)).mono ?_
            rintro e wh ⟨z, p9, rfl, -, -, rh, hp9, oh⟩
            have xh := xf.out.only oh rh (show p9 ≤ p + 211 by have := xf.out.le; omega)
            have xi := hid (xh.set (y := ⟨pub, ⟨a1, a2, a3⟩, ⟨b1, b2, z⟩⟩) 6 (.int .i64 z) rfl)
            obtain ⟨d0, d1, d2, d3, d4, d5, d6⟩ := xh.blk.seven
            have f6 := xh.blk.free 6
            obtain ⟨r0, r1, r2, r3, r4, r5, r6⟩ := xh.res.seven
            have g0 := xh.res.free 0
            have g1 := xh.res.free 1
            have g2 := xh.res.free 2
            have g3 := xh.res.free 3
            have g4 := xh.res.free 4
            have g5 := xh.res.free 5
            have g6 := xh.res.free 6
            clear xh xf rh oh
            go_wp2
            obtain ⟨kD, rD, oD⟩ := xi.out.done
            unfold World.seven at kD rD oD
            obtain ⟨y0, y1, y2, y3, y4, y5, y6⟩ := Blk.seven kD
            refine bodyPost_ret (v := fv ⟨pub, ⟨a1, a2, a3⟩, ⟨b1, b2, z⟩⟩) (by simp [results, Try.results14, go_sem, y0, y1, y2, y3, y4, y5, y6]) rfl ?_
            exact ⟨_, _, rfl, rD, by have := xi.out.le; omega, oD⟩
          · have hb1 : (m == 1) = false := by rw [beq_eq_false_iff_ne]; exact h1
            clear h0 h1
            obtain ⟨d0, d1, d2, d3, d4, d5, d6⟩ := xf.out.blk.seven
            have xi := xf
            have xh := xf.out
            obtain ⟨r0, r1, r2, r3, r4, r5, r6⟩ := xh.res.seven
            have g0 := xh.res.free 0
            have g1 := xh.res.free 1
            have g2 := xh.res.free 2
            have g3 := xh.res.free 3
            have g4 := xh.res.free 4
            have g5 := xh.res.free 5
            have g6 := xh.res.free 6
            clear xh xf
            go_wp2
            obtain ⟨kD, rD, oD⟩ := xi.out.done
            unfold World.seven at kD rD oD
            obtain ⟨y0, y1, y2, y3, y4, y5, y6⟩ := Blk.seven kD
            refine bodyPost_ret (v := fv ⟨pub, ⟨a1, a2, a3⟩, ⟨b1, b2, b3⟩⟩) (by simp [results, Try.results14, go_sem, y0, y1, y2, y3, y4, y5, y6]) rfl ?_
            exact ⟨_, _, rfl, rD, by have := xi.out.le; omega, oD⟩

end Go.Proofs.Ytpnahccmdebifaa
