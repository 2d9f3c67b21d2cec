/- The draws of chapter 13: journals. -/
import Derived.Test.YtihjjnmhionibaaDrawJ
import Derived.Test.YtihjjnmhionibaaJ4
import Derived.Test.YtihjjnmhionibaaApp3
import Derived.Deep.RegionWith
import Derived.Deep.RegionLaw
namespace Go.Proofs.Ytihjjnmhionibaa
open Go.RowKit

def SmallT (l : List RecT) : Prop := ∀ a ∈ l, a.2.size ≤ 10
theorem addG_small {l : List RecT} {s : Int} {a : RecT} (h : SmallT l) (ha : a.2.size ≤ 10) : SmallT (addG l s a).1 ∧ (addG l s a).1.length ≤ l.length + 1 := by
  unfold addG
  split
  · split
    · exact ⟨h, by simp⟩
    · refine ⟨fun b hb => ?_, by simp⟩
      rcases List.mem_append.1 hb with h1 | h1
      · exact h b h1
      · simp at h1; subst h1; exact ha
  · exact ⟨fun b hb => by simp at hb, by simp⟩
theorem syncG_small {l : List RecT} {s : Int} (h : SmallT l) : SmallT (syncG l s).1 ∧ (syncG l s).1.length ≤ l.length := by
  unfold syncG
  split
  · exact ⟨h, Nat.le_refl _⟩
  · exact ⟨fun b hb => by simp at hb, by simp⟩
theorem SmallT.small {l : List RecT} (h : SmallT l) {m : Nat} (hl : l.length = m) (hm : m ≤ 1000) : SmallR l := ⟨by omega, fun a ha => by have := h a ha; omega⟩

def AddD (w : World) (m : Nat) (e : Ending) (w' : World) : Prop :=
  ∃ (A : Option Addr) (c n : Nat) (s : Int) (ok : Bool) (L : List RecT), e = .returned (.tuple #[jv A n c s, .bool ok]) ∧ n ≤ m + 1 ∧ Hid (L.length = n) ∧ Hid (SmallT L) ∧ Own w' w.heap.size w'.heap.size 35 2 A c n (recs L) ∧ Below w.heap.size w w'
theorem specAdd_d {l : List RecT} {m : Nat} (hm : Hid (l.length = m)) (hs : Hid (SmallT l)) (A : Option Addr) (c : Nat) (s i : Int) (t : ByteArray) (w : World) (hr : Cells w A (recs l)) (h : m ≤ 100) (ht : t.size ≤ 10) :
    Calls Try.prog 25 #[jv A m c s, rv i t] w (AddD w m) := by
  have h1 := hm.out; subst h1
  have hsm := addG_small (s := s) (a := (i, t)) hs.out ht
  refine (specAdd_any A c l s i t w hr (hs.out.small rfl (by omega)) (by omega)).mono ?_
  rintro e w' ⟨A', c', rfl, o, b⟩
  exact ⟨A', c', _, _, _, _, rfl, hsm.2, rfl, hsm.1, o, b⟩
def SyncD (w : World) (m : Nat) (e : Ending) (w' : World) : Prop :=
  ∃ (A : Option Addr) (c n : Nat) (s : Int) (L : List RecT), e = .returned (jv A n c s) ∧ n ≤ m ∧ Hid (L.length = n) ∧ Hid (SmallT L) ∧ Own w' w.heap.size w'.heap.size 35 2 A c n (recs L) ∧ Below w.heap.size w w'
theorem specSync_d {l : List RecT} {m : Nat} (hm : Hid (l.length = m)) (hs : Hid (SmallT l)) (A : Option Addr) (c : Nat) (s : Int) (w : World) (hr : Cells w A (recs l)) (h : m ≤ 100) :
    Calls Try.prog 29 #[jv A m c s] w (SyncD w m) := by
  have h1 := hm.out; subst h1
  have hsm := syncG_small (s := s) hs.out
  refine (specSync_any A c l s w hr (hs.out.small rfl (by omega))).mono ?_
  rintro e w' ⟨A', c', rfl, o, b⟩
  exact ⟨A', c', _, _, _, rfl, hsm.2, rfl, hsm.1, o, b⟩

/-- The journal that is being drawn: its block J, its records, the reader. -/
structure JAt (w wr : World) (g J n P : Nat) (A : Option Addr) (c : Nat) (s : Int) (l : List RecT) (p : Nat) : Prop where
  blk : Blk wr J 29 (JB A n c s)
  row : wr.ownsRow (w.heap.size + 1) 35 2 (.slice A n c) n (recs l)
  ne : ∀ ad, A = some ad → ad.block ≠ J
  len : l.length = n
  small : SmallT l
  rd : Rd wr g p
  le : p ≤ P
  on : Only g w wr
  res : Blk wr w.heap.size 29 (JB none 0 0 0)
  gw : g < w.heap.size
  gJ : w.heap.size < J
section
variable {w W W' : World} {g J n P : Nat} {A : Option Addr} {c : Nat} {s : Int} {l : List RecT} {p : Nat}
theorem JAt.below (h : JAt w W g J n P A c s l p) (hb : Below W.heap.size W W') : JAt w W' g J n P A c s l p :=
  ⟨h.blk.below hb h.blk.lt, own_below h.row hb, h.ne, h.len, h.small, h.rd.below hb, h.le, only_step h.on hb h.on.size, h.res.below hb h.res.lt, h.gw, h.gJ⟩
theorem JAt.only (h : JAt w W g J n P A c s l p) (ho : Only g W W') {p' P' : Nat} (hr : Rd W' g p') (hp : p' ≤ P') : JAt w W' g J n P' A c s l p' :=
  ⟨blk_only h.blk ho (by have := h.gw; have := h.gJ; omega), own_only h.row (by have := h.gw; omega) ho, h.ne, h.len, h.small, hr, hp, h.on.trans ho, blk_only h.res ho (by have := h.gw; omega), h.gw, h.gJ⟩
theorem JAt.set (h : JAt w W g J n P A c s l p) {A6 : Option Addr} {c6 n6 : Nat} {s6 : Int} {L : List RecT} (hrow : W.ownsRow (w.heap.size + 1) 35 2 (.slice A6 n6 c6) n6 (recs L)) (hne : ∀ ad, A6 = some ad → ad.block ≠ J) (hlen : L.length = n6) (hs : SmallT L) :
    JAt w ((W.setCell ⟨J, 0, none⟩ (.slice A6 n6 c6)).setCell ⟨J, 1, none⟩ (.int .i64 s6)) g J n6 P A6 c6 s6 L p := by
  have gJ := h.gJ
  have gw := h.gw
  have hk := (h.blk.set 0 (.slice A6 n6 c6)).set 1 (.int .i64 s6)
  refine ⟨by simpa using hk, row_set (row_set hrow hne _ _) hne _ _, hne, hlen, hs, rd_set (rd_set h.rd (by omega) _ _) (by omega) _ _, h.le, only_set (only_set h.on (by omega) _ _) (by omega) _ _, ?_, gw, gJ⟩
  exact (Below.heap_setCell _ _ _ _ (by simp; omega)).trans ((Below.heap_setCell _ _ _ _ (by simp; omega)).trans h.res)
theorem JAt.far (h : JAt w W g J n P A c s l p) {X : Nat} (hX : J < X) (hA : ∀ ad, A = some ad → ad.block ≠ X) (u v : Value) :
    JAt w ((W.setCell ⟨X, 0, none⟩ u).setCell ⟨X, 1, none⟩ v) g J n P A c s l p := by
  have gJ := h.gJ
  have gw := h.gw
  refine ⟨?_, row_set (row_set h.row hA _ _) hA _ _, h.ne, h.len, h.small, rd_set (rd_set h.rd (by omega) _ _) (by omega) _ _, h.le, only_set (only_set h.on (by omega) _ _) (by omega) _ _, ?_, gw, gJ⟩
  · exact (Below.heap_setCell _ _ _ _ (by simp; omega)).trans ((Below.heap_setCell _ _ _ _ (by simp; omega)).trans h.blk)
  · exact (Below.heap_setCell _ _ _ _ (by simp; omega)).trans ((Below.heap_setCell _ _ _ _ (by simp; omega)).trans h.res)
theorem JAt.rowLt (h : JAt w W g J n P A c s l p) : ∀ ad, A = some ad → ad.block < W.heap.size := fun ad hA => by subst hA; exact (h.row.lt ad.block rfl).2
end

/-- The journal J stands, and in block X lies what JournalAdd gave. -/
structure JAdd (w W : World) (g J n P : Nat) (A : Option Addr) (c : Nat) (s : Int) (l : List RecT) (p X n6 : Nat) (A6 : Option Addr) (c6 : Nat) (s6 : Int) (L : List RecT) : Prop where
  at_ : JAt w W g J n P A c s l p
  blk : Blk W X 29 (JB A6 n6 c6 s6)
  row : W.ownsRow (w.heap.size + 1) 35 2 (.slice A6 n6 c6) n6 (recs L)
  ne : ∀ ad, A6 = some ad → ad.block ≠ J
  len : L.length = n6
  small : SmallT L
theorem jAdd_of {w W : World} {g J n P : Nat} {A : Option Addr} {c : Nat} {s : Int} {l : List RecT} {p X n6 : Nat} {A6 : Option Addr} {c6 : Nat} {s6 : Int} {L : List RecT} (h : JAt w W g J n P A c s l p) (hX : J < X) (hA : ∀ ad, A = some ad → ad.block ≠ X)
    (hk : Blk W X 29 (JB none 0 0 0)) {lo hi : Nat} (ho : Own W lo hi 35 2 A6 c6 n6 (recs L)) (hlo : w.heap.size + 1 ≤ lo) (hne : ∀ ad, A6 = some ad → ad.block ≠ J ∧ ad.block ≠ X) (hlen : L.length = n6) (hs : SmallT L) :
    JAdd w ((W.setCell ⟨X, 0, none⟩ (.slice A6 n6 c6)).setCell ⟨X, 1, none⟩ (.int .i64 s6)) g J n P A c s l p X n6 A6 c6 s6 L := by
  have hk2 := (hk.set 0 (.slice A6 n6 c6)).set 1 (.int .i64 s6)
  exact ⟨h.far hX hA _ _, by simpa using hk2, row_set (row_set (own_mono ho.row hlo) (fun ad e => (hne ad e).2) _ _) (fun ad e => (hne ad e).2) _ _, fun ad e => (hne ad e).1, hlen, hs⟩

section
variable {w W5 W6 : World} {g J n P : Nat} {A : Option Addr} {c : Nat} {s : Int} {l : List RecT} {p n6 : Nat} {A6 : Option Addr} {c6 : Nat} {s6 : Int} {L : List RecT}
theorem jAdd3 {X : Nat} (h : JAt w W5 g J n P A c s l p) (hX : J < X) (hA : ∀ ad, A = some ad → ad.block < X) (hX5 : X < W5.heap.size) (hk : Blk W6 X 29 (JB none 0 0 0)) (b6 : Below W5.heap.size W5 W6) (o6 : Own W6 W5.heap.size W6.heap.size 35 2 A6 c6 n6 (recs L)) (hlen : L.length = n6) (hs : SmallT L) :
    JAdd w ((W6.setCell ⟨X, 0, none⟩ (.slice A6 n6 c6)).setCell ⟨X, 1, none⟩ (.int .i64 s6)) g J n P A c s l p X n6 A6 c6 s6 L := by
  have gJ := h.gJ
  refine jAdd_of (h.below b6) hX (fun ad e => by have := hA ad e; omega) hk o6 (by omega) (fun ad e => ?_) hlen hs
  subst e
  have h1 := o6.row.lt ad.block rfl
  exact ⟨by omega, by omega⟩
theorem jAdd2 (h : JAt w W5 g J n P A c s l p) (b6 : Below (W5.alloc (.cells #[.slice none 0 0, .int .i64 0] 29)).heap.size (W5.alloc (.cells #[.slice none 0 0, .int .i64 0] 29)) W6) (o6 : Own W6 (W5.alloc (.cells #[.slice none 0 0, .int .i64 0] 29)).heap.size W6.heap.size 35 2 A6 c6 n6 (recs L)) (hlen : L.length = n6) (hs : SmallT L) :
    JAdd w ((W6.setCell ⟨W5.heap.size, 0, none⟩ (.slice A6 n6 c6)).setCell ⟨W5.heap.size, 1, none⟩ (.int .i64 s6)) g J n P A c s l p W5.heap.size n6 A6 c6 s6 L :=
  jAdd3 (h.below ((Below.refl _ _).alloc (Nat.le_refl _) _)) h.blk.lt h.rowLt (by simp) ((Blk.new W5 29 (JB none 0 0 0)).below b6 (by simp)) b6 o6 hlen hs
theorem jAdd0 (h : JAt w W5 g J n P A c s l p) (b6 : Below W5.heap.size W5 W6) (o6 : Own W6 W5.heap.size W6.heap.size 35 2 A6 c6 n6 (recs L)) (hlen : L.length = n6) (hs : SmallT L) :
    JAdd w (W6.alloc (.cells #[.slice A6 n6 c6, .int .i64 s6] 29)) g J n P A c s l p W6.heap.size n6 A6 c6 s6 L := by
  have h6 := h.below b6
  have gJ := h.gJ
  have s5 := h.blk.lt
  have hb := (Below.refl W6.heap.size W6).alloc (Nat.le_refl _) (.cells #[.slice A6 n6 c6, .int .i64 s6] 29)
  refine ⟨h6.below hb, Blk.new W6 29 (JB A6 n6 c6 s6), own_mono (o6.below hb).row (by omega), (fun ad e => ?_), hlen, hs⟩
  subst e
  have h1 := o6.row.lt ad.block rfl
  omega
theorem JAt.weak (h : JAt w W5 g J n P A c s l p) {P' : Nat} (hP : P ≤ P') : JAt w W5 g J n P' A c s l p := { h with le := Nat.le_trans h.le hP }
theorem jSync (h : JAt w W5 g J n P A c s l p) (b6 : Below W5.heap.size W5 W6) (o6 : Own W6 W5.heap.size W6.heap.size 35 2 A6 c6 n6 (recs L)) (hlen : L.length = n6) (hs : SmallT L) :
    JAt w ((W6.setCell ⟨J, 0, none⟩ (.slice A6 n6 c6)).setCell ⟨J, 1, none⟩ (.int .i64 s6)) g J n6 P A6 c6 s6 L p := by
  have gJ := h.gJ
  have s5 := h.blk.lt
  refine (h.below b6).set (own_mono o6.row (by omega)) (fun ad e => ?_) hlen hs
  subst e
  have h1 := o6.row.lt ad.block rfl
  omega
theorem jApp (h : JAt w W5 g J n P A c s l p) (hg : W5.grownBy W6 (Value.slice A n c).ownBlock) (row : W6.ownsRow (w.heap.size + 1) 35 2 (.slice A6 n6 c6) n6 (recs L)) (hloc : ∀ ad, A6 = some ad → (∃ ad', A = some ad' ∧ ad'.block = ad.block) ∨ ad.block = W5.heap.size) (hlen : L.length = n6) (hs : SmallT L) :
    JAt w (W6.setCell ⟨J, 0, none⟩ (.slice A6 n6 c6)) g J n6 P A6 c6 s L p := by
  have gJ := h.gJ
  have gw := h.gw
  have gs := h.res.lt
  have gj := h.blk.lt
  have hb : Below (w.heap.size + 1) W5 W6 := below_grown hg (by omega) (fun k hk => (h.row.lt k hk).1)
  have hne : ∀ ad, A6 = some ad → ad.block ≠ J := by
    intro ad e
    rcases hloc ad e with ⟨ad', h1, h2⟩ | h1
    · have := h.ne ad' h1; omega
    · omega
  have hkJ : Blk W6 J 29 (JB A n c s) := (hg.block J gj (fun e => by
    rcases A with _ | ad
    · simp [Value.ownBlock] at e
    · simp [Value.ownBlock] at e; exact h.ne ad rfl e.symm)).trans h.blk
  have hk := hkJ.set 0 (.slice A6 n6 c6)
  refine ⟨by simpa using hk, row_set row hne _ _, hne, hlen, hs, rd_set (rd_grown h.rd hb (by omega)) (by omega) _ _, h.le, only_set (only_step h.on hb (by omega)) (by omega) _ _, ?_, gw, gJ⟩
  exact (Below.heap_setCell _ _ _ _ (by simp; omega)).trans (h.res.below hb (by omega))
theorem jGrow5 (h : JAt w W5 g J n P A c s l p) (hg : W5.grownBy W6 (Value.slice A n c).ownBlock) :
    W6.cell? ⟨J, 0, none⟩ = some (.slice A n c) ∧ W6.cell? ⟨J, 1, none⟩ = some (.int .i64 s) ∧ W6.frozen? ⟨J, 0, none⟩ = false ∧ W6.frozen? ⟨J, 1, none⟩ = false := by
  have hkJ : Blk W6 J 29 (JB A n c s) := (hg.block J h.blk.lt (fun e => by
    rcases A with _ | ad
    · simp [Value.ownBlock] at e
    · simp [Value.ownBlock] at e; exact h.ne ad rfl e.symm)).trans h.blk
  exact hkJ.two
theorem smallT_snoc {l : List RecT} {i : Int} {t : ByteArray} (h : SmallT l) (ht : t.size ≤ 10) : SmallT (l ++ [(i, t)]) := by
  intro b hb
  rcases List.mem_append.1 hb with h1 | h1
  · exact h b h1
  · simp at h1; subst h1; exact ht
theorem jSynced (h : JAt w W5 g J n P A c s l p) (s2 : Int) : JAt w (W5.setCell ⟨J, 1, none⟩ (.int .i64 s2)) g J n P A c s2 l p := by
  have gJ := h.gJ
  have gw := h.gw
  have hk := h.blk.set 1 (.int .i64 s2)
  exact ⟨by simpa using hk, row_set h.row h.ne _ _, h.ne, h.len, h.small, rd_set h.rd (by omega) _ _, h.le, only_set h.on (by omega) _ _, (Below.heap_setCell _ _ _ _ (by simp; omega)).trans h.res, gw, gJ⟩
theorem jAdd1 (h : JAt w W5 g J n P A c s l p) (b6 : Below W5.heap.size W5 W6) (o6 : Own W6 W5.heap.size W6.heap.size 35 2 A6 c6 n6 (recs L)) (hlen : L.length = n6) (hs : SmallT L) :
    JAdd w (((W6.alloc (.cells #[.slice none 0 0, .int .i64 0] 29)).setCell ⟨W6.heap.size, 0, none⟩ (.slice A6 n6 c6)).setCell ⟨W6.heap.size, 1, none⟩ (.int .i64 s6)) g J n P A c s l p W6.heap.size n6 A6 c6 s6 L := by
  have h6 := h.below b6
  have gJ := h.gJ
  have s5 := h.blk.lt
  have hb := (Below.refl W6.heap.size W6).alloc (Nat.le_refl _) (.cells #[.slice none 0 0, .int .i64 0] 29)
  refine jAdd_of (h6.below hb) h6.blk.lt (fun ad e => by have := h6.rowLt ad e; omega) (Blk.new W6 29 (JB none 0 0 0)) (o6.below hb) (by omega) (fun ad e => ?_) hlen hs
  subst e
  have h1 := o6.row.lt ad.block rfl
  exact ⟨by omega, by omega⟩
end

def DrawnJ (w : World) (g p : Nat) (e : Ending) (w' : World) : Prop :=
  ∃ (A : Option Addr) (c n : Nat) (s : Int) (l : List RecT) (p' : Nat), e = .returned (jv A n c s) ∧ n ≤ 30 ∧ Hid (l.length = n) ∧ Hid (SmallT l) ∧ Own w' w.heap.size w'.heap.size 35 2 A c n (recs l) ∧ Rd w' g p' ∧ p' ≤ p + 1000 ∧ Only g w w'

theorem jEnd {w W : World} {g J n P : Nat} {A : Option Addr} {c : Nat} {s : Int} {l : List RecT} {p p0 : Nat} (h : JAt w W g J n P A c s l p) (hn : n ≤ 30) (hP : P ≤ p0 + 1000) :
    DrawnJ w g p0 (.returned (jv A n c s)) ((W.setCell ⟨w.heap.size, 0, none⟩ (.slice A n c)).setCell ⟨w.heap.size, 1, none⟩ (.int .i64 s)) := by
  have gw := h.gw
  have hle := h.le
  have hne : ∀ ad, A = some ad → ad.block ≠ w.heap.size := fun ad e => by subst e; have := (h.row.lt ad.block rfl).1; omega
  exact ⟨A, c, n, s, l, p, rfl, hn, h.len, h.small, Own.of_row (own_mono (row_set (row_set h.row hne _ _) hne _ _) (by omega)), rd_set (rd_set h.rd gw _ _) gw _ _, by omega, only_set (only_set h.on (Nat.le_refl _) _ _) (Nat.le_refl _) _ _⟩

set_option maxHeartbeats 2000000 in
theorem l91Journal_any (g p : Nat) (w : World) (hr : Rd w g p) (hp : p ≤ 800000000) :
    Calls Try.prog 56 #[.pointer (some ⟨g, 0, none⟩)] w (DrawnJ w g p) := by
  have hgl := hr.lt
  have bA : Below w.heap.size w (w.alloc (.cells #[.slice none 0 0, .int .i64 0] 29)) := (Below.refl _ _).alloc (Nat.le_refl _) _
  have bB : Below w.heap.size w ((w.alloc (.cells #[.slice none 0 0, .int .i64 0] 29)).alloc (.cells #[] 35)) := bA.alloc (by simp) _
  have bC : Below w.heap.size w (((w.alloc (.cells #[.slice none 0 0, .int .i64 0] 29)).alloc (.cells #[] 35)).alloc (.cells #[.slice (some ⟨w.heap.size + 1, 0, none⟩) 0 0, .int .i64 0] 29)) := bB.alloc (by simp <;> omega) _
  have r0 := hr.below bC
  have k0 : Hid (Blk (((w.alloc (.cells #[.slice none 0 0, .int .i64 0] 29)).alloc (.cells #[] 35)).alloc (.cells #[.slice (some ⟨w.heap.size + 1, 0, none⟩) 0 0, .int .i64 0] 29)) (w.heap.size + 2) 29 (JB (some ⟨w.heap.size + 1, 0, none⟩) 0 0 0)) := by
    have h := Blk.new ((w.alloc (.cells #[.slice none 0 0, .int .i64 0] 29)).alloc (.cells #[] 35)) 29 (JB (some ⟨w.heap.size + 1, 0, none⟩) 0 0 0)
    simpa [Hid] using h
  have own0 : Hid ((((w.alloc (.cells #[.slice none 0 0, .int .i64 0] 29)).alloc (.cells #[] 35)).alloc (.cells #[.slice (some ⟨w.heap.size + 1, 0, none⟩) 0 0, .int .i64 0] 29)).ownsRow (w.heap.size + 1) 35 2 (.slice (some ⟨w.heap.size + 1, 0, none⟩) 0 0) 0 (recs [])) := by
    have h := (own_empty (w.alloc (.cells #[.slice none 0 0, .int .i64 0] 29)) 35 2 (Nat.le_refl _)).alloc (.cells #[.slice (some ⟨w.heap.size + 1, 0, none⟩) 0 0, .int .i64 0] 29)
    simpa [Hid, recs] using h
  have q0 : Hid (Blk (((w.alloc (.cells #[.slice none 0 0, .int .i64 0] 29)).alloc (.cells #[] 35)).alloc (.cells #[.slice (some ⟨w.heap.size + 1, 0, none⟩) 0 0, .int .i64 0] 29)) w.heap.size 29 (JB none 0 0 0)) :=
    ((Blk.new w 29 (JB none 0 0 0)).below ((Below.refl _ _).alloc (Nat.le_refl _) _) (by simp)).below ((Below.refl _ _).alloc (Nat.le_refl _) _) (by simp <;> omega)
  have on0 := only_grown (g := g) bC (Nat.le_refl _)
  go_enter Try.func56, Try.ntmps56
  go_wp2_with fail
  generalize (((w.alloc (.cells #[.slice none 0 0, .int .i64 0] 29)).alloc (.cells #[] 35)).alloc (.cells #[.slice (some ⟨w.heap.size + 1, 0, none⟩) 0 0, .int .i64 0] 29)) = W0 at r0 k0 own0 q0 on0 ⊢
  clear bA bB bC
  refine (pick_any _ _ _ _ r0 (by omega) (by omega)).mono ?_
  rintro e w1 ⟨n, rfl, n0, n1, -, r1, o1, -⟩
  have n1 := n1 (by omega)
  have own1 := hid (own_only own0.out (by omega) o1)
  have k1 := hid (blk_only k0.out o1 (by omega))
  have q1 := hid (blk_only q0.out o1 (by omega))
  have on1 := on0.trans o1
  have hJ1 := JAt.mk (p := p + 1) (P := p + 1) k1.out own1.out (by intro ad h; injection h with h; subst h; simp) rfl (by intro a ha; simp at ha) r1 (by omega) on1 q1.out hgl (by omega)
  obtain ⟨N0, hN0⟩ := Int.eq_ofNat_of_zero_le n0
  subst hN0
  clear r0 k0 own0 q0 on0 own1 k1 q1 on1 r1 o1 hr
  go_upto_if 14 with (fail)
  refine (pick_any _ _ _ _ hJ1.rd (by omega) (by omega)).mono ?_
  rintro e w2 ⟨v, rfl, -, -, -, r2, o2, -⟩
  have hJ0 := hJ1.only o2 r2 (show p + 1 + 1 ≤ p + 2 + 20 * 0 by omega)
  clear hJ1 r2 o2
  go_upto_if 14 with (fail)
  go_cut [4] from 8 (fun n wx => ∃ N : Nat, n = .int .i64 N ∧ N ≤ 24 ∧ w2 = wx)
  case first =>
    by_cases hs : v = 0
    · have hb0 : (v == 0) = true := by rw [hs]; rfl
      clear hs
      go_wp2_with fail
      go_meet
      exact ⟨24, rfl, Nat.le_refl _, rfl⟩
    · have hb0 : (v == 0) = false := by rw [beq_eq_false_iff_ne]; exact hs
      clear hs
      go_wp2_with fail
      go_meet
      exact ⟨N0, rfl, by omega, rfl⟩
  case rest =>
    obtain ⟨N, rfl, hN24, rfl⟩ := hcut
    go_wp2_with fail
    go_loopw [5] (fun i wr => ∃ (k : Nat) (A' : Option Addr) (c' n' : Nat) (l : List RecT) (s : Int) (p' : Nat), k ≤ N ∧ i = .int .i64 k ∧ n' ≤ k ∧ JAt w wr g (w.heap.size + 2) n' (p + 2 + 20 * k) A' c' s l p') (fun i _ => N - (intOf i).toNat)
    case atStart => exact ⟨0, _, _, 0, [], _, _, Nat.zero_le _, rfl, Nat.le_refl _, hJ0⟩
    case round =>
      clear hJ0
      obtain ⟨k, A', c', n', l, s, p', hk, rfl, hn', J⟩ := hrel
      by_cases hlt : k < N
      · have hle := J.le
        have hzr : w.heap.size + 2 < wr.heap.size := J.blk.lt
        have J4 : JAt w wr.drew g (w.heap.size + 2) n' (p + 2 + 20 * k) A' c' s l p' := J.below (Below.refl _ _).drew
        have J4x : JAt w (wr.drew.alloc (.cells #[.slice none 0 0, .int .i64 0] 29)) g (w.heap.size + 2) n' (p + 2 + 20 * k) A' c' s l p' := J4.below ((Below.refl _ _).alloc (Nat.le_refl _) _)
        have X4x : Hid (Blk (wr.drew.alloc (.cells #[.slice none 0 0, .int .i64 0] 29)) wr.heap.size 29 (JB none 0 0 0)) := Blk.new wr.drew 29 (JB none 0 0 0)
        have hA4 := hid J.rowLt
        have hg4 : g < wr.heap.size := J.rd.lt
        have hlen := hid J.len
        have hsm := hid J.small
        obtain ⟨jc0, jc1, -, -⟩ := J.blk.two
        go_wp2_with fail
        go_cut [6, 7] from 20 to 33 (fun x okv wx => ∃ (X n6 c6 p5 : Nat) (A6 : Option Addr) (s6 : Int) (okb : Bool) (L : List RecT), x = .pointer (some ⟨X, 0, none⟩) ∧ okv = .bool okb ∧ n6 ≤ n' + 1 ∧ JAdd w wx g (w.heap.size + 2) n' (p + 2 + 20 * k + 16) A' c' s l p5 X n6 A6 c6 s6 L)
        case first =>
          go_region_with (first | (go_at_call 57; refine (l91Record_any _ _ _ J4.rd (by omega)).mono ?_; rintro e w5 ⟨i, t, p5, rfl, ht, r5, hp5, o5⟩; have J5 := J4.only o5 r5 (show p5 ≤ p + 2 + 20 * k + 16 by omega); have hcall := hid (specAdd_d hlen hsm A' c' s i t w5 (own_cells J5.row) (by omega) ht); have hcallx := hid (specAdd_d hlen hsm A' c' s i t (w5.alloc (.cells #[.slice none 0 0, .int .i64 0] 29)) (own_cells (J5.row.alloc _)) (by omega) ht); obtain ⟨kc0, kc1, -, -⟩ := J5.blk.two; have hz5 : w.heap.size + 2 < w5.heap.size := J5.blk.lt) | (go_at_call 57; refine (l91Record_any _ _ _ J4x.rd (by omega)).mono ?_; rintro e w5 ⟨i, t, p5, rfl, ht, r5, hp5, o5⟩; have J5 := J4x.only o5 r5 (show p5 ≤ p + 2 + 20 * k + 16 by omega); have X5 := hid (blk_only X4x.out o5 (by omega)); have hcall := hid (specAdd_d hlen hsm A' c' s i t w5 (own_cells J5.row) (by omega) ht); obtain ⟨kc0, kc1, -, -⟩ := J5.blk.two; have hz5 : w.heap.size + 2 < w5.heap.size := J5.blk.lt) | (go_at_call 25; ((with_reducible refine hcall.out.mono ?_); rintro e w6 ⟨A6, c6, n6, s6, ok, L, rfl, hn6, hL, hS, o6, b6⟩; have O6 := hid o6; clear o6; have X6 := hid (X5.out.below b6 X5.out.lt); obtain ⟨xc0, xc1, xf0, xf1⟩ := X6.out.two)) | (go_at_call 25; ((with_reducible refine hcall.out.mono ?_); rintro e w6 ⟨A6, c6, n6, s6, ok, L, rfl, hn6, hL, hS, o6, b6⟩; have O6 := hid o6; clear o6)) | (go_at_call 25; ((with_reducible refine hcallx.out.mono ?_); rintro e w6 ⟨A6, c6, n6, s6, ok, L, rfl, hn6, hL, hS, o6, b6⟩; have O6 := hid o6; clear o6; have X6 := hid ((Blk.new w5 29 (JB none 0 0 0)).below b6 (by simp)); obtain ⟨xc0, xc1, xf0, xf1⟩ := X6.out.two)))
          all_goals
            go_wp2_with fail
            go_meet
            first
              | exact ⟨_, n6, c6, p5, A6, s6, ok, L, rfl, rfl, hn6, jAdd0 J5 b6 O6.out hL.out hS.out⟩
              | exact ⟨_, n6, c6, p5, A6, s6, ok, L, rfl, rfl, hn6, jAdd1 J5 b6 O6.out hL.out hS.out⟩
              | exact ⟨_, n6, c6, p5, A6, s6, ok, L, rfl, rfl, hn6, jAdd2 J5 b6 O6.out hL.out hS.out⟩
              | exact ⟨_, n6, c6, p5, A6, s6, ok, L, rfl, rfl, hn6, jAdd3 J5 hzr hA4.out (by have := X5.out.lt; omega) X6.out b6 O6.out hL.out hS.out⟩
        case rest =>
          obtain ⟨X, n6, c6, p5, A6, s6, okb, L, rfl, rfl, hn6, JA⟩ := hcut
          have hX := JA.blk.lt
          obtain ⟨x0, x1, xf0, xf1⟩ := JA.blk.two
          obtain ⟨y0, y1, yf0, yf1⟩ := JA.at_.blk.two
          cases okb
          · have Ja := JA.at_
            go_wp2_with fail
            refine (pick_any _ _ _ _ Ja.rd (by have := Ja.le; omega) (by omega)).mono ?_
            rintro e w7 ⟨v7, rfl, -, -, -, r7, o7, -⟩
            have J7 := Ja.only o7 r7 (show _ ≤ p + 2 + 20 * k + 17 by have := Ja.le; omega)
            clear Ja r7 o7
            by_cases hv : v7 = 0
            · have hb7 : (v7 == 0) = true := by rw [hv]; rfl
              clear hv
              obtain ⟨z0, z1, -, -⟩ := J7.blk.two
              go_wp2_with fail
              refine (specSync_d (hid J7.len) (hid J7.small) _ _ _ _ (own_cells J7.row) (by omega)).mono ?_
              rintro e w8 ⟨A8, c8, n8, s8, L8, rfl, hn8, hL8, hS8, o8, b8⟩
              have J8 := jSync (s6 := s8) J7 b8 o8 hL8.out hS8.out
              obtain ⟨z20, z21, zf0, zf1⟩ := (J7.below b8).blk.two
              clear o8 b8
              go_wp2
              go_roundw
              case rel => exact ⟨k + 1, A8, c8, n8, L8, s8, _, by omega, by go_num, by omega, J8.weak (by omega)⟩
              case measure => simp [intOf]; omega
            · have hb7 : (v7 == 0) = false := by rw [beq_eq_false_iff_ne]; exact hv
              clear hv
              go_wp2
              go_roundw
              case rel => exact ⟨k + 1, A', c', n', l, s, _, by omega, by go_num, by omega, J7.weak (by omega)⟩
              case measure => simp [intOf]; omega
          · have Ja := JA.at_.set (s6 := s6) JA.row JA.ne JA.len JA.small
            go_wp2_with fail
            refine (pick_any _ _ _ _ Ja.rd (by have := Ja.le; omega) (by omega)).mono ?_
            rintro e w7 ⟨v7, rfl, -, -, -, r7, o7, -⟩
            have J7 := Ja.only o7 r7 (show _ ≤ p + 2 + 20 * k + 17 by have := Ja.le; omega)
            clear Ja r7 o7
            by_cases hv : v7 = 0
            · have hb7 : (v7 == 0) = true := by rw [hv]; rfl
              clear hv
              obtain ⟨z0, z1, -, -⟩ := J7.blk.two
              go_wp2_with fail
              refine (specSync_d (hid J7.len) (hid J7.small) _ _ _ _ (own_cells J7.row) (by omega)).mono ?_
              rintro e w8 ⟨A8, c8, n8, s8, L8, rfl, hn8, hL8, hS8, o8, b8⟩
              have J8 := jSync (s6 := s8) J7 b8 o8 hL8.out hS8.out
              obtain ⟨z20, z21, zf0, zf1⟩ := (J7.below b8).blk.two
              clear o8 b8
              go_wp2
              go_roundw
              case rel => exact ⟨k + 1, A8, c8, n8, L8, s8, _, by omega, by go_num, by omega, J8.weak (by omega)⟩
              case measure => simp [intOf]; omega
            · have hb7 : (v7 == 0) = false := by rw [beq_eq_false_iff_ne]; exact hv
              clear hv
              go_wp2
              go_roundw
              case rel => exact ⟨k + 1, A6, c6, n6, L, s6, _, by omega, by go_num, by omega, J7.weak (by omega)⟩
              case measure => simp [intOf]; omega
      · obtain rfl : k = N := by omega
        clear hlt
        go_wp2_with fail
        refine (pick_any _ _ _ _ J.rd (by have := J.le; omega) (by omega)).mono ?_
        rintro e w3 ⟨v3, rfl, -, -, -, r3, o3, -⟩
        have J3 := J.only o3 r3 (show _ ≤ p + 2 + 20 * k + 17 by have := J.le; omega)
        clear J r3 o3
        by_cases h0 : v3 = 0
        · have hb0 : (v3 == 0) = true := by rw [h0]; rfl
          clear h0
          go_wp2_with fail
          refine (pick_any _ _ _ _ J3.rd (by have := J3.le; omega) (by omega)).mono ?_
          rintro e w4 ⟨m, rfl, m0, m1, -, r4, o4, -⟩
          have m1 := m1 (by omega)
          have J4 := J3.only o4 r4 (show _ ≤ p + 2 + 20 * k + 18 by have := J3.le; omega)
          obtain ⟨y0, y1, yf0, yf1⟩ := J4.blk.two
          obtain ⟨z0, z1, zf0, zf1⟩ := J4.res.two
          clear J3 r4 o4
          go_wp2
          refine bodyPost_ret (v := jv A' n' c' (m - 1)) (by simp [results, Try.results56, go_sem, z0, z1]) rfl ?_
          exact jEnd (jSynced J4 _) (by omega) (by omega)
        · have hb0 : (v3 == 0) = false := by rw [beq_eq_false_iff_ne]; exact h0
          clear h0
          by_cases h1 : v3 = 1
          · have hb1 : (v3 == 1) = true := by rw [h1]; rfl
            subst h1
            have hle3 := J3.le
            have J4 : JAt w w3.drew g (w.heap.size + 2) n' (p + 2 + 20 * k + 17) A' c' s l _ := J3.below (Below.refl _ _).drew
            have hz3 : w.heap.size + 2 < w3.heap.size := J3.blk.lt
            obtain ⟨y0, y1, yf0, yf1⟩ := J4.blk.two
            have Hlen := hid J4.len
            have Hsm := hid J4.small
            go_wp2_with fail
            go_region_law (first | (refine step_app3 rfl (.tmp 45) (.tmp 48) 27 rfl (w.heap.size + 1) Try.underlying27 info_rec rfl (by omega) (by omega) A' n' c' (recs l) rfl (J5.row.alloc _) w5.heap.size 0 1 1 [.int .i64 i, .string t] rfl rfl (cells_rec _ _ _ _) (two_rec _ _) (n' + 1) (recs (l ++ [(i, t)])) rfl (recs_snoc _ _ _) (by omega) (by simp; omega) ?_; intro A6 c6 w6 ho6 hg6 hl6; have J6 := jApp (L := l ++ [(i, t)]) (J5.below ((Below.refl w5.heap.size w5).alloc (Nat.le_refl _) (.cells #[.int .i64 i, .string t] 35))) hg6 ho6 hl6 (by rw [List.length_append, Hlen.out]; rfl) (smallT_snoc Hsm.out ht); obtain ⟨z0, z1, zf0, zf1⟩ := jGrow5 (J5.below ((Below.refl w5.heap.size w5).alloc (Nat.le_refl _) (.cells #[.int .i64 i, .string t] 35))) hg6) | (go_simp; go_wp2_with (go_at_call 57; refine (l91Record_any _ _ _ J4.rd (by omega)).mono ?_; rintro e w5 ⟨i, t, p5, rfl, ht, r5, hp5, o5⟩; have J5 := J4.only o5 r5 (show p5 ≤ p + 2 + 20 * k + 40 by omega); have hz5 : w.heap.size + 2 < w5.heap.size := J5.blk.lt; obtain ⟨kc0, kc1, -, -⟩ := J5.blk.two)))
            all_goals
              obtain ⟨y0, y1, yf0, yf1⟩ := J6.blk.two
              obtain ⟨q0, q1, qf0, qf1⟩ := J6.res.two
              go_wp2
              refine bodyPost_ret (v := jv A6 (n' + 1) c6 s) (by simp [results, Try.results56, go_sem, q0, q1]) rfl ?_
              exact jEnd J6 (by omega) (by omega)
          · have hb1 : (v3 == 1) = false := by rw [beq_eq_false_iff_ne]; exact h1
            clear h1
            obtain ⟨y0, y1, yf0, yf1⟩ := J3.blk.two
            obtain ⟨z0, z1, zf0, zf1⟩ := J3.res.two
            go_wp2
            refine bodyPost_ret (v := jv A' n' c' s) (by simp [results, Try.results56, go_sem, z0, z1]) rfl ?_
            exact jEnd J3 (by omega) (by omega)

end Go.Proofs.Ytihjjnmhionibaa
