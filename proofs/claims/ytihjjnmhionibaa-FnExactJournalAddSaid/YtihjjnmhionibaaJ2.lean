/- Copies of journals; JournalSync. -/
import Derived.Test.YtihjjnmhionibaaJ1
import Derived.Deep.RegionLaw
import Derived.Deep.CutRange
namespace Go.Proofs.Ytihjjnmhionibaa
open Go.RowKit

def RetRecs (w : World) (l : List RecT) (e : Ending) (w' : World) : Prop :=
  ∃ A c, e = .returned (.slice A l.length c) ∧ Own w' w.heap.size w'.heap.size 35 2 A c l.length (recs l) ∧ Below w.heap.size w w'
set_option maxHeartbeats 400000 in
theorem cloneRec_any (A : Option Addr) (c : Nat) (l : List RecT) (w : World) (hr : Cells w A (recs l)) (hm : l.length ≤ 1048576) :
    Calls Try.prog 58 #[.slice A l.length c] w (RetRecs w l) := by
  have hmk := fun W => run_make_cap (P := Try.prog) 27 35 Try.underlying27 info_rec l.length (by omega) (by omega) W
  go_enter Try.func58, Try.ntmps58
  go_wp2_with (at_builtin; refine wpList_app rfl (.tmp 5) (.tmp 6) 27 rfl w.heap.size Try.underlying27 info_rec rfl (by omega) (by omega) _ 0 l.length [] rfl (own_made w _ _ 2 _ (by omega) (Nat.le_refl _)) A l.length c (recs l) rfl (recs_length _) (hr.below ((Below.refl _ _).alloc (Nat.le_refl _) _)) (recs_one _) l.length (recs l) (by omega) rfl (by omega) (by simp) ?_; intro A' c' w' ho hb)
  go_ret
  exact ⟨A', c', rfl, Own.of_row ho, ((Below.refl _ _).alloc (Nat.le_refl _) _).trans hb⟩

/-- A journal in new memory; nothing that was there has changed. -/
def RetJ (w : World) (l : List RecT) (n : Nat) (s : Int) (e : Ending) (w' : World) : Prop :=
  ∃ A c, e = .returned (jv A n c s) ∧ Own w' w.heap.size w'.heap.size 35 2 A c n (recs l) ∧ Below w.heap.size w w'
def RetJB (w : World) (l : List RecT) (n : Nat) (s : Int) (b : Bool) (e : Ending) (w' : World) : Prop :=
  ∃ A c, e = .returned (.tuple #[jv A n c s, .bool b]) ∧ Own w' w.heap.size w'.heap.size 35 2 A c n (recs l) ∧ Below w.heap.size w w'
theorem own_nil (w : World) (base hi : Nat) (e : TypeId) (size : Nat) : Own w base hi e size none 0 0 [] := ⟨⟨by simp, .inl ⟨rfl, rfl⟩⟩, fun _ h => by cases h⟩
theorem rowKeep {w w' : World} {base : Nat} {e : TypeId} {size n c : Nat} {A : Option Addr} {xs : List Value} (h : w.ownsRow base e size (.slice A n c) n xs) (hk : ∀ g, A = some ⟨g, 0, none⟩ → g < w.heap.size → w'.heap[g]? = w.heap[g]?) : w'.ownsRow base e size (.slice A n c) n xs := by
  refine ⟨h.1, ?_⟩
  rcases h.2 with hv | ⟨g, cap, cur, hv, hg2, hh, r⟩
  · exact .inl hv
  · have hA : A = some ⟨g, 0, none⟩ := by injection hv
    exact .inr ⟨g, cap, cur, hv, hg2, by rw [hk g hA (Array.getElem?_eq_some_iff.1 hh).1]; exact hh, r⟩
theorem row_set {w : World} {base : Nat} {e : TypeId} {size n c : Nat} {A : Option Addr} {xs : List Value} (h : w.ownsRow base e size (.slice A n c) n xs) {g : Nat} (hg : ∀ ad, A = some ad → ad.block ≠ g) (i : Nat) (u : Value) : (w.setCell ⟨g, i, none⟩ u).ownsRow base e size (.slice A n c) n xs :=
  rowKeep h fun _ hk _ => Below.heap_setCell _ _ _ _ (hg _ hk)
theorem own_set_ne {w : World} {lo hi g : Nat} {e : TypeId} {size n c : Nat} {A : Option Addr} {xs : List Value} (h : Own w lo hi e size A c n xs) (hg : g < lo) (i : Nat) (u : Value) : Own (w.setCell ⟨g, i, none⟩ u) lo hi e size A c n xs :=
  h.chg (chg_set (g := g) w (Nat.le_refl _) (Nat.lt_succ_self _) i u) (.inr hg)
/-- The block of a journal's two cells. -/
abbrev JB (A : Option Addr) (n c : Nat) (s : Int) : List Value := [.slice A n c, .int .i64 s]

set_option maxHeartbeats 1000000 in
theorem l13Copy_any (A : Option Addr) (c : Nat) (l : List RecT) (s : Int) (w : World) (hr : Cells w A (recs l)) (hm : l.length ≤ 1048576) :
    Calls Try.prog 59 #[jv A l.length c s] w (RetJ w l l.length s) := by
  have b0 : Below w.heap.size w ((w.alloc (.cells #[.slice A l.length c, .int .i64 s] 29)).alloc (.cells #[.slice none 0 0, .int .i64 0] 29)) := ((Below.refl _ _).alloc (Nat.le_refl _) _).alloc (by simp) _
  have hr0 := hr.below b0
  have own0 : Hid ((((w.alloc (.cells #[.slice A l.length c, .int .i64 s] 29)).alloc (.cells #[.slice none 0 0, .int .i64 0] 29)).alloc (.cells #[] 35)).ownsRow (w.heap.size + 1 + 1) 35 2 (.slice (some ⟨w.heap.size + 1 + 1, 0, none⟩) 0 0) 0 []) := by
    have h := own_empty ((w.alloc (.cells #[.slice A l.length c, .int .i64 s] 29)).alloc (.cells #[.slice none 0 0, .int .i64 0] 29)) 35 2 (Nat.le_refl _)
    simpa [Hid] using h
  have q2 : Hid (Blk (((w.alloc (.cells #[.slice A l.length c, .int .i64 s] 29)).alloc (.cells #[.slice none 0 0, .int .i64 0] 29)).alloc (.cells #[] 35)) w.heap.size 29 (JB A l.length c s)) :=
    ((Blk.new w 29 (JB A l.length c s)).below ((Below.refl _ _).alloc (Nat.le_refl _) _) (by simp)).below ((Below.refl _ _).alloc (Nat.le_refl _) _) (by simp <;> omega)
  have z2 : Hid (Blk (((w.alloc (.cells #[.slice A l.length c, .int .i64 s] 29)).alloc (.cells #[.slice none 0 0, .int .i64 0] 29)).alloc (.cells #[] 35)) (w.heap.size + 1) 29 (JB none 0 0 0)) := by
    have h := Blk.new (w.alloc (.cells #[.slice A l.length c, .int .i64 s] 29)) 29 (JB none 0 0 0)
    have h2 := h.below ((Below.refl _ _).alloc (Nat.le_refl _) (.cells #[] 35)) (by simp)
    rw [show (w.alloc (.cells #[.slice A l.length c, .int .i64 s] 29)).heap.size = w.heap.size + 1 by simp] at h2
    exact h2
  have hsrc := hid (hr0.below ((Below.refl _ _).alloc (Nat.le_refl _) (.cells #[] 35)))
  have b1 : Below w.heap.size w (((w.alloc (.cells #[.slice A l.length c, .int .i64 s] 29)).alloc (.cells #[.slice none 0 0, .int .i64 0] 29)).alloc (.cells #[] 35)) := b0.alloc b0.size _
  go_enter Try.func59, Try.ntmps59
  go_wp2_with (at_builtin; refine wpList_app rfl (.tmp 3) (.tmp 5) 27 rfl (w.heap.size + 1 + 1) Try.underlying27 info_rec rfl (by omega) (by omega) _ 0 0 [] rfl own0.out A l.length c (recs l) rfl (recs_length _) hsrc.out (recs_one _) l.length (recs l) (by omega) rfl (by omega) (by simp <;> omega) ?_; intro A' c' w1 ho hb; have o1 := hid ho; have t1 := b1.trans (hb.mono (by omega)); have k1 := hid (q2.out.below hb (by omega)); have y1 := hid (z2.out.below hb (by omega)); clear ho hb; have kc0 := k1.out.cell 0; have kc1 := k1.out.cell 1; have kf0 := k1.out.free 0; have yc0 := y1.out.cell 0; have yc1 := y1.out.cell 1; have yf0 := y1.out.free 0; have yf1 := y1.out.free 1; simp only [List.getElem?_cons_zero, List.getElem?_cons_succ] at kc0 kc1 yc0 yc1)
  refine bodyPost_ret (v := jv A' l.length c' s) (by simp [results, Try.results59, go_sem, yc0, yc1]) rfl ?_
  exact ⟨A', c', rfl, (own_set_ne (own_set_ne (own_set_ne (Own.of_row o1.out) (by omega) _ _) (by omega) _ _) (by omega) _ _).weak (by omega) (by simp [World.setCell]), ((t1.setCell (Nat.le_refl _) _).setCell (by simp) _).setCell (by simp) _⟩

/-- What JournalSync is to answer: the records and the number. -/
def syncG (l : List RecT) (s : Int) : List RecT × Int := if validJ l s = true then (l, (l.length : Int)) else ([], 0)

set_option maxHeartbeats 1000000 in
theorem specSync_any (A : Option Addr) (c : Nat) (l : List RecT) (s : Int) (w : World) (hr : Cells w A (recs l)) (hs : SmallR l) :
    Calls Try.prog 29 #[jv A l.length c s] w (RetJ w (syncG l s).1 (syncG l s).1.length (syncG l s).2) := by
  have hm : l.length ≤ 1048576 := hs.1
  have b0 : Below w.heap.size w ((w.alloc (.cells #[.slice A l.length c, .int .i64 s] 29)).alloc (.cells #[.slice none 0 0, .int .i64 0] 29)) := ((Below.refl _ _).alloc (Nat.le_refl _) _).alloc (by simp) _
  have q0 : Hid (Blk ((w.alloc (.cells #[.slice A l.length c, .int .i64 s] 29)).alloc (.cells #[.slice none 0 0, .int .i64 0] 29)) w.heap.size 29 (JB A l.length c s)) :=
    (Blk.new w 29 (JB A l.length c s)).below ((Below.refl _ _).alloc (Nat.le_refl _) _) (by simp)
  have z0 : Hid (Blk ((w.alloc (.cells #[.slice A l.length c, .int .i64 s] 29)).alloc (.cells #[.slice none 0 0, .int .i64 0] 29)) (w.heap.size + 1) 29 (JB none 0 0 0)) := by
    have h := Blk.new (w.alloc (.cells #[.slice A l.length c, .int .i64 s] 29)) 29 (JB none 0 0 0)
    rw [show (w.alloc (.cells #[.slice A l.length c, .int .i64 s] 29)).heap.size = w.heap.size + 1 by simp] at h
    exact h
  have s0 : Hid (((w.alloc (.cells #[.slice A l.length c, .int .i64 s] 29)).alloc (.cells #[.slice none 0 0, .int .i64 0] 29)).heap.size = w.heap.size + 2) := by simp [Hid]
  have hr0 := hid (hr.below b0)
  have hV := hid (fun W h => specJValid_any A c l s W h hs)
  clear hr
  cases hv : validJ l s
  · have hG : syncG l s = ([], 0) := by unfold syncG; rw [hv]; rfl
    rw [hG]
    rw [hv] at hV
    clear hv hG
    obtain ⟨c0, c1, -, -⟩ := q0.out.two
    go_enter Try.func29, Try.ntmps29
    go_wp2_with fail
    generalize (w.alloc (.cells #[.slice A l.length c, .int .i64 s] 29)).alloc (.cells #[.slice none 0 0, .int .i64 0] 29) = W0 at b0 q0 z0 s0 hr0 c0 c1 ⊢
    refine (hV.out _ hr0.out).mono ?_; rintro e w1 ⟨rfl, b1⟩
    have t1 := below_step b0 b1
    have z1 := hid (z0.out.below b1 z0.out.lt)
    obtain ⟨y0, y1, yf0, yf1⟩ := z1.out.two
    clear c0 c1
    go_wp2_with fail
    refine bodyPost_ret (v := jv none 0 0 0) (by simp [results, Try.results29, go_sem, y0, y1]) rfl ?_
    exact ⟨none, 0, rfl, own_nil _ _ _ _ _, (t1.setCell (by simp) _).setCell (by simp) _⟩
  · have hG : syncG l s = (l, (l.length : Int)) := by unfold syncG; rw [hv]; rfl
    rw [hG]
    rw [hv] at hV
    clear hv hG
    obtain ⟨c0, c1, -, -⟩ := q0.out.two
    go_enter Try.func29, Try.ntmps29
    go_wp2_with fail
    generalize (w.alloc (.cells #[.slice A l.length c, .int .i64 s] 29)).alloc (.cells #[.slice none 0 0, .int .i64 0] 29) = W0 at b0 q0 z0 s0 hr0 c0 c1 ⊢
    refine (hV.out _ hr0.out).mono ?_; rintro e w1 ⟨rfl, b1⟩
    have t1 := below_step b0 b1
    have z1 := hid (z0.out.below b1 z0.out.lt)
    have d0 := cell_later b1 c0
    have d1 := cell_later b1 c1
    clear c0 c1
    go_wp2_with fail
    refine (l13Copy_any _ _ _ _ _ (hr0.out.below b1) hm).mono ?_; rintro e w2 ⟨A2, c2, rfl, o2, b2⟩
    have O2 := hid o2
    have t2 := below_step t1 b2
    have z2 := hid (z1.out.below b2 z1.out.lt)
    obtain ⟨y0, y1, yf0, yf1⟩ := z2.out.two
    have hlt := z2.out.lt
    have s1 := t1.size
    have hs1 : w.heap.size + 1 < w1.heap.size := z1.out.lt
    clear d0 d1 o2
    go_wp2_with fail
    obtain ⟨f0, f1, -, -⟩ := (((z2.out.set 0 (.slice A2 l.length c2)).set 1 (.int .i64 (l.length : Int))).below ((Below.refl _ _).alloc (Nat.le_refl _) (.cells #[.slice A2 l.length c2, .int .i64 (l.length : Int)] 29)) (by simp [World.setCell]; exact hlt)).two
    refine bodyPost_ret (v := jv A2 l.length c2 l.length) (by simp [results, Try.results29, go_sem, f0, f1]) rfl ?_
    exact ⟨A2, c2, rfl, ((own_set_ne (own_set_ne O2.out hs1 _ _) hs1 _ _).below ((Below.refl _ _).alloc (Nat.le_refl _) _)).weak s1 (by simp [World.setCell]), ((t2.setCell (by simp) _).setCell (by simp) _).alloc (by simp [World.setCell]; exact t2.size) _⟩

end Go.Proofs.Ytihjjnmhionibaa
