/- FnExactJournalValid: the walk. -/
import Derived.Test.YtihjjnmhionibaaJ15
namespace Go.Proofs.Ytihjjnmhionibaa
open Go.RowKit

set_option maxHeartbeats 2000000 in
theorem exactJournalValid_walk (A : Option Addr) (c : Nat) (l : List RecT) (s : Int) (w : World) (hr : Cells w A (recs l)) (hm0 : l.length ≤ 9223372036854775807) (hl : ∀ a ∈ l, a.2.size ≤ 9223372036854775807) :
    Calls Try.prog 3 #[jv A l.length c s] w (RetB w true) := by
  have b0 : Below w.heap.size w (w.alloc (.cells #[.slice A l.length c, .int .i64 s] 24)) := (Below.refl _ _).alloc (Nat.le_refl _) _
  have q0 := Blk.new w 24 (JB A l.length c s)
  obtain ⟨c0, c1, -, -⟩ := q0.two
  have l0 : w.heap.size < (w.alloc (.cells #[.slice A l.length c, .int .i64 s] 24)).heap.size := by simp
  have hr0 := hid (hr.below b0)
  have hS := hid (fun W h => szJournal_any A c l s W h hm0 hl)
  clear hr q0 hl
  go_enter Try.func3, Try.ntmps3
  go_wp2_with fail
  generalize w.alloc (.cells #[.slice A l.length c, .int .i64 s] 24) = W0 at b0 hr0 c0 c1 l0 ⊢
  refine (hS.out _ hr0.out).mono ?_; rintro e w1 ⟨v, rfl, hv, b1⟩
  by_cases h0 : v < 0
  · go_wp2_with fail
    go_ret
    exact ⟨rfl, below_step b0 b1⟩
  · have hv2 : 0 ≤ v ∧ v ≤ 1048576 ∧ FitR l := by rcases hv with h | h; exact absurd h h0; exact h
    have Hf := hid hv2.2.2
    have hm := hv2.2.2.1
    have t1 := hid (below_step b0 b1)
    have l1 : w.heap.size < w1.heap.size := by have := b1.size; omega
    have hr1 := hid (hr0.out.below b1)
    have d0 := cell_later b1 c0
    have d1 := cell_later b1 c1
    clear hv hv2 b1 c0 c1
    go_wp2_with fail
    refine (toJournal_any A c l s w1 hr1.out hm).mono ?_; rintro e w2 ⟨A2, c2, rfl, o2, b2⟩
    have o2h := hid o2
    have t2 := hid (below_step t1.out b2)
    have l2 := b2.size
    have hr2 := hid (hr1.out.below b2)
    have e0 := cell_later b2 d0
    have e1 := cell_later b2 d1
    clear o2 b2 d0 d1
    go_wp2_with fail
    refine (specJValid_any A2 c2 l s w2 o2h.out.cells Hf.out.small).mono ?_; rintro e w3 ⟨rfl, b3⟩
    have t3 := hid (below_step t2.out b3)
    have l3 := b3.size
    have hr3 := hid (hr2.out.below b3)
    have d0 := cell_later b3 e0
    have d1 := cell_later b3 e1
    clear b3 e0 e1
    go_wp2_with fail
    refine (toJournal_any A c l s w3 hr3.out hm).mono ?_; rintro e w4 ⟨A4, c4, rfl, o4, b4⟩
    have t4 := hid (below_step t3.out b4)
    have hr4 := hid (hr3.out.below b4)
    have o4h := hid o4
    have l4 := b4.size
    have e0 := cell_later b4 d0
    have e1 := cell_later b4 d1
    clear b4 d0 d1 o4
    go_wp2_with fail
    have lt4 : w.heap.size < w4.heap.size := by omega
    refine (implJValid_any A4 c4 l s _ (o4h.out.cells.below ((Below.refl _ _).alloc (Nat.le_refl _) _)) Hf.out.small).mono ?_; rintro e w5 ⟨rfl, b5⟩
    have bA := (Below.refl w4.heap.size w4).alloc (Nat.le_refl _) (.cells #[.slice A4 l.length c4, .int .i64 s] 29)
    have b45 := below_step bA b5
    obtain ⟨x0, x1, -, -⟩ := ((Blk.new w4 29 (JB A4 l.length c4 s)).below b5 (by simp)).two
    have d0 := cell_later b45 e0
    have d1 := cell_later b45 e1
    have O5 := hid (o4h.out.below b45)
    have hr5 := hid (hr4.out.below b45)
    have t5 := hid (below_step t4.out b45)
    clear e0 e1 b5 bA b45
    go_wp2_with fail
    go_region_with (first | (go_at_call 20; (refine (toJournal_any A c l s _ ?_ hm).mono ?_); (exact hr5.out.below (Below.refl _ _).drew); rintro e w6 ⟨A6, c6, rfl, o6, b6⟩; have bs : Below w5.heap.size w5 w6 := below_step (Below.refl w5.heap.size w5).drew b6; have n0 := cell_later bs x0; have n1 := cell_later bs x1; have B6 := hid bs; have O6 := hid o6; clear o6 b6 bs) | (go_at_call 22; (refine (eqJournal_true A4 A6 c4 c6 l s _ ?_ ?_ (by omega)).mono ?_); (exact O5.out.cells.below B6.out); (exact O6.out.cells); rintro e w7 ⟨rfl, b7⟩; have B7 := hid b7; clear b7))
    all_goals
      go_wp2_with fail
      go_ret
      exact ⟨rfl, below_step t5.out (below_step B6.out B7.out)⟩

end Go.Proofs.Ytihjjnmhionibaa
