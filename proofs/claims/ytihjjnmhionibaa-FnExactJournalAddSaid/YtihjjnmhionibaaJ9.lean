/- The laws' helpers on records and journals: comparisons, copies. -/
import Derived.Test.YtihjjnmhionibaaJ8
namespace Go.Proofs.Ytihjjnmhionibaa
open Go.RowKit

set_option maxHeartbeats 400000 in
theorem eqRecord_true (i : Int) (t : ByteArray) (w : World) : Calls Try.prog 64 #[rv i t, rv i t] w (RetB w true) := by
  have hb : Below w.heap.size w ((w.alloc (.cells #[.int .i64 i, .string t] 35)).alloc (.cells #[.int .i64 i, .string t] 35)) := ((Below.refl _ _).alloc (Nat.le_refl _) _).alloc (by simp) _
  go_enter Try.func64, Try.ntmps64
  go_wp2
  go_ret
  exact ⟨rfl, hb⟩

set_option maxHeartbeats 400000 in
theorem eqRecordS_true (A B : Option Addr) (c d : Nat) (l : List RecT) (w : World) (hA : Cells w A (recs l)) (hB : Cells w B (recs l)) (hm : l.length ≤ 17592186044416) :
    Calls Try.prog 54 #[.slice A l.length c, .slice B l.length d] w (RetB w true) := by
  go_enter Try.func54, Try.ntmps54
  go_wp2
  go_loopw [5] (fun i wr => ∃ k : Nat, k ≤ l.length ∧ i = .int .i64 k ∧ Below w.heap.size w wr) (fun i _ => l.length - (intOf i).toNat)
  case atStart => exact ⟨0, Nat.zero_le _, rfl, Below.refl _ _⟩
  case round =>
    obtain ⟨k, hk, rfl, hbel⟩ := hrel
    by_cases hlt : k < l.length
    · obtain ⟨b, off, i, t, rfl, hz, hc, hc1⟩ := (hA.below hbel).rec_at hlt
      obtain ⟨b2, off2, rfl, hc2, hc3⟩ := (hB.below hbel).rec_of hz.out
      go_wp2
      go_region_held3 (fun w' => w'.cell? ⟨b, off + k * 2, none⟩ = some (.int .i64 i) ∧ w'.cell? ⟨b, off + k * 2 + 1, none⟩ = some (.string t) ∧ w'.cell? ⟨b2, off2 + k * 2, none⟩ = some (.int .i64 i) ∧ w'.cell? ⟨b2, off2 + k * 2 + 1, none⟩ = some (.string t)) ((first | exact ⟨hc, hc1, hc2, hc3⟩ | exact ⟨cell_later b5 hc, cell_later b5 hc1, cell_later b5 hc2, cell_later b5 hc3⟩)) ((go_at_call 64; refine (eqRecord_true _ _ _).mono ?_; rintro e w5 ⟨rfl, b5⟩))
      go_wp2
      go_roundw
      case rel => exact ⟨k + 1, by omega, by go_num, below_step hbel (below_step ((Below.refl _ _).drew) b5)⟩
      case measure => simp [intOf]; omega
    · go_wp2
      go_ret
      exact ⟨rfl, hbel⟩

set_option maxHeartbeats 400000 in
theorem eqJournal_true (A B : Option Addr) (c d : Nat) (l : List RecT) (s : Int) (w : World) (hA : Cells w A (recs l)) (hB : Cells w B (recs l)) (hm : l.length ≤ 17592186044416) :
    Calls Try.prog 22 #[jv A l.length c s, jv B l.length d s] w (RetB w true) := by
  have hb : Below w.heap.size w ((w.alloc (.cells #[.slice A l.length c, .int .i64 s] 29)).alloc (.cells #[.slice B l.length d, .int .i64 s] 29)) := ((Below.refl _ _).alloc (Nat.le_refl _) _).alloc (by simp) _
  have q0 : Blk ((w.alloc (.cells #[.slice A l.length c, .int .i64 s] 29)).alloc (.cells #[.slice B l.length d, .int .i64 s] 29)) w.heap.size 29 (JB A l.length c s) :=
    (Blk.new w 29 (JB A l.length c s)).below ((Below.refl _ _).alloc (Nat.le_refl _) _) (by simp)
  have z0 : Blk ((w.alloc (.cells #[.slice A l.length c, .int .i64 s] 29)).alloc (.cells #[.slice B l.length d, .int .i64 s] 29)) (w.heap.size + 1) 29 (JB B l.length d s) := by
    have h := Blk.new (w.alloc (.cells #[.slice A l.length c, .int .i64 s] 29)) 29 (JB B l.length d s)
    rw [show (w.alloc (.cells #[.slice A l.length c, .int .i64 s] 29)).heap.size = w.heap.size + 1 by simp] at h
    exact h
  obtain ⟨c0, c1, -, -⟩ := q0.two
  obtain ⟨d0, d1, -, -⟩ := z0.two
  have hA1 := hid (hA.below hb)
  have hB1 := hid (hB.below hb)
  clear hA hB q0 z0
  go_enter Try.func22, Try.ntmps22
  go_wp2_with fail
  generalize (w.alloc (.cells #[.slice A l.length c, .int .i64 s] 29)).alloc (.cells #[.slice B l.length d, .int .i64 s] 29) = W0 at hb c0 c1 d0 d1 hA1 hB1 ⊢
  refine (eqRecordS_true _ _ _ _ _ _ hA1.out hB1.out hm).mono ?_; rintro e w2 ⟨rfl, b2⟩
  have e1 := cell_later b2 c1
  have f1 := cell_later b2 d1
  go_wp2_with fail
  go_ret
  exact ⟨rfl, below_step hb b2⟩

set_option maxHeartbeats 1000000 in
theorem toJournal_any (A : Option Addr) (c : Nat) (l : List RecT) (s : Int) (w : World) (hr : Cells w A (recs l)) (hm : l.length ≤ 1048576) :
    Calls Try.prog 20 #[jv A l.length c s] w (RetJ w l l.length s) := by
  have b0 : Below w.heap.size w (((w.alloc (.cells #[.slice A l.length c, .int .i64 s] 24)).alloc (.cells #[.slice none 0 0, .int .i64 0] 29)).alloc (.cells #[.slice none 0 0, .int .i64 0] 29)) :=
    (((Below.refl _ _).alloc (Nat.le_refl _) _).alloc (by simp) _).alloc (by simp <;> omega) _
  have e1 : (w.alloc (.cells #[.slice A l.length c, .int .i64 s] 24)).heap.size = w.heap.size + 1 := by simp
  have e2 : ((w.alloc (.cells #[.slice A l.length c, .int .i64 s] 24)).alloc (.cells #[.slice none 0 0, .int .i64 0] 29)).heap.size = w.heap.size + 1 + 1 := by simp
  have q0 := ((Blk.new w 24 (JB A l.length c s)).below ((Below.refl _ _).alloc (Nat.le_refl _) (.cells #[.slice none 0 0, .int .i64 0] 29)) (by simp)).below ((Below.refl _ _).alloc (Nat.le_refl _) (.cells #[.slice none 0 0, .int .i64 0] 29)) (by simp <;> omega)
  have z0 := (Blk.new (w.alloc (.cells #[.slice A l.length c, .int .i64 s] 24)) 29 (JB none 0 0 0)).below ((Below.refl _ _).alloc (Nat.le_refl _) (.cells #[.slice none 0 0, .int .i64 0] 29)) (by simp)
  rw [e1] at z0
  have y0 := Blk.new ((w.alloc (.cells #[.slice A l.length c, .int .i64 s] 24)).alloc (.cells #[.slice none 0 0, .int .i64 0] 29)) 29 (JB none 0 0 0)
  rw [e2] at y0
  have Q0 := hid q0
  have Z0 := hid z0
  have Y0 := hid y0
  have hr0 := hid (hr.below b0)
  obtain ⟨c0, c1, -, -⟩ := q0.two
  clear q0 z0 y0 e1 e2 hr
  go_enter Try.func20, Try.ntmps20
  go_wp2_with fail
  generalize (((w.alloc (.cells #[.slice A l.length c, .int .i64 s] 24)).alloc (.cells #[.slice none 0 0, .int .i64 0] 29)).alloc (.cells #[.slice none 0 0, .int .i64 0] 29)) = W0 at b0 Q0 Z0 Y0 hr0 c0 c1 ⊢
  refine (toRecordS_any _ _ _ _ hr0.out hm).mono ?_; rintro e w2 ⟨A2, c2, rfl, o2, b2⟩
  have O2 := hid o2
  have t2 := below_step b0 b2
  have d1 := cell_later b2 c1
  obtain ⟨z1, z2, zf1, zf2⟩ := (Z0.out.below b2 Z0.out.lt).two
  obtain ⟨y1, y2, yf1, yf2⟩ := (Y0.out.below b2 Y0.out.lt).two
  have hs0 : w.heap.size + 1 + 1 < W0.heap.size := Y0.out.lt
  have s0 := b0.size
  clear o2 c0 c1
  go_wp2_with fail
  refine bodyPost_ret (v := jv A2 l.length c2 s) (by simp [results, Try.results20, go_sem, z1, z2]) rfl ?_
  refine ⟨A2, c2, rfl, ?_, ?_⟩
  · exact (own_set_ne (own_set_ne (own_set_ne (own_set_ne O2.out (by omega) _ _) (by omega) _ _) (by omega) _ _) (by omega) _ _).weak s0 (by simp [World.setCell])
  · exact (((t2.setCell (by simp <;> omega) _).setCell (by simp <;> omega) _).setCell (by simp <;> omega) _).setCell (by simp <;> omega) _

end Go.Proofs.Ytihjjnmhionibaa
