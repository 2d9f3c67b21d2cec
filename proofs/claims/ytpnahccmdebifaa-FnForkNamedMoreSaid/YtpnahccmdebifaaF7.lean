/- ForkNamed, the program's. -/
import Derived.Test.YtpnahccmdebifaaF6
namespace Go.Proofs.Ytpnahccmdebifaa
open Go.RowKit

theorem below_of_chg {w a b : World} {lo hi : Nat} (h : Below w.heap.size w a) (k : Chg lo hi a b) (hl : w.heap.size ≤ lo) : Below w.heap.size w b := below_chg h k hl
theorem retZ_named {w w' : World} {l : List ForkT} {ks : List Int} {A : Option Addr} {c lo hi : Nat} {e : Ending} (hk : Hid (ascL (keysL l) = ks)) (h : e = .returned (.slice A (compTo ks ks.length).length c) ∧ Own w' lo hi 3 1 A c (compTo ks ks.length).length (ints (compTo ks ks.length))) (hlo : w.heap.size ≤ lo) (hhi : hi ≤ w'.heap.size) (hb : Below w.heap.size w w') : RetZ w (specAll l) e w' := by
  obtain ⟨rfl, ho⟩ := h
  rw [← hk.out, named_eq] at ho
  refine ⟨A, c, by rw [← hk.out, named_eq], ho.weak hlo hhi, hb⟩

set_option maxRecDepth 100000 in
set_option maxHeartbeats 4000000 in
theorem implNamed_any (A : Option Addr) (c m : Nat) (l : List ForkT) (w : World) (hlm : Hid (l.length = m)) (hr : Cells w A (forks l)) (hm : m ≤ 12) :
    Calls Try.prog 6 #[.slice A m c] w (RetZ w (specAll l)) := by
  go_enter Try.func6, Try.ntmps6
  go_wp2
  go_loopw [3, 9] (fun out i wr => ∃ (j : Nat) (A' : Option Addr) (c' n' : Nat), j ≤ m ∧ i = .int .i64 j ∧ out = .slice A' n' c' ∧ n' ≤ j ∧ Hid ((keysL (l.take j)).length = n') ∧ Hid (wr.ownsRow w.heap.size 3 1 (.slice A' n' c') n' (ints (keysL (l.take j)))) ∧ Below w.heap.size w wr) (fun _ i _ => m - (intOf i).toNat)
  case atStart => exact ⟨0, _, _, 0, Nat.zero_le _, rfl, rfl, Nat.le_refl _, by simp [Hid, keysL], by simpa [Hid, keysL, ints] using own_empty w 3 1 (Nat.le_refl _), (Below.refl _ _).alloc (Nat.le_refl _) _⟩
  case round =>
    obtain ⟨j, A', c', n', hj, rfl, rfl, hn', hln, own, hb⟩ := hrel
    by_cases hjl : j < m
    · obtain ⟨x, hx⟩ : ∃ x, l[j]? = some x := ⟨l[j]'(by rw [hlm.out]; exact hjl), List.getElem?_eq_getElem _⟩
      obtain ⟨b, off, hA, a7⟩ := (hr.below hb).fork_of hx
      subst hA
      have hF := hid (fun W => implFork_any x W)
      have hsz := hb.size
      have hstep := keysL_snoc hx
      obtain ⟨d0, d1, d2, d3, d4, d5, d6⟩ := a7
      have bx : Below wr.heap.size wr (wr.alloc (.cells (fcells x).toArray 32)) := (Below.refl _ _).alloc (Nat.le_refl _) _
      have qx := hid (Blk.new wr 32 (fcells x))
      have hbx := below_step hb bx
      have ownx := hid (own_below own.out bx)
      simp only [fcells] at bx qx hbx ownx
      clear hx
      cases hf : forkB x
      · rw [hf] at hF hstep
        have Hstep : Hid (keysL (l.take (j + 1)) = keysL (l.take j)) := by unfold Hid; rw [hstep]; simp
        clear hf hstep
        go_wp2_with fail
        refine (hF.out _).mono ?_; rintro e w3 ⟨rfl, b3⟩
        have hb3 := below_step hbx b3
        have own3 := hid (own_below ownx.out b3)
        go_wp2
        go_roundw
        case rel => exact ⟨j + 1, A', c', n', by omega, by go_num, rfl, by omega, by unfold Hid; rw [Hstep.out]; exact hln.out, by unfold Hid; rw [Hstep.out]; exact own3.out, hb3⟩
        case measure => simp [intOf]; omega
      · rw [hf] at hF hstep
        have Hstep : Hid (keysL (l.take (j + 1)) = keysL (l.take j) ++ [x.pub]) := by unfold Hid; rw [hstep]; simp
        have hln4 : Hid ((keysL (l.take (j + 1))).length = n' + 1) := by unfold Hid; rw [Hstep.out, List.length_append, hln.out]; rfl
        clear hf hstep
        go_wp2_with fail
        refine (hF.out _).mono ?_; rintro e w3 ⟨rfl, b3⟩
        have hb3 := below_step hbx b3
        have own3 := hid (own_below ownx.out b3)
        have hz3 := hb3.size
        obtain ⟨f0, -, -, -, -, -, -⟩ := (qx.out.below b3 qx.out.lt).seven
        go_wp2_with (at_builtin; refine wpList_app rfl (.tmp 15) (.tmp 18) 25 rfl w.heap.size Try.underlying25 info_int rfl (by omega) (by omega) A' n' c' _ rfl (own3.out.alloc _) (some ⟨w3.heap.size, 0, none⟩) 1 1 [.int .i64 x.pub] rfl rfl (cells_one _ _ _) (one_int _) (n' + 1) (ints (keysL (l.take (j + 1)))) rfl (by rw [Hstep.out, ints_snoc]) (by omega) (by simp; omega) ?_; intro A5 c5 w5 ho5 hb5)
        go_roundw
        case rel => exact ⟨j + 1, A5, c5, n' + 1, by omega, by go_num, rfl, by omega, hln4, ho5, (hb3.alloc hz3 _).trans hb5⟩
        case measure => simp [intOf]; omega
    · obtain rfl : j = m := by omega
      have hl1 : Hid (l.take j = l) := by unfold Hid; rw [List.take_of_length_le (by rw [hlm.out]; exact Nat.le_refl _)]
      have own2 : Hid (wr.ownsRow w.heap.size 3 1 (.slice A' n' c') n' (ints (keysL l))) := by have h := own.out; rw [hl1.out] at h; exact h
      have hln2 : Hid ((keysL l).length = n') := by have h := hln.out; rw [hl1.out] at h; exact h
      clear hjl own hln
      have hsort := hid (fun (ho : Own wr w.heap.size wr.heap.size 3 1 A' c' (keysL l).length (ints (keysL l))) => sort_any A' c' w.heap.size wr.heap.size (keysL l) wr ho (by rw [hln2.out]; omega))
      rw [hln2.out] at hsort
      obtain ⟨ks, hks⟩ : ∃ ks, ascL (keysL l) = ks := ⟨_, rfl⟩
      have Hks := hid hks
      have Hkl : Hid (ks.length = n') := by unfold Hid; rw [← hks, ascL_length]; exact hln2.out
      rw [hks] at hsort
      clear hks
      go_wp2_with fail
      refine (hsort.out (Own.of_row own2.out)).mono ?_; rintro e w4 ⟨rfl, o4, ch4⟩
      have hb4 := below_chg hb ch4 (Nat.le_refl _)
      have hz4 := ch4.size
      have hcomp := hid (fun (ho : Own w4 w.heap.size wr.heap.size 3 1 A' c' ks.length (ints ks)) => compact_any A' c' w.heap.size wr.heap.size ks w4 ho (by rw [Hkl.out]; omega))
      rw [Hkl.out] at hcomp
      have O4 := hid o4
      clear o4
      go_wp2_with fail
      refine (hcomp.out O4.out).mono ?_; rintro e w5 h5
      obtain ⟨he, o5, ch5⟩ := h5
      subst he
      have hb5 := below_chg hb4 ch5 (Nat.le_refl _)
      have hz5 := ch5.size
      have O5 := hid o5
      clear o5
      go_wp2_with fail
      go_ret
      rw [← Hkl.out] at *
      exact retZ_named Hks ⟨rfl, O5.out⟩ (Nat.le_refl _) (by omega) hb5

end Go.Proofs.Ytpnahccmdebifaa
