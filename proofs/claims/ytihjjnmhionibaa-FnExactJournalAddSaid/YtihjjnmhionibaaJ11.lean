/- Marks on records. -/
import Derived.Test.YtihjjnmhionibaaJ10
namespace Go.Proofs.Ytihjjnmhionibaa
open Go.RowKit

def mtxt (k : Nat) : ByteArray := ⟨#[109]⟩ ++ mtF k k ⟨#[]⟩
theorem markText_at (k : Nat) (z : Int) (w : World) (hz : Hid (z = (k : Int))) (h0 : 1 ≤ k) (hk : k ≤ 17592186044416) :
    Calls Try.prog 63 #[.int .i64 z] w fun e w' => e = .returned (.string (mtxt k)) ∧ Below w.heap.size w w' := by
  have h := hz.out
  subst h
  exact markText_any k w h0 hk
/-- (k, text k+1), (k+2, text k+3), .. : n of them. -/
def upR (k : Nat) : Nat → List RecT
  | 0 => []
  | n + 1 => ((k : Int), mtxt (k + 1)) :: upR (k + 2) n
theorem upR_length (k n : Nat) : (upR k n).length = n := by
  induction n generalizing k with
  | zero => rfl
  | succ n ih => simp [upR, ih]
theorem upR_get (k n i : Nat) (h : i < n) : (upR k n)[i]? = some ((k : Int) + i * 2, mtxt (k + i * 2 + 1)) := by
  induction n generalizing k i with
  | zero => omega
  | succ n ih =>
    rcases i with _ | i
    · simp [upR]
    · simp only [upR, List.getElem?_cons_succ]
      rw [ih (k + 2) i (by omega), show k + 2 + i * 2 = k + (i + 1) * 2 by omega, show ((k + 2 : Nat) : Int) + (i : Int) * 2 = (k : Int) + ((i + 1 : Nat) : Int) * 2 by omega]
theorem markR_step (k : Nat) (l : List RecT) (j : Nat) (h : j < l.length) :
    ((recs ((upR k l.length).take j ++ l.drop j)).set (j * 2) (.int .i64 ((k : Int) + j * 2))).set (j * 2 + 1) (.string (mtxt (k + j * 2 + 1))) = recs ((upR k l.length).take (j + 1) ++ l.drop (j + 1)) := by
  have hl2 : ((upR k l.length).take j).length = j := by rw [List.length_take, upR_length]; omega
  rw [recs_set _ j ((k : Int) + j * 2, mtxt (k + j * 2 + 1)), List.set_append_right _ _ (by omega), hl2, Nat.sub_self, List.drop_eq_getElem_cons h, List.set_cons_zero, take_snoc _ _ _ (upR_get k l.length j h), List.append_assoc]
  rfl
theorem chg_of_below {lo hi : Nat} {w w' : World} (h : Below w.heap.size w w') : Chg lo hi w w' := ⟨h.os, h.tape, h.output, h.size, fun k hk _ => h.block k hk⟩

set_option maxHeartbeats 1000000 in
theorem markRecordS_any (A : Option Addr) (c lo hi : Nat) (l : List RecT) (k : Nat) (w : World) (ho : Own w lo hi 35 2 A c l.length (recs l)) (hm : l.length ≤ 1048577) (hk0 : 1 ≤ k) (hk : k ≤ 8796093022208) :
    Calls Try.prog 61 #[.slice A l.length c, .int .i64 k] w fun e w' => e = .returned (.int .i64 ((k : Int) + l.length * 2)) ∧ Own w' lo hi 35 2 A c l.length (recs (upR k l.length)) ∧ Chg lo hi w w' := by
  go_enter Try.func61, Try.ntmps61
  go_wp2
  go_loopw [1, 5] (fun q i wr => ∃ j : Nat, j ≤ l.length ∧ i = .int .i64 j ∧ q = .int .i64 ((k : Int) + j * 2) ∧ Hid (Own wr lo hi 35 2 A c l.length (recs ((upR k l.length).take j ++ l.drop j))) ∧ Chg lo hi w wr) (fun _ i _ => l.length - (intOf i).toNat)
  case atStart => exact ⟨0, Nat.zero_le _, rfl, by simp, by simpa [Hid] using ho, Chg.refl _ _ _⟩
  case round =>
    obtain ⟨j, hj, rfl, rfl, ho', hch⟩ := hrel
    by_cases hlt : j < l.length
    · have hl : j * 2 < (recs ((upR k l.length).take j ++ l.drop j)).length := by rw [recs_length]; simp [upR_length]; omega
      have hl1 : j * 2 + 1 < (recs ((upR k l.length).take j ++ l.drop j)).length := by rw [recs_length]; simp [upR_length]; omega
      obtain ⟨g, v, rfl, hlo, hhi, _, hc, hf⟩ := ho'.out.at_ hl
      have hs2 := hid (markR_step k l j hlt)
      have hz : Hid ((k : Int) + j * 2 + 1 = ((k + j * 2 + 1 : Nat) : Int)) := by unfold Hid; omega
      clear ho hl
      go_wp2_with fail
      refine (markText_at (k + j * 2 + 1) _ _ hz (by omega) (by omega)).mono ?_; rintro e w2 ⟨rfl, b2⟩
      have o1 := hid ((ho'.out.sets (j * 2) (.int .i64 ((k : Int) + j * 2))).below b2)
      obtain ⟨g2, v2, hA, _, _, _, hc2, hf2⟩ := o1.out.at_ (show j * 2 + 1 < _ by rw [List.length_set]; exact hl1)
      injection hA with hA; injection hA with hA; subst hA
      have hc2' := hch.trans ((chg_set wr hlo hhi (j * 2) (.int .i64 ((k : Int) + j * 2))).trans (chg_of_below b2))
      clear ho' hl1 hc hf hch
      go_wp2
      go_roundw
      case rel => exact ⟨j + 1, by omega, by go_num, by go_num, by rw [← hs2.out]; exact o1.out.sets _ _, hc2'.trans (chg_set _ hlo hhi _ _)⟩
      case measure => simp [intOf]; omega
    · obtain rfl : j = l.length := by omega
      have ho2 : Hid (Own wr lo hi 35 2 A c l.length (recs (upR k l.length))) := by
        have : (upR k l.length).take l.length = upR k l.length := List.take_of_length_le (by rw [upR_length]; exact Nat.le_refl _)
        simpa [this, Hid] using ho'.out
      clear ho' ho hlt
      go_wp2
      go_ret
      exact ⟨rfl, ho2.out, hch⟩

set_option maxHeartbeats 1000000 in
theorem heldRecordS_any (A : Option Addr) (c n k : Nat) (w : World) (hA : Cells w A (recs (upR k n))) (hm : n ≤ 1048577) (hk0 : 1 ≤ k) (hk : k ≤ 8796093022208) :
    Calls Try.prog 62 #[.slice A n c, .int .i64 k] w fun e w' => e = .returned (.int .i64 ((k : Int) + n * 2)) ∧ Below w.heap.size w w' := by
  go_enter Try.func62, Try.ntmps62
  go_wp2
  go_loopw [1, 5] (fun q i wr => ∃ j : Nat, j ≤ n ∧ i = .int .i64 j ∧ q = .int .i64 ((k : Int) + j * 2) ∧ Below w.heap.size w wr) (fun _ i _ => n - (intOf i).toNat)
  case atStart => exact ⟨0, Nat.zero_le _, rfl, by simp, Below.refl _ _⟩
  case round =>
    obtain ⟨j, hj, rfl, rfl, hbel⟩ := hrel
    by_cases hlt : j < n
    · obtain ⟨b, off, rfl, hc, hc1⟩ := (hA.below hbel).rec_of (upR_get k n j hlt)
      have hz : Hid ((k : Int) + j * 2 + 1 = ((k + j * 2 + 1 : Nat) : Int)) := by unfold Hid; omega
      clear hA
      go_wp2_with fail
      go_region_held3 (fun w' => w'.cell? ⟨b, off + j * 2 + 1, none⟩ = some (.string (mtxt (k + j * 2 + 1)))) ((first | exact hc1 | exact cell_later b5 hc1)) ((go_at_call 63; refine (markText_at (k + j * 2 + 1) _ _ hz (by omega) (by omega)).mono ?_; rintro e w5 ⟨rfl, b5⟩))
      go_wp2
      go_roundw
      case rel => exact ⟨j + 1, by omega, by go_num, by go_num, below_step hbel (below_step ((Below.refl _ _).drew) b5)⟩
      case measure => simp [intOf]; omega
    · obtain rfl : j = n := by omega
      go_wp2
      go_ret
      exact ⟨rfl, hbel⟩

end Go.Proofs.Ytihjjnmhionibaa
