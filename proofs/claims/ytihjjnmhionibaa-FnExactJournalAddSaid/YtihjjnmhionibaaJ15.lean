/- Marks on bools; the comparison of journals in laws.go. -/
import Derived.Test.YtihjjnmhionibaaJ14
namespace Go.Proofs.Ytihjjnmhionibaa
open Go.RowKit

def upB (k n : Nat) : List Bool := (List.range n).map fun i => decide ((k + i) % 3 = 0)
theorem upB_length (k n : Nat) : (upB k n).length = n := by simp [upB]
theorem upB_get (k n i : Nat) (h : i < n) : (upB k n)[i]? = some (decide ((k + i) % 3 = 0)) := by simp [upB, List.getElem?_map, List.getElem?_range h]
theorem markB_step (k : Nat) (l : List Bool) (j : Nat) (h : j < l.length) {b : Bool} (hb : b = decide ((k + j) % 3 = 0)) :
    (bools ((upB k l.length).take j ++ l.drop j)).set j (.bool b) = bools ((upB k l.length).take (j + 1) ++ l.drop (j + 1)) := by
  subst hb
  have hl2 : ((upB k l.length).take j).length = j := by rw [List.length_take, upB_length]; omega
  rw [bools_set, List.set_append_right _ _ (by omega), hl2, Nat.sub_self, List.drop_eq_getElem_cons h, List.set_cons_zero, take_snoc _ _ _ (upB_get k l.length j h), List.append_assoc]
  rfl

set_option maxHeartbeats 1000000 in
theorem markBoolS_any (A : Option Addr) (c lo hi : Nat) (l : List Bool) (k : Nat) (w : World) (ho : Own w lo hi 4 1 A c l.length (bools l)) (hm : l.length ≤ 1048577) (hk : k ≤ 8796093022208) :
    Calls Try.prog 45 #[.slice A l.length c, .int .i64 k] w fun e w' => e = .returned (.int .i64 ((k : Int) + l.length)) ∧ Own w' lo hi 4 1 A c l.length (bools (upB k l.length)) ∧ Chg lo hi w w' := by
  go_enter Try.func45, Try.ntmps45
  go_wp2
  go_loopw [1, 5] (fun q i wr => ∃ j : Nat, j ≤ l.length ∧ i = .int .i64 j ∧ q = .int .i64 ((k : Int) + j) ∧ Hid (Own wr lo hi 4 1 A c l.length (bools ((upB k l.length).take j ++ l.drop j))) ∧ Chg lo hi w wr) (fun _ i _ => l.length - (intOf i).toNat)
  case atStart => exact ⟨0, Nat.zero_le _, rfl, by simp, by simpa [Hid] using ho, Chg.refl _ _ _⟩
  case round =>
    obtain ⟨j, hj, rfl, rfl, ho', hch⟩ := hrel
    by_cases hlt : j < l.length
    · have hl : j < (bools ((upB k l.length).take j ++ l.drop j)).length := by rw [bools_length]; simp [upB_length]; omega
      obtain ⟨g, v, rfl, hlo, hhi, _, hc, hf⟩ := ho'.out.at_ hl
      clear ho hl
      go_wp2
      go_roundw
      case rel => exact ⟨j + 1, by omega, by go_num, by go_num, by (rw [← markB_step k l j hlt (b := ((k : Int) + j) % 3 == 0) (by apply Bool.eq_iff_iff.2; simp; omega)]; exact ho'.out.set _ _), hch.trans (chg_set _ hlo hhi _ _)⟩
      case measure => simp [intOf]; omega
    · obtain rfl : j = l.length := by omega
      have ho2 : Hid (Own wr lo hi 4 1 A c l.length (bools (upB k l.length))) := by
        have : (upB k l.length).take l.length = upB k l.length := List.take_of_length_le (by rw [upB_length]; exact Nat.le_refl _)
        simpa [this, Hid] using ho'.out
      clear ho' ho hlt
      go_wp2
      go_ret
      exact ⟨rfl, ho2.out, hch⟩

set_option maxHeartbeats 1000000 in
theorem heldBoolS_any (A : Option Addr) (c n k : Nat) (w : World) (hA : Cells w A (bools (upB k n))) (hm : n ≤ 1048577) (hk : k ≤ 8796093022208) :
    Calls Try.prog 47 #[.slice A n c, .int .i64 k] w fun e w' => e = .returned (.int .i64 ((k : Int) + n)) ∧ Below w.heap.size w w' := by
  go_enter Try.func47, Try.ntmps47
  go_wp2
  go_loopw [1, 5] (fun q i wr => ∃ j : Nat, j ≤ n ∧ i = .int .i64 j ∧ q = .int .i64 ((k : Int) + j) ∧ Below w.heap.size w wr) (fun _ i _ => n - (intOf i).toNat)
  case atStart => exact ⟨0, Nat.zero_le _, rfl, by simp, Below.refl _ _⟩
  case round =>
    obtain ⟨j, hj, rfl, rfl, hbel⟩ := hrel
    by_cases hlt : j < n
    · obtain ⟨b, off, rfl, hc⟩ := (hA.below hbel).cell_at (bools_get (upB_get k n j hlt))
      rw [show decide ((k + j) % 3 = 0) = (((k : Int) + j) % 3 == 0) by apply Bool.eq_iff_iff.2; simp; omega] at hc
      clear hA
      go_wp2
      go_roundw
      case rel => exact ⟨j + 1, by omega, by go_num, by go_num, hbel⟩
      case measure => simp [intOf]; omega
    · obtain rfl : j = n := by omega
      go_wp2
      go_ret
      exact ⟨rfl, hbel⟩

end Go.Proofs.Ytihjjnmhionibaa
