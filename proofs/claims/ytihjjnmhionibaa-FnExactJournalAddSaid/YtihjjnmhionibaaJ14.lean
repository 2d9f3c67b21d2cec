/- Marks on texts and on bools. -/
import Derived.Test.YtihjjnmhionibaaJ13
namespace Go.Proofs.Ytihjjnmhionibaa
open Go.RowKit

def upS (k n : Nat) : List ByteArray := (List.range n).map fun i => mtxt (k + i)
theorem upS_length (k n : Nat) : (upS k n).length = n := by simp [upS]
theorem upS_get (k n i : Nat) (h : i < n) : (upS k n)[i]? = some (mtxt (k + i)) := by simp [upS, List.getElem?_map, List.getElem?_range h]
theorem markS_step (k : Nat) (l : List ByteArray) (j : Nat) (h : j < l.length) :
    (strs ((upS k l.length).take j ++ l.drop j)).set j (.string (mtxt (k + j))) = strs ((upS k l.length).take (j + 1) ++ l.drop (j + 1)) := by
  have hl2 : ((upS k l.length).take j).length = j := by rw [List.length_take, upS_length]; omega
  rw [strs_set, List.set_append_right _ _ (by omega), hl2, Nat.sub_self, List.drop_eq_getElem_cons h, List.set_cons_zero, take_snoc _ _ _ (upS_get k l.length j h), List.append_assoc]
  rfl

set_option maxHeartbeats 1000000 in
theorem markStringS_any (A : Option Addr) (c lo hi : Nat) (l : List ByteArray) (k : Nat) (w : World) (ho : Own w lo hi 9 1 A c l.length (strs l)) (hm : l.length ≤ 1048577) (hk0 : 1 ≤ k) (hk : k ≤ 8796093022208) :
    Calls Try.prog 44 #[.slice A l.length c, .int .i64 k] w fun e w' => e = .returned (.int .i64 ((k : Int) + l.length)) ∧ Own w' lo hi 9 1 A c l.length (strs (upS k l.length)) ∧ Chg lo hi w w' := by
  go_enter Try.func44, Try.ntmps44
  go_wp2
  go_loopw [1, 5] (fun q i wr => ∃ j : Nat, j ≤ l.length ∧ i = .int .i64 j ∧ q = .int .i64 ((k : Int) + j) ∧ Hid (Own wr lo hi 9 1 A c l.length (strs ((upS k l.length).take j ++ l.drop j))) ∧ Chg lo hi w wr) (fun _ i _ => l.length - (intOf i).toNat)
  case atStart => exact ⟨0, Nat.zero_le _, rfl, by simp, by simpa [Hid] using ho, Chg.refl _ _ _⟩
  case round =>
    obtain ⟨j, hj, rfl, rfl, ho', hch⟩ := hrel
    by_cases hlt : j < l.length
    · have hl : j < (strs ((upS k l.length).take j ++ l.drop j)).length := by rw [strs_length]; simp [upS_length]; omega
      have hs2 := hid (markS_step k l j hlt)
      have hz : Hid ((k : Int) + j = ((k + j : Nat) : Int)) := by unfold Hid; omega
      clear ho
      go_wp2_with fail
      refine (markText_at (k + j) _ _ hz (by omega) (by omega)).mono ?_; rintro e w2 ⟨rfl, b2⟩
      have o1 := hid (ho'.out.below b2)
      obtain ⟨g, v, rfl, hlo, hhi, _, hc, hf⟩ := o1.out.at_ hl
      have hc2' := hch.trans (chg_of_below b2)
      clear ho' hl hch
      go_wp2
      go_roundw
      case rel => exact ⟨j + 1, by omega, by go_num, by go_num, by rw [← hs2.out]; exact o1.out.set _ _, hc2'.trans (chg_set _ hlo hhi _ _)⟩
      case measure => simp [intOf]; omega
    · obtain rfl : j = l.length := by omega
      have ho2 : Hid (Own wr lo hi 9 1 A c l.length (strs (upS k l.length))) := by
        have : (upS k l.length).take l.length = upS k l.length := List.take_of_length_le (by rw [upS_length]; exact Nat.le_refl _)
        simpa [this, Hid] using ho'.out
      clear ho' ho hlt
      go_wp2
      go_ret
      exact ⟨rfl, ho2.out, hch⟩

set_option maxHeartbeats 1000000 in
theorem heldStringS_any (A : Option Addr) (c n k : Nat) (w : World) (hA : Cells w A (strs (upS k n))) (hm : n ≤ 1048577) (hk0 : 1 ≤ k) (hk : k ≤ 8796093022208) :
    Calls Try.prog 46 #[.slice A n c, .int .i64 k] w fun e w' => e = .returned (.int .i64 ((k : Int) + n)) ∧ Below w.heap.size w w' := by
  go_enter Try.func46, Try.ntmps46
  go_wp2
  go_loopw [1, 5] (fun q i wr => ∃ j : Nat, j ≤ n ∧ i = .int .i64 j ∧ q = .int .i64 ((k : Int) + j) ∧ Below w.heap.size w wr) (fun _ i _ => n - (intOf i).toNat)
  case atStart => exact ⟨0, Nat.zero_le _, rfl, by simp, Below.refl _ _⟩
  case round =>
    obtain ⟨j, hj, rfl, rfl, hbel⟩ := hrel
    by_cases hlt : j < n
    · obtain ⟨b, off, rfl, hc⟩ := (hA.below hbel).cell_at (strs_get (upS_get k n j hlt))
      have hz : Hid ((k : Int) + j = ((k + j : Nat) : Int)) := by unfold Hid; omega
      clear hA
      go_wp2_with fail
      go_region_held3 (fun w' => w'.cell? ⟨b, off + j, none⟩ = some (.string (mtxt (k + j)))) ((first | exact hc | exact cell_later b5 hc)) ((go_at_call 63; refine (markText_at (k + j) _ _ hz (by omega) (by omega)).mono ?_; rintro e w5 ⟨rfl, b5⟩))
      go_wp2
      go_roundw
      case rel => exact ⟨j + 1, by omega, by go_num, by go_num, below_step hbel (below_step ((Below.refl _ _).drew) b5)⟩
      case measure => simp [intOf]; omega
    · obtain rfl : j = n := by omega
      go_wp2
      go_ret
      exact ⟨rfl, hbel⟩

end Go.Proofs.Ytihjjnmhionibaa
