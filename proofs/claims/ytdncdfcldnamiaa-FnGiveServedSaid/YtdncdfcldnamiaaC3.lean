/- Contracts of ChokeGive. -/
import Derived.Test.YtdncdfcldnamiaaC2
namespace Go.Proofs.Ytdncdfcldnamiaa
open Go.RowKit

/-- A slice of ints in new memory and a bool. -/
def RetIntsB (w : World) (r : List Int × Bool) (e : Ending) (w' : World) : Prop :=
  ∃ A c, e = .returned (.tuple #[.slice A r.1.length c, .bool r.2]) ∧ Own w' w.heap.size w'.heap.size 3 1 A c r.1.length (ints r.1) ∧ Below w.heap.size w w'

def giveL (zs : List Int) (p : Int) : List Int × Bool :=
  if givenB zs && inB p 0 ((zs.length : Int) - 1) then (if zs.getD p.toNat 0 = 99 then (zs, false) else (zs.set p.toNat (zs.getD p.toNat 0 + 1), true)) else ([], false)
theorem giveL_bad {zs : List Int} {p : Int} (h : (givenB zs && inB p 0 ((zs.length : Int) - 1)) = false) : giveL zs p = ([], false) := by simp [giveL, h]
theorem giveL_full {zs : List Int} {k : Nat} (hv : givenB zs = true) (hz : zs[k]? = some 99) : giveL zs k = (zs, false) := by
  have hk : k < zs.length := (List.getElem?_eq_some_iff.1 hz).1
  have hb : inB (k : Int) 0 ((zs.length : Int) - 1) = true := by simp [inB]; omega
  simp [giveL, hv, hb, List.getD_eq_getElem?_getD, hz]
theorem giveL_more {zs : List Int} {k : Nat} {z : Int} (hv : givenB zs = true) (hz : zs[k]? = some z) (h : z ≠ 99) : giveL zs k = (zs.set k (z + 1), true) := by
  have hk : k < zs.length := (List.getElem?_eq_some_iff.1 hz).1
  have hb : inB (k : Int) 0 ((zs.length : Int) - 1) = true := by simp [inB]; omega
  simp [giveL, hv, hb, List.getD_eq_getElem?_getD, hz, h]

set_option maxHeartbeats 400000 in
theorem implGive_any (A : Option Addr) (c : Nat) (zs : List Int) (p : Int) (w : World) (hr : Cells w A (ints zs)) (hm : zs.length ≤ 17592186044416) :
    Calls Try.prog 24 #[.slice A zs.length c, .int .i64 p] w (RetIntsB w (giveL zs p)) := by
  cases hv : givenB zs
  · have hfin := hid (giveL_bad (zs := zs) (p := p) (by rw [hv]; rfl))
    go_enter Try.func24, Try.ntmps24
    go_wp2_with (go_at_call 36; refine (givenValid_any _ _ _ _ hr hm).mono ?_; rintro e w' ⟨rfl, rfl⟩)
    go_ret2
    rw [hfin.out]
    exact ⟨none, 0, rfl, Own.of_row (World.ownsRow_nil _ _ _ _), Below.refl _ _⟩
  · cases hi : inB p 0 ((zs.length : Int) - 1)
    · have hfin := hid (giveL_bad (zs := zs) (p := p) (by rw [hv, hi]; rfl))
      go_enter Try.func24, Try.ntmps24
      go_wp2_with (first | (go_at_call 36; refine (givenValid_any _ _ _ _ hr hm).mono ?_; rintro e w' ⟨rfl, rfl⟩) | (go_at_call 38; refine (within_any _ _ _ _).mono ?_; rintro e w' ⟨rfl, rfl⟩))
      go_ret2
      rw [hfin.out]
      exact ⟨none, 0, rfl, Own.of_row (World.ownsRow_nil _ _ _ _), Below.refl _ _⟩
    · have hp : 0 ≤ p ∧ p ≤ (zs.length : Int) - 1 := by simpa [inB] using hi
      obtain ⟨k, rfl⟩ := Int.eq_ofNat_of_zero_le hp.1
      have hk : k < zs.length := by omega
      clear hp
      have hb := givenB_at hv
      have hl6 := givenB_len hv
      obtain ⟨b, off, z, rfl, hz, hc⟩ := hr.int_at hk
      have hz0 := (hb z (List.mem_of_getElem? hz.out)).1
      have hz1 := (hb z (List.mem_of_getElem? hz.out)).2
      clear hb
      by_cases h99 : z = 99
      · subst h99
        have hfin := hid (giveL_full hv hz.out)
        go_enter Try.func24, Try.ntmps24
        go_wp2_with (first | (go_at_call 36; refine (givenValid_any _ _ _ _ hr hm).mono ?_; rintro e w' ⟨rfl, rfl⟩) | (go_at_call 38; refine (within_any _ _ _ _).mono ?_; rintro e w' ⟨rfl, rfl⟩) | (go_at_call 39; refine (cloneInt_any _ _ _ _ hr hm).mono ?_; rintro e w1 ⟨A1, c1, rfl, o1, b1⟩; have hc1 := cell_later b1 hc))
        go_ret2
        rw [hfin.out]
        exact ⟨_, _, rfl, o1, b1⟩
      · have hne : (z == 99) = false := by simpa using h99
        have hfin := hid (giveL_more hv hz.out h99)
        have hlen := hid (show (zs.set k (z + 1)).length = zs.length from List.length_set)
        go_enter Try.func24, Try.ntmps24
        go_wp2_with (first | (go_at_call 36; refine (givenValid_any _ _ _ _ hr hm).mono ?_; rintro e w' ⟨rfl, rfl⟩) | (go_at_call 38; refine (within_any _ _ _ _).mono ?_; rintro e w' ⟨rfl, rfl⟩) | (go_at_call 39; refine (cloneInt_any _ _ _ _ hr hm).mono ?_; rintro e w1 ⟨A1, c1, rfl, o1, b1⟩; have hc1 := cell_later b1 hc; obtain ⟨g, rfl, hlo, hhi, hcg, hfg⟩ := o1.int_of hz.out; have o2 := hid o1; clear o1))
        go_ret2
        rw [hfin.out]
        refine ⟨some ⟨g, 0, none⟩, c1, by rw [hlen.out]; rfl, ?_, b1.setCell hlo _⟩
        rw [← ints_set, hlen.out]
        exact (o2.out.set _ _).weak (Nat.le_refl _) (by simp)

set_option maxHeartbeats 400000 in
theorem specGive_any (A : Option Addr) (c : Nat) (zs : List Int) (p : Int) (w : World) (hr : Cells w A (ints zs)) (hm : zs.length ≤ 17592186044416) :
    Calls Try.prog 23 #[.slice A zs.length c, .int .i64 p] w (RetIntsB w (giveL zs p)) := by
  cases hv : givenB zs
  · have hfin := hid (giveL_bad (zs := zs) (p := p) (by rw [hv]; rfl))
    go_enter Try.func23, Try.ntmps23
    go_wp2_with (go_at_call 35; refine (l23Given_any _ _ _ _ hr hm).mono ?_; rintro e w' ⟨rfl, rfl⟩)
    go_ret2
    rw [hfin.out]
    exact ⟨_, _, rfl, Own.of_row (own_empty _ _ _ (Nat.le_refl _)), (Below.refl _ _).alloc (Nat.le_refl _) _⟩
  · cases hi : inB p 0 ((zs.length : Int) - 1)
    · have hfin := hid (giveL_bad (zs := zs) (p := p) (by rw [hv, hi]; rfl))
      go_enter Try.func23, Try.ntmps23
      go_wp2_with (first | (go_at_call 35; refine (l23Given_any _ _ _ _ hr hm).mono ?_; rintro e w' ⟨rfl, rfl⟩) | (go_at_call 37; refine (l6In_any _ _ _ _).mono ?_; rintro e w' ⟨rfl, rfl⟩))
      go_ret2
      rw [hfin.out]
      exact ⟨_, _, rfl, Own.of_row (own_empty _ _ _ (Nat.le_refl _)), (Below.refl _ _).alloc (Nat.le_refl _) _⟩
    · have hp : 0 ≤ p ∧ p ≤ (zs.length : Int) - 1 := by simpa [inB] using hi
      obtain ⟨k, rfl⟩ := Int.eq_ofNat_of_zero_le hp.1
      have hk : k < zs.length := by omega
      clear hp
      have hb := givenB_at hv
      have hl6 := givenB_len hv
      obtain ⟨b, off, z, rfl, hz, hc⟩ := hr.int_at hk
      have hz0 := (hb z (List.mem_of_getElem? hz.out)).1
      have hz1 := (hb z (List.mem_of_getElem? hz.out)).2
      clear hb
      have hr2 := hr.below ((Below.refl _ _).alloc (Nat.le_refl _) (.cells #[] 3))
      by_cases h99 : z = 99
      · subst h99
        have hfin := hid (giveL_full hv hz.out)
        go_enter Try.func23, Try.ntmps23
        go_wp2_with (first | (go_at_call 35; refine (l23Given_any _ _ _ _ hr hm).mono ?_; rintro e w' ⟨rfl, rfl⟩) | (go_at_call 37; refine (l6In_any _ _ _ _).mono ?_; rintro e w' ⟨rfl, rfl⟩) | (at_builtin; refine wpList_app rfl (.tmp 19) (.tmp 20) 22 rfl w.heap.size Try.underlying22 info_int rfl (by omega) (by omega) _ 0 0 _ rfl (own_empty _ _ _ (Nat.le_refl _)) (some ⟨b, off, none⟩) zs.length c (ints zs) rfl (by rw [ints_length]; omega) hr2 (ints_one _) zs.length (ints zs) (by omega) rfl (by omega) (by simp) ?_; intro A1 c1 w1 o1 b1'; have b1 := ((Below.refl w.heap.size w).alloc (Nat.le_refl _) (.cells #[] 3)).trans b1'; have hc1 := cell_later b1 hc; clear b1'))
        go_ret2
        rw [hfin.out]
        exact ⟨_, _, rfl, Own.of_row o1, b1⟩
      · have hne : (z == 99) = false := by simpa using h99
        have hlt : z < 99 := by omega
        have hfin := hid (giveL_more hv hz.out h99)
        have hlen := hid (show (zs.set k (z + 1)).length = zs.length from List.length_set)
        clear h99
        go_enter Try.func23, Try.ntmps23
        go_wp2_with (first | (go_at_call 35; refine (l23Given_any _ _ _ _ hr hm).mono ?_; rintro e w' ⟨rfl, rfl⟩) | (go_at_call 37; refine (l6In_any _ _ _ _).mono ?_; rintro e w' ⟨rfl, rfl⟩) | (at_builtin; refine wpList_app rfl (.tmp 19) (.tmp 20) 22 rfl w.heap.size Try.underlying22 info_int rfl (by omega) (by omega) _ 0 0 _ rfl (own_empty _ _ _ (Nat.le_refl _)) (some ⟨b, off, none⟩) zs.length c (ints zs) rfl (by rw [ints_length]; omega) hr2 (ints_one _) zs.length (ints zs) (by omega) rfl (by omega) (by simp) ?_; intro A1 c1 w1 o1' b1'; have b1 := ((Below.refl w.heap.size w).alloc (Nat.le_refl _) (.cells #[] 3)).trans b1'; have hc1 := cell_later b1 hc; have o1 := Own.of_row o1'; clear b1' o1'; obtain ⟨g, rfl, hlo, hhi, hcg, hfg⟩ := o1.int_of hz.out; have o2 := hid o1; clear o1))
        go_ret2
        rw [hfin.out]
        refine ⟨some ⟨g, 0, none⟩, c1, by rw [hlen.out]; rfl, ?_, b1.setCell hlo _⟩
        rw [← ints_set, hlen.out]
        exact (o2.out.set _ _).weak (Nat.le_refl _) (by simp)

end Go.Proofs.Ytdncdfcldnamiaa
