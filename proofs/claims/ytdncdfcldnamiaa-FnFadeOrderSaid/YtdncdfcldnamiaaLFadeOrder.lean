/- laws.FnFadeOrder: the walk. -/
import Derived.Test.YtdncdfcldnamiaaLFade
namespace Go.Proofs.Ytdncdfcldnamiaa
open Go.RowKit

theorem fadeL_get {zs : List Int} {k : Nat} (hk : k < (fadeL zs).length) : ∃ z, zs[k]? = some z ∧ (fadeL zs)[k]? = some (z / 2) := by
  have hne : fadeL zs ≠ [] := by intro h; rw [h] at hk; simp at hk
  have h := (fadeL_some hne).2
  rw [h] at hk ⊢
  have hk2 : k < zs.length := by simpa using hk
  exact ⟨zs[k], List.getElem?_eq_getElem hk2, by rw [List.getElem?_map, List.getElem?_eq_getElem hk2]; rfl⟩

set_option maxHeartbeats 1000000 in
theorem fadeOrder_walk (A : Option Addr) (c : Nat) (us : List Int) (w : World) (hr : Cells w A (bytes us)) (hu : ∀ u ∈ us, 0 ≤ u ∧ u ≤ 255) (hc : us.length ≤ c) :
    Calls Try.prog 6 #[.slice A us.length c] w (RetB w true) := by
  have Hu := hid hu
  clear hu
  by_cases h20 : 1048576 < us.length
  · go_enter Try.func6, Try.ntmps6
    go_wp2
    go_ret
    exact ⟨rfl, Below.refl _ _⟩
  · have hm : us.length ≤ 17592186044416 := by omega
    have hd : decide ((1048576 : Int) < (us.length : Int)) = false := by simp; omega
    clear h20
    go_enter Try.func6, Try.ntmps6
    go_wp2_with fail
    refine (drawFade_any _ _ _ _ hr Hu.out hc hm).mono ?_
    rintro e w1 ⟨A1, c1, zs, rfl, hl, o1, b1⟩
    clear hr hc hm hd
    have hm : zs.length ≤ 17592186044416 := by omega
    have hf : (fadeL zs).length ≤ 17592186044416 := by unfold fadeL; split <;> simp; omega
    go_wp2_with fail
    refine (implFade_any _ _ _ _ o1.cells hm).mono ?_; rintro e w2 ⟨A2, c2, rfl, o2, b2⟩
    go_wp2_with fail
    refine (specFade_any _ _ _ _ (o1.below b2).cells hm).mono ?_; rintro e w3 ⟨A3, c3, rfl, o3, b3⟩
    go_wp2_with fail
    refine (sameInts_true _ _ _ _ _ _ (o2.below b3).cells o3.cells hf).mono ?_; rintro e w4 ⟨rfl, b4⟩
    have t4 := below_step (below_step (below_step b1 b2) b3) b4
    have hg4 := (((o1.below b2).below b3).below b4).cells
    have ho4 := ((o2.below b3).below b4).cells
    have hz : Hid (∀ z ∈ zs, 0 ≤ z → True) := fun _ _ _ => trivial
    have hval : Hid (∀ (k : Nat) (z : Int), k < (fadeL zs).length → zs[k]? = some z → 0 ≤ z ∧ z ≤ 99) := by
      intro k z hk h
      have hne : fadeL zs ≠ [] := by intro h; rw [h] at hk; simp at hk
      exact givenB_at (fadeL_some hne).1 z (List.mem_of_getElem? h)
    clear hz o1 o2 o3 b1 b2 b3 b4
    go_wp2_with fail
    go_loopw [6] (fun i wr => ∃ k : Nat, k ≤ (fadeL zs).length ∧ i = .int .i64 k ∧ ∃ n, wr = w4.drewN n) (fun i _ => (fadeL zs).length - (intOf i).toNat)
    case atStart => exact ⟨0, Nat.zero_le _, rfl, 0, rfl⟩
    case round =>
      obtain ⟨k, hk, rfl, n, rfl⟩ := hrel
      by_cases hlt : k < (fadeL zs).length
      · obtain ⟨z, hz, hz2⟩ := fadeL_get hlt
        have Hz := hid hz
        have Hz2 := hid hz2
        obtain ⟨b, off, rfl, hcz⟩ := hg4.int_of hz
        obtain ⟨b', off', rfl, hcz2⟩ := ho4.int_of hz2
        have hz0 := (hval.out k z hlt hz).1
        have hz1 := (hval.out k z hlt hz).2
        have hkz : k < zs.length := (List.getElem?_eq_some_iff.1 hz).1
        clear hz hz2
        go_wp2
        go_loopw [7] (fun i wr => ∃ q : Nat, q ≤ (fadeL zs).length ∧ i = .int .i64 q ∧ ∃ n, wr = w4.drewN n) (fun i _ => (fadeL zs).length - (intOf i).toNat)
        case atStart => exact ⟨0, Nat.zero_le _, rfl, n, rfl⟩
        case round =>
          obtain ⟨q, hq, rfl, n2, rfl⟩ := hrel
          by_cases hlq : q < (fadeL zs).length
          · obtain ⟨y, hy, hy2⟩ := fadeL_get hlq
            have Hy := hid hy
            have Hy2 := hid hy2
            obtain ⟨_, _, hA, hcy⟩ := hg4.int_of hy
            injection hA with hA; injection hA with hA1 hA2; subst hA1; subst hA2
            obtain ⟨_, _, hA, hcy2⟩ := ho4.int_of hy2
            injection hA with hA; injection hA with hA1 hA2; subst hA1; subst hA2
            have hy0 := (hval.out q y hlq hy).1
            have hy1 := (hval.out q y hlq hy).2
            have hqz : q < zs.length := (List.getElem?_eq_some_iff.1 hy).1
            clear hy hy2
            have hno : y ≤ z → decide (z / 2 < y / 2) = false := by intro h; simp; omega
            by_cases hyz : y ≤ z
            · have h1 : decide (y ≤ z) = true := by simpa using hyz
              have h2 := hno hyz
              clear hno hyz
              go_wp2
              go_quiet (fail)
              go_wp2
              go_roundw
              case rel => exact ⟨q + 1, by omega, by go_num, _, rfl⟩
              case measure => simp [intOf]; omega
            · have h1 : decide (y ≤ z) = false := by simpa using hyz
              clear hno hyz
              go_wp2
              go_quiet (fail)
              go_wp2
              go_roundw
              case rel => exact ⟨q + 1, by omega, by go_num, _, rfl⟩
              case measure => simp [intOf]; omega
          · go_wp2
            go_roundw
            case rel => exact ⟨k + 1, by omega, by go_num, _, rfl⟩
            case measure => simp [intOf]; omega
      · go_wp2
        go_ret
        exact ⟨rfl, below_drewN t4 n⟩

end Go.Proofs.Ytdncdfcldnamiaa
