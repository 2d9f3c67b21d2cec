/- laws.FnFade, FnFadeOrder: the walks. -/
import Derived.Test.YtdncdfcldnamiaaC2
import Derived.Test.YtdncdfcldnamiaaC4
import Derived.Test.YtdncdfcldnamiaaDrawC
namespace Go.Proofs.Ytdncdfcldnamiaa
open Go.RowKit

theorem fadeL_some {zs : List Int} (h : fadeL zs ≠ []) : givenB zs = true ∧ fadeL zs = zs.map (· / 2) := by
  unfold fadeL at h ⊢
  split
  · rename_i hv; exact ⟨hv, rfl⟩
  · rename_i hv; simp [hv] at h
theorem fade_valid {zs : List Int} (h : givenB zs = true) : givenB (zs.map (· / 2)) = true := by
  have h1 := givenB_at h
  have h2 := givenB_len h
  unfold givenB
  simp only [Bool.and_eq_true, List.all_eq_true, decide_eq_true_eq, List.length_map, List.mem_map]
  refine ⟨?_, h2⟩
  rintro x ⟨z, hz, rfl⟩
  have := h1 z hz
  simp [inB]; omega
theorem fade_bound {k : Nat} (hk : k < 6) {z : Int} (h : z ≤ 99 / 2 ^ (k + 1)) : z / 2 ≤ 99 / 2 ^ (k + 1 + 1) := by
  have : k = 0 ∨ k = 1 ∨ k = 2 ∨ k = 3 ∨ k = 4 ∨ k = 5 := by omega
  rcases this with rfl | rfl | rfl | rfl | rfl | rfl <;> simp at h ⊢ <;> omega

/-- What the numbers have come to after k more fadings. -/
def Faded (n k : Nat) (xs : List Int) : Prop := givenB xs = true ∧ xs.length = n ∧ ∀ z ∈ xs, z ≤ 99 / 2 ^ (k + 1)
theorem Faded.start {zs : List Int} (h : givenB zs = true) : Faded zs.length 0 (zs.map (· / 2)) :=
  ⟨fade_valid h, by simp, fun z hz => by
    obtain ⟨y, hy, rfl⟩ := List.mem_map.1 hz
    have := givenB_at h y hy
    simp; omega⟩
theorem Faded.next {n k : Nat} {xs : List Int} (h : Faded n k xs) (hk : k < 6) : fadeL xs = xs.map (· / 2) ∧ Faded n (k + 1) (xs.map (· / 2)) := by
  refine ⟨by simp [fadeL, h.1], fade_valid h.1, by simp [h.2.1], fun z hz => ?_⟩
  obtain ⟨y, hy, rfl⟩ := List.mem_map.1 hz
  exact fade_bound hk (h.2.2 y hy)
theorem Faded.zero {n : Nat} {xs : List Int} (h : Faded n 6 xs) {k : Nat} {z : Int} (hz : xs[k]? = some z) : z = 0 := by
  have h1 := h.2.2 z (List.mem_of_getElem? hz)
  have h2 := (givenB_at h.1 z (List.mem_of_getElem? hz)).1
  simp at h1; omega

set_option maxHeartbeats 1000000 in
theorem fade_walk (A : Option Addr) (c : Nat) (us : List Int) (w : World) (hr : Cells w A (bytes us)) (hu : ∀ u ∈ us, 0 ≤ u ∧ u ≤ 255) (hc : us.length ≤ c) :
    Calls Try.prog 5 #[.slice A us.length c] w (RetB w true) := by
  have Hu := hid hu
  clear hu
  by_cases h20 : 1048576 < us.length
  · go_enter Try.func5, Try.ntmps5
    go_wp2
    go_ret
    exact ⟨rfl, Below.refl _ _⟩
  · have hm : us.length ≤ 17592186044416 := by omega
    have hd : decide ((1048576 : Int) < (us.length : Int)) = false := by simp; omega
    clear h20
    go_enter Try.func5, Try.ntmps5
    go_wp2_with fail
    refine (drawFade_any _ _ _ _ hr Hu.out hc hm).mono ?_
    rintro e w1 ⟨A1, c1, zs, rfl, hl, o1, b1⟩
    clear hr hc hm hd
    have hm : zs.length ≤ 17592186044416 := by omega
    have hf : (fadeL zs).length ≤ 17592186044416 := by unfold fadeL; split <;> simp; omega
    go_wp2_with fail
    refine (implFade_any _ _ _ _ o1.cells hm).mono ?_; rintro e w2 ⟨A2, c2, rfl, o2, b2⟩
    go_wp2_with fail
    refine (specFade_any _ _ _ _ (o1.below b2).cells hm).mono ?_; rintro e w3 ⟨A3, c3, rfl, o3, b3⟩
    go_wp2_with fail
    refine (sameInts_true _ _ _ _ _ _ (o2.below b3).cells o3.cells hf).mono ?_; rintro e w4 ⟨rfl, b4⟩
    have t4 := below_step (below_step (below_step b1 b2) b3) b4
    have hg4 := (((o1.below b2).below b3).below b4).cells
    have ho4 := ((o2.below b3).below b4).cells
    have hw4 := (o3.below b4).cells
    by_cases hne : fadeL zs = []
    · have hlen : ((fadeL zs).length : Int) == 0 := by rw [hne]; rfl
      have Hne := hid hne
      clear hne
      go_wp2_with fail
      refine (sameInts_true _ _ _ _ _ _ ho4 hw4 hf).mono ?_; rintro e w5 ⟨rfl, b5⟩
      go_wp2_with fail
      go_ret
      exact ⟨rfl, below_step t4 b5⟩
    · obtain ⟨hv, hfe⟩ := fadeL_some hne
      have hlen : (((fadeL zs).length : Int) == 0) = false := by rw [beq_eq_false_iff_ne]; intro h; exact hne (List.eq_nil_of_length_eq_zero (by omega))
      have hfl : Hid ((fadeL zs).length = zs.length) := by rw [hfe]; simp [Hid]
      have hstart := hid (Faded.start hv)
      have hb := hid (givenB_at hv)
      have Hfe := hid hfe
      clear hne hfe hw4
      go_wp2_with fail
      go_loopw [7] (fun i wr => ∃ k : Nat, k ≤ zs.length ∧ i = .int .i64 k ∧ ∃ n, wr = w4.drewN n) (fun i _ => zs.length - (intOf i).toNat)
      case atStart => exact ⟨0, Nat.zero_le _, rfl, 0, rfl⟩
      case round =>
        obtain ⟨k, hk, rfl, n, rfl⟩ := hrel
        by_cases hlt : k < zs.length
        · obtain ⟨b, off, z, rfl, hz, hcz⟩ := hg4.int_at hlt
          have hz2 : (fadeL zs)[k]? = some (z / 2) := by rw [Hfe.out, List.getElem?_map, hz.out]; rfl
          obtain ⟨b', off', rfl, hcz2⟩ := ho4.int_of hz2
          have hz0 := (hb.out z (List.mem_of_getElem? hz.out)).1
          have hkf : k < (fadeL zs).length := by rw [hfl.out]; exact hlt
          have Hz2 := hid hz2
          have kd : z.tdiv 2 = z / 2 := Int.tdiv_eq_ediv_of_nonneg hz0
          have kw : IntKind.i64.wrap (z / 2) = z / 2 := IntWalk.i64_in _ (by have := (hb.out z (List.mem_of_getElem? hz.out)).2; omega)
          clear hz2
          go_wp2
          go_quiet (fail)
          go_wp2
          go_roundw
          case rel => exact ⟨k + 1, by omega, by go_num, _, rfl⟩
          case measure => simp [intOf]; omega
        · have hst : Hid (Faded zs.length 0 (fadeL zs)) := by rw [Hfe.out]; exact hstart.out
          go_wp2_with fail
          go_loopw [6, 8] (fun x i wr => ∃ (j : Nat) (xs : List Int) (A' : Option Addr) (c' : Nat), j ≤ 6 ∧ i = .int .i64 j ∧ x = .slice A' xs.length c' ∧ Hid (Faded zs.length j xs) ∧ Cells wr A' (ints xs) ∧ Below w.heap.size w wr) (fun _ i _ => 6 - (intOf i).toNat)
          case atStart => exact ⟨0, fadeL zs, A2, c2, by omega, rfl, rfl, hst, ho4.drewN n, below_drewN t4 n⟩
          case round =>
            clear hst ho4 hg4 o1 o2 o3 b1 b2 b3 b4 t4 hlen
            obtain ⟨j, xs, A', c', hj, rfl, rfl, hfd, hcx, ht⟩ := hrel
            by_cases hj6 : j < 6
            · have hx := hid (hfd.out.next hj6)
              have hxl : Hid (xs.length = zs.length) := hfd.out.2.1
              have hxm : xs.length ≤ 17592186044416 := by rw [hxl.out]; exact hm
              go_wp2_with (go_at_call 19; refine (implFade_any _ _ _ _ hcx hxm).mono ?_; rintro e w5 ⟨A5, c5, rfl, o5, b5⟩)
              go_roundw
              case rel => exact ⟨j + 1, fadeL xs, A5, c5, by omega, by go_num, rfl, by unfold Hid; rw [hx.out.1]; exact hx.out.2, o5.cells, below_step ht b5⟩
              case measure => simp [intOf]; omega
            · obtain rfl : j = 6 := by omega
              have hxl : Hid (xs.length = zs.length) := hfd.out.2.1
              have hxm : xs.length ≤ 17592186044416 := by rw [hxl.out]; exact hm
              go_wp2_with fail
              obtain ⟨wo, rfl⟩ : ∃ wo : World, wo = wr := ⟨_, rfl⟩
              go_loop [9] (fun i => ∃ q : Nat, q ≤ xs.length ∧ i = .int .i64 q) (fun i => xs.length - (intOf i).toNat)
              case atStart => exact ⟨0, Nat.zero_le _, rfl⟩
              case round =>
                obtain ⟨q, hq, rfl⟩ := hrel
                by_cases hqx : q < xs.length
                · obtain ⟨b, off, z, rfl, hz, hcz⟩ := hcx.int_at hqx
                  obtain rfl : z = 0 := hfd.out.zero hz.out
                  go_wp2
                  go_round
                  case rel => exact ⟨q + 1, by omega, by go_num⟩
                  case measure => simp [intOf]; omega
                · have heq : ((xs.length : Int) == zs.length) = true := by rw [beq_iff_eq, hxl.out]
                  go_wp2
                  go_ret
                  exact ⟨rfl, ht⟩

end Go.Proofs.Ytdncdfcldnamiaa
