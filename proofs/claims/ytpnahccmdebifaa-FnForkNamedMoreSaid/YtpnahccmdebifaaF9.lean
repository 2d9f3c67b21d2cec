/- Leaves, sizes, roots, folds: what the reference computes of them. -/
import Derived.Test.YtpnahccmdebifaaF1
import Derived.Test.YtpnahccmdebifaaDrawB
namespace Go.Proofs.Ytpnahccmdebifaa
open Go.RowKit

def leavesB (zs : List Int) : Bool := zs.all (fun z => inB z 0 990) && decide (zs.length ≤ 16)
theorem leavesB_parts {zs : List Int} (h : leavesB zs = true) : (∀ z ∈ zs, 0 ≤ z ∧ z ≤ 990) ∧ zs.length ≤ 16 := by
  unfold leavesB at h
  simp only [Bool.and_eq_true, List.all_eq_true, decide_eq_true_eq] at h
  exact ⟨fun z hz => inB_parts (h.1 z hz), h.2⟩
theorem leavesB_no {zs : List Int} {z : Int} (h : z ∈ zs) (hz : inB z 0 990 = false) : leavesB zs = false := by
  unfold leavesB
  rw [Bool.and_eq_false_iff]; left
  rw [List.all_eq_false]
  exact ⟨z, h, by rw [hz]; simp⟩
theorem leavesB_all {zs : List Int} {n : Nat} (hn : zs.length = n) (h : zs.all (fun z => inB z 0 990) = true) : leavesB zs = decide ((n : Int) ≤ 16) := by
  unfold leavesB
  rw [h, hn, Bool.true_and, Bool.eq_iff_iff]
  simp
  omega

set_option maxHeartbeats 1000000 in
theorem l2Leaves_any (A : Option Addr) (c n : Nat) (zs : List Int) (w : World) (hn : Hid (zs.length = n)) (hr : Cells w A (ints zs)) (hm : n ≤ 1000) :
    Calls Try.prog 34 #[.slice A n c] w fun e w' => e = .returned (.bool (leavesB zs)) ∧ w = w' := by
  go_enter Try.func34, Try.ntmps34
  go_wp2
  go_loop [3] (fun i => ∃ k : Nat, k ≤ n ∧ i = .int .i64 k ∧ Hid ((zs.take k).all (fun z => inB z 0 990) = true)) (fun i => n - (intOf i).toNat)
  case atStart => exact ⟨0, Nat.zero_le _, rfl, by simp [Hid]⟩
  case round =>
    obtain ⟨k, hk, rfl, hall⟩ := hrel
    by_cases hlt : k < n
    · obtain ⟨b, off, z, rfl, hz, hc⟩ := hr.int_at (k := k) (by rw [hn.out]; exact hlt)
      have H := hid (fun W => l1Digest_any z W)
      have Hz := hz
      clear hz
      cases hv : inB z 0 990
      · have hno := hid (leavesB_no (List.mem_of_getElem? Hz.out) hv)
        rw [hv] at H
        clear hv
        go_wp2_with fail
        refine (H.out _).mono ?_; rintro e w3 ⟨rfl, rfl⟩
        go_wp2
        go_ret
        exact ⟨by rw [hno.out]; rfl, rfl⟩
      · have hstep : Hid ((zs.take (k + 1)).all (fun z => inB z 0 990) = true) := by
          unfold Hid; rw [take_snoc _ _ _ Hz.out, List.all_append, hall.out]; simp [hv]
        rw [hv] at H
        clear hv
        go_wp2_with fail
        refine (H.out _).mono ?_; rintro e w3 ⟨rfl, rfl⟩
        go_wp2
        go_round
        case rel => exact ⟨k + 1, by omega, by go_num, hstep⟩
        case measure => simp [intOf]; omega
    · obtain rfl : k = n := by omega
      have hl := hid (leavesB_all hn.out (by have h := hall.out; rw [List.take_of_length_le (by rw [hn.out]; exact Nat.le_refl _)] at h; exact h))
      go_wp2
      go_ret
      exact ⟨by rw [hl.out]; rfl, rfl⟩

set_option maxHeartbeats 1000000 in
theorem l2Size_any (at_ n : Nat) (w : World) (ha : at_ < n) (hm : n ≤ 1000) :
    Calls Try.prog 60 #[.int .i64 at_, .int .i64 n] w fun e w' => (∃ s : Nat, e = .returned (.int .i64 s) ∧ 1 ≤ s ∧ at_ + s ≤ n) ∧ w = w' := by
  go_enter Try.func60, Try.ntmps60
  go_wp2
  go_loop [5] (fun i => ∃ k : Nat, 1 ≤ k ∧ at_ + k ≤ n ∧ i = .int .i64 k) (fun i => n - (intOf i).toNat)
  case atStart => exact ⟨1, Nat.le_refl _, by omega, rfl⟩
  case round =>
    obtain ⟨k, hk1, hk, rfl⟩ := hrel
    have k1 : IntKind.i64.wrap (2 * (k : Int)) = 2 * (k : Int) := IntWalk.i64_in _ (by omega)
    obtain ⟨r, e1⟩ : ∃ r : Nat, (at_ : Int).tmod (2 * (k : Int)) = r := ⟨at_ % (2 * k), by rw [show (2 * (k : Int)) = ((2 * k : Nat) : Int) by push_cast; rfl]; exact Int.ofNat_tmod _ _⟩
    have hr : r ≤ 1000 := by
      have h1 : (at_ : Int).tmod (2 * (k : Int)) = ((at_ % (2 * k) : Nat) : Int) := by rw [show (2 * (k : Int)) = ((2 * k : Nat) : Int) by push_cast; rfl]; exact Int.ofNat_tmod _ _
      have h2 : at_ % (2 * k) ≤ at_ := Nat.mod_le _ _
      rw [e1] at h1
      have h3 : r = at_ % (2 * k) := by exact_mod_cast h1
      omega
    have k2 : IntKind.i64.wrap (r : Int) = r := IntWalk.i64_in _ (by omega)
    have hne : (2 * (k : Int) == 0) = false := by rw [beq_eq_false_iff_ne]; omega
    by_cases h0 : r = 0
    · subst h0
      by_cases h1 : at_ + 2 * k ≤ n
      · have k3 : decide ((at_ : Int) + 2 * (k : Int) ≤ (n : Int)) = true := by simp; omega
        go_wp2
        go_round
        case rel => exact ⟨2 * k, by omega, by omega, by go_num⟩
        case measure => simp [intOf]; omega
      · have k3 : decide ((at_ : Int) + 2 * (k : Int) ≤ (n : Int)) = false := by simp; omega
        go_wp2
        go_ret
        exact ⟨⟨k, rfl, hk1, hk⟩, rfl⟩
    · have k4 : ((r : Int) == 0) = false := by rw [beq_eq_false_iff_ne]; omega
      go_wp2
      go_ret
      exact ⟨⟨k, rfl, hk1, hk⟩, rfl⟩

set_option maxHeartbeats 1000000 in
theorem l2Fold_any (A : Option Addr) (c n : Nat) (zs : List Int) (m : Nat) (w : World) (hn : Hid (zs.length = n)) (hz : Hid (∀ z ∈ zs, 0 ≤ z ∧ z ≤ 990)) (hr : Cells w A (ints zs)) (hm : n ≤ 1000) (hm2 : m ≤ 16) :
    Calls Try.prog 51 #[.int .i64 m, .slice A n c] w fun e w' => (∃ z, e = .returned (.int .i64 z) ∧ 0 ≤ z ∧ z ≤ 990) ∧ w = w' := by
  go_enter Try.func51, Try.ntmps51
  go_wp2
  go_loop [5, 6] (fun o i => ∃ (k : Nat) (z : Int), k ≤ n ∧ i = .int .i64 k ∧ o = .int .i64 z ∧ 0 ≤ z ∧ z ≤ 990) (fun _ i => n - (intOf i).toNat)
  case atStart => exact ⟨0, m, Nat.zero_le _, rfl, rfl, by omega, by omega⟩
  case round =>
    obtain ⟨k, z, hk, rfl, rfl, z0, z1⟩ := hrel
    by_cases hlt : k < n
    · obtain ⟨b, off, x, rfl, hx, hc⟩ := hr.int_at (k := k) (by rw [hn.out]; exact hlt)
      obtain ⟨x0, x1⟩ := hz.out x (List.mem_of_getElem? hx.out)
      obtain ⟨p0, p1⟩ := pairZ_bd z x
      go_wp2_with fail
      refine (l1Pair_any z x _ z0 (by omega) x0 (by omega)).mono ?_; rintro e w3 ⟨rfl, rfl⟩
      go_wp2
      go_round
      case rel => exact ⟨k + 1, pairZ z x, by omega, by go_num, rfl, p0, p1⟩
      case measure => simp [intOf]; omega
    · go_wp2
      go_ret
      exact ⟨⟨z, rfl, z0, z1⟩, rfl⟩

end Go.Proofs.Ytpnahccmdebifaa
