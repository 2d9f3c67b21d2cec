/- laws.FnForkNamed: the walk. -/
import Derived.Test.YtpnahccmdebifaaLF0
import Derived.BigQuiet
namespace Go.Proofs.Ytpnahccmdebifaa
open Go.RowKit

set_option maxRecDepth 100000 in
set_option maxHeartbeats 4000000 in
theorem forkNamed_walk (A : Option Addr) (c : Nat) (us : List Int) (w : World) (hr : Cells w A (bytes us)) (hu : ∀ u ∈ us, 0 ≤ u ∧ u ≤ 255) (hc : us.length ≤ c) :
    Calls Try.prog 3 #[.slice A us.length c] w (RetB w true) := by
  have Hu := hid hu
  clear hu
  by_cases h20 : 1048576 < us.length
  · go_enter Try.func3, Try.ntmps3
    go_wp2
    go_ret
    exact ⟨rfl, Below.refl _ _⟩
  · have hm : us.length ≤ 17592186044416 := by omega
    have hd : decide ((1048576 : Int) < (us.length : Int)) = false := by simp; omega
    clear h20
    go_enter Try.func3, Try.ntmps3
    go_wp2_with fail
    refine (drawForkNamed_any _ _ _ _ hr Hu.out hc hm).mono ?_
    rintro e w1 ⟨A1, c1, n, l, rfl, hn4, hl, o1, b1⟩
    clear hr hc hm hd
    have O1 := hid o1
    clear o1
    obtain ⟨Z, hZ⟩ : ∃ Z, specAll l = Z := ⟨_, rfl⟩
    obtain ⟨z, hz⟩ : ∃ z, Z.length = z := ⟨_, rfl⟩
    have hzn : z ≤ n := by rw [← hz, ← hZ, ← hl.out]; exact specAll_len l
    have HZ := hid hZ
    have Hz := hid hz
    clear hZ hz
    go_wp2_with fail
    refine (implNamed_n hl HZ Hz _ _ _ O1.out.cells (by omega)).mono ?_; rintro e w2 ⟨A2, c2, rfl, o2, b2⟩
    have P2 := hid o2
    have O2 := hid (O1.out.below b2)
    have t2 := below_step b1 b2
    clear o2 b1 b2 O1
    go_wp2_with fail
    refine (specNamed_n hl HZ Hz _ _ _ O2.out.cells (by omega)).mono ?_; rintro e w3 ⟨A3, c3, rfl, o3, b3⟩
    have P3 := hid (P2.out.below b3)
    have Q3 := hid o3
    have O3 := hid (O2.out.below b3)
    have t3 := below_step t2 b3
    clear o3 b3 O2 P2 t2
    go_wp2_with fail
    refine (sameInts_n Hz _ _ _ _ _ P3.out.cells Q3.out.cells (by omega)).mono ?_; rintro e w4 ⟨rfl, b4⟩
    have P4 := hid (P3.out.below b4)
    have O4 := hid (O3.out.below b4)
    have t4 := below_step t3 b4
    clear b4 P3 O3 Q3 t3
    go_wp2_with fail
    go_loopw [6] (fun i wr => ∃ k : Nat, k ≤ n ∧ i = .int .i64 k ∧ Below w4.heap.size w4 wr) (fun i _ => n - (intOf i).toNat)
    case atStart => exact ⟨0, Nat.zero_le _, rfl, Below.refl _ _⟩
    case round =>
      obtain ⟨k, hk, rfl, hb⟩ := hrel
      by_cases hlt : k < n
      · obtain ⟨x, hx⟩ : ∃ x, l[k]? = some x := ⟨l[k]'(by rw [hl.out]; exact hlt), List.getElem?_eq_getElem _⟩
        have Hx := hid hx
        have hF := hid (fun W => implFork_any x W)
        obtain ⟨b, off, hA, a7⟩ := (O4.out.below hb).cells.fork_of hx
        subst hA
        have a0 := a7.c0
        obtain ⟨d0, d1, d2, d3, d4, d5, d6⟩ := a7
        clear hx
        cases hf : forkB x
        · rw [hf] at hF
          clear hf a0
          go_wp2_with fail
          refine (hF.out _).mono ?_; rintro e w5 ⟨rfl, b5⟩
          have hb5 := below_step hb b5
          go_wp2
          go_roundw
          case rel => exact ⟨k + 1, by omega, by go_num, hb5⟩
          case measure => simp [intOf]; omega
        · have Hv : Hid (decide (x.pub ∈ Z) = true) := by unfold Hid; rw [← HZ.out]; simp [specAll_has Hx.out hf]
          rw [hf] at hF
          clear hf
          go_wp2_with fail
          refine (hF.out _).mono ?_; rintro e w5 ⟨rfl, b5⟩
          have hb5 := below_step hb b5
          have a5 := cell_later b5 a0
          go_wp2_with fail
          refine (hasInt_n Hz Hv _ _ _ (P4.out.below hb5).cells (by omega)).mono ?_; rintro e w6 ⟨rfl, rfl⟩
          go_wp2
          go_roundw
          case rel => exact ⟨k + 1, by omega, by go_num, hb5⟩
          case measure => simp [intOf]; omega
      · obtain rfl : n = k := by omega
        clear hlt
        go_wp2_with fail
        go_loopw [7] (fun i wr => ∃ k : Nat, k ≤ z ∧ i = .int .i64 k ∧ Below w4.heap.size w4 wr) (fun i _ => z - (intOf i).toNat)
        case atStart => exact ⟨0, Nat.zero_le _, rfl, hb⟩
        case round =>
          clear hb
          obtain ⟨k, hk, rfl, hb⟩ := hrel
          by_cases hlt : k < z
          · obtain ⟨q, hq⟩ : ∃ q, Z[k]? = some q := ⟨Z[k]'(by rw [Hz.out]; exact hlt), List.getElem?_eq_getElem _⟩
            have Hq := hid hq
            have hnq : Hid (namedB l q = true) := by unfold Hid; rw [← specAll_mem, HZ.out]; exact List.mem_of_getElem? hq
            have hk9 : decide ((k : Int) < (z : Int)) = true := by simp; omega
            clear hq
            go_wp2_with fail
            go_loopw [8, 9] (fun v i wr => ∃ (j : Nat) (fb : Bool), j ≤ n ∧ i = .int .i64 j ∧ v = .bool fb ∧ Hid (namedB (l.take j) q = fb) ∧ Below w4.heap.size w4 wr) (fun _ i _ => n - (intOf i).toNat)
            case atStart => exact ⟨0, false, Nat.zero_le _, rfl, rfl, by simp [Hid, namedB], hb⟩
            case round =>
              clear hb
              obtain ⟨j, fb, hj, rfl, rfl, hfb, hb⟩ := hrel
              by_cases hjl : j < n
              · obtain ⟨x, hx⟩ : ∃ x, l[j]? = some x := ⟨l[j]'(by rw [hl.out]; exact hjl), List.getElem?_eq_getElem _⟩
                have hstep : Hid (namedB (l.take (j + 1)) q = (fb || (x.pub == q && forkB x))) := by unfold Hid; rw [namedB_take hx, hfb.out]
                obtain ⟨b, off, hA, a7⟩ := (O4.out.below hb).cells.fork_of hx
                subst hA
                obtain ⟨g, off2, hA2, y0⟩ := (P4.out.below hb).cells.int_of Hq.out
                subst hA2
                obtain ⟨d0, d1, d2, d3, d4, d5, d6⟩ := a7
                have iA := After.some wr
                have q0 := fun P => after_cell d0 P
                have q1 := fun P => after_cell d1 P
                have q2 := fun P => after_cell d2 P
                have q3 := fun P => after_cell d3 P
                have q4 := fun P => after_cell d4 P
                have q5 := fun P => after_cell d5 P
                have q6 := fun P => after_cell d6 P
                have q7 := fun P => after_cell y0 P
                have H := hid (fun (p : After wr) => Calls.after_of (p := p) (implFork_any x p.w'))
                clear hx d0 d1 d2 d3 d4 d5 d6 y0
                cases fb
                · by_cases hp : x.pub = q
                  · have e1 : (x.pub == q) = true := by rw [beq_iff_eq]; exact hp
                    have He := hid e1
                    obtain ⟨v, hv⟩ : ∃ v, forkB x = v := ⟨_, rfl⟩
                    rw [hv] at H
                    have hstep2 : Hid (namedB (l.take (j + 1)) q = v) := by unfold Hid; rw [hstep.out, He.out, hv]; simp
                    clear hp hv hstep
                    go_wp2_with fail
                    refine wp_region_after (by kernel_rfl) (by kernel_rfl) ?_
                    repeat (go_big_quiet_step ((go_at_call 9; with_reducible exact H.out _)))
                    refine wpQuiet_nil ?_
                    rintro _ ⟨⟨w5, b5⟩, rfl⟩
                    have hb5 := below_step hb b5
                    go_wp2
                    go_roundw
                    case rel => exact ⟨j + 1, v, by omega, by go_num, rfl, hstep2, hb5⟩
                    case measure => simp [intOf]; omega
                  · have e1 : (x.pub == q) = false := by rw [beq_eq_false_iff_ne]; exact hp
                    have He := hid e1
                    have hstep2 : Hid (namedB (l.take (j + 1)) q = false) := by unfold Hid; rw [hstep.out, He.out]; simp
                    clear hp hstep
                    go_wp2_with fail
                    refine wp_region_after (by kernel_rfl) (by kernel_rfl) ?_
                    repeat (go_big_quiet_step (fail))
                    refine wpQuiet_nil ?_
                    rintro _ ⟨⟨w5, b5⟩, rfl⟩
                    have hb5 := below_step hb b5
                    go_wp2
                    go_roundw
                    case rel => exact ⟨j + 1, false, by omega, by go_num, rfl, hstep2, hb5⟩
                    case measure => simp [intOf]; omega
                · have hstep2 : Hid (namedB (l.take (j + 1)) q = true) := by unfold Hid; rw [hstep.out]; simp
                  clear hstep
                  go_wp2_with fail
                  refine wp_region_after (by kernel_rfl) (by kernel_rfl) ?_
                  repeat (go_big_quiet_step (fail))
                  refine wpQuiet_nil ?_
                  rintro _ ⟨⟨w5, b5⟩, rfl⟩
                  have hb5 := below_step hb b5
                  go_wp2
                  go_roundw
                  case rel => exact ⟨j + 1, true, by omega, by go_num, rfl, hstep2, hb5⟩
                  case measure => simp [intOf]; omega
              · obtain rfl : n = j := by omega
                have hfb2 : fb = true := by
                  have h := hfb.out
                  rw [List.take_of_length_le (by rw [hl.out]; exact Nat.le_refl _), hnq.out] at h
                  exact h.symm
                subst hfb2
                clear hfb hjl
                have k2 : IntKind.i64.wrap ((k : Int)) = (k : Int) := IntWalk.i64_in _ (by omega)
                by_cases h0 : k = 0
                · subst h0
                  go_wp2_with fail
                  go_quiet (fail)
                  go_wp2
                  go_roundw
                  case rel => exact ⟨0 + 1, by omega, by go_num, below_drewN hb _⟩
                  case measure => simp [intOf]; omega
                · obtain ⟨i, rfl⟩ : ∃ i, k = i + 1 := ⟨k - 1, by omega⟩
                  clear h0
                  obtain ⟨r, hr⟩ : ∃ r, Z[i]? = some r := ⟨Z[i]'(by rw [Hz.out]; omega), List.getElem?_eq_getElem _⟩
                  have hrq : r < q := pair_at (by rw [← HZ.out]; exact specAll_sorted l) hr Hq.out
                  obtain ⟨g, off2, hA2, y0⟩ := (P4.out.below hb).cells.int_of Hq.out
                  obtain ⟨g', off', hA3, y1⟩ := (P4.out.below hb).cells.int_of hr
                  subst hA2
                  injection hA3 with hA3; injection hA3 with hA4 hA5; subst hA4; subst hA5
                  have d1 : decide (q ≤ r) = false := by simp; omega
                  have d2 : decide (r ≥ q) = false := by simp; omega
                  have k1 : IntKind.i64.wrap (((i + 1 : Nat) : Int) - 1) = (i : Int) := by rw [show ((i + 1 : Nat) : Int) - 1 = i by omega]; exact IntWalk.i64_in _ (by omega)
                  have k3 : IntKind.i64.wrap ((i : Int) + 1 - 1) = (i : Int) := by rw [show (i : Int) + 1 - 1 = i by omega]; exact IntWalk.i64_in _ (by omega)
                  clear hr hrq
                  go_wp2_with fail
                  go_quiet (fail)
                  clear k1 k3 k2
                  go_wp2
                  go_roundw
                  case rel => exact ⟨i + 1 + 1, by omega, by go_num, below_drewN hb _⟩
                  case measure => simp [intOf]; omega
          · go_wp2
            go_ret
            exact ⟨rfl, below_step t4 hb⟩

end Go.Proofs.Ytpnahccmdebifaa
