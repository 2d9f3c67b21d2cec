/- RareCount, RareWhole; holders. -/
import Derived.Test.YtckbpiapkooamaaR1
namespace Go.Proofs.Ytckbpiapkooamaa
open Go.RowKit

/-- Rows of bounded length: what every contract here asks. -/
def Small (ps : List Bits) : Prop := ps.length ≤ 1048576 ∧ ∀ bs ∈ ps, bs.length ≤ 1048576
theorem inB_nat {n hi : Int} (h : inB n 0 hi = true) : ∃ k : Nat, n = k ∧ (k : Int) ≤ hi := by
  have hp : 0 ≤ n ∧ n ≤ hi := by simpa [inB] using h
  obtain ⟨k, rfl⟩ := Int.eq_ofNat_of_zero_le hp.1
  exact ⟨k, rfl, hp.2⟩

def countG (ps : List Bits) (b : Int) : Int := if (okB ps && inB b 0 15) = true then cnt ps b.toNat else -1
theorem countG_bad {ps : List Bits} {b : Int} (h : (okB ps && inB b 0 15) = false) : countG ps b = -1 := by unfold countG; rw [h]; rfl
theorem countG_ok {ps : List Bits} {b : Nat} (h : okB ps = true) (h2 : inB b 0 15 = true) : countG ps b = cnt ps b := by unfold countG; rw [h, h2]; rfl
def wholeN (ps : List Bits) : Nat → Nat
  | 0 => ps.length
  | n + 1 => min (wholeN ps n) (cnt ps n)
theorem wholeN_le (ps : List Bits) (n : Nat) : wholeN ps n ≤ ps.length := by
  induction n with
  | zero => exact Nat.le_refl _
  | succ n ih => simp only [wholeN]; omega
def wholeG (ps : List Bits) (n : Int) : Int := if (okB ps && inB n 0 16) = true then wholeN ps n.toNat else -1
theorem wholeG_bad {ps : List Bits} {b : Int} (h : (okB ps && inB b 0 16) = false) : wholeG ps b = -1 := by unfold wholeG; rw [h]; rfl
theorem wholeG_ok {ps : List Bits} {b : Nat} (h : okB ps = true) (h2 : inB b 0 16 = true) : wholeG ps b = wholeN ps b := by unfold wholeG; rw [h, h2]; rfl

set_option maxHeartbeats 400000 in
theorem implCount_any (A : Option Addr) (c : Nat) (ps : List Bits) (b : Int) (w : World) (hr : Mat w A ps) (hs : Small ps) :
    Calls Try.prog 20 #[.slice A ps.length c, .int .i64 b] w fun e w' => e = .returned (.int .i64 (countG ps b)) ∧ w = w' := by
  have hm : ps.length ≤ 17592186044416 := by have := hs.1; omega
  have hV := hid (peersValid_any A c ps w hr hm (fun bs hb => by have := hs.2 bs hb; omega))
  cases hv : okB ps
  · have hfin := hid (countG_bad (ps := ps) (b := b) (by rw [hv]; rfl))
    rw [hv] at hV
    clear hv hs
    go_enter Try.func20, Try.ntmps20
    go_wp2_with (go_at_call 46; refine hV.out.mono ?_; rintro e w1 ⟨rfl, rfl⟩)
    go_ret
    exact ⟨ret_int hfin.out.symm, rfl⟩
  · rw [hv] at hV
    cases hi : inB b 0 15
    · have hfin := hid (countG_bad (ps := ps) (b := b) (by rw [hi]; simp))
      clear hv hs
      go_enter Try.func20, Try.ntmps20
      go_wp2_with (first | (go_at_call 46; refine hV.out.mono ?_; rintro e w1 ⟨rfl, rfl⟩) | (go_at_call 47; refine (within_any _ _ _ _).mono ?_; rintro e w' ⟨rfl, rfl⟩))
      go_ret
      exact ⟨ret_int hfin.out.symm, rfl⟩
    · obtain ⟨n, rfl, hn⟩ := inB_nat hi
      have hfin := hid (countG_ok hv hi)
      clear hv hs
      go_enter Try.func20, Try.ntmps20
      go_wp2_with (first | (go_at_call 46; refine hV.out.mono ?_; rintro e w1 ⟨rfl, rfl⟩) | (go_at_call 47; refine (within_any _ _ _ _).mono ?_; rintro e w' ⟨rfl, rfl⟩) | (go_at_call 48; refine (rareCount_any _ _ _ _ _ hr hm).mono ?_; rintro e w' ⟨rfl, rfl⟩))
      go_ret
      exact ⟨ret_int hfin.out.symm, rfl⟩

set_option maxHeartbeats 400000 in
theorem specCount_any (A : Option Addr) (c : Nat) (ps : List Bits) (b : Int) (w : World) (hr : Mat w A ps) (hs : Small ps) :
    Calls Try.prog 18 #[.slice A ps.length c, .int .i64 b] w fun e w' => e = .returned (.int .i64 (countG ps b)) ∧ w = w' := by
  have hm : ps.length ≤ 17592186044416 := by have := hs.1; omega
  have hV := hid (l22Peers_any A c ps w hr hm (fun bs hb => by have := hs.2 bs hb; omega))
  cases hv : okB ps
  · have hfin := hid (countG_bad (ps := ps) (b := b) (by rw [hv]; rfl))
    rw [hv] at hV
    clear hv hs
    go_enter Try.func18, Try.ntmps18
    go_wp2_with (go_at_call 43; refine hV.out.mono ?_; rintro e w1 ⟨rfl, rfl⟩)
    go_ret
    exact ⟨ret_int hfin.out.symm, rfl⟩
  · rw [hv] at hV
    cases hi : inB b 0 15
    · have hfin := hid (countG_bad (ps := ps) (b := b) (by rw [hi]; simp))
      clear hv hs
      go_enter Try.func18, Try.ntmps18
      go_wp2_with (first | (go_at_call 43; refine hV.out.mono ?_; rintro e w1 ⟨rfl, rfl⟩) | (go_at_call 44; refine (l6In_any _ _ _ _).mono ?_; rintro e w' ⟨rfl, rfl⟩))
      go_ret
      exact ⟨ret_int hfin.out.symm, rfl⟩
    · obtain ⟨n, rfl, hn⟩ := inB_nat hi
      have hfin := hid (countG_ok hv hi)
      clear hv hs
      go_enter Try.func18, Try.ntmps18
      go_wp2_with (first | (go_at_call 43; refine hV.out.mono ?_; rintro e w1 ⟨rfl, rfl⟩) | (go_at_call 44; refine (l6In_any _ _ _ _).mono ?_; rintro e w' ⟨rfl, rfl⟩) | (go_at_call 45; refine (l22Count_any _ _ _ _ _ hr hm).mono ?_; rintro e w' ⟨rfl, rfl⟩))
      go_ret
      exact ⟨ret_int hfin.out.symm, rfl⟩

set_option maxHeartbeats 400000 in
theorem implWhole_any (A : Option Addr) (c : Nat) (ps : List Bits) (b : Int) (w : World) (hr : Mat w A ps) (hs : Small ps) :
    Calls Try.prog 25 #[.slice A ps.length c, .int .i64 b] w fun e w' => e = .returned (.int .i64 (wholeG ps b)) ∧ w = w' := by
  have hm : ps.length ≤ 17592186044416 := by have := hs.1; omega
  have hV := hid (peersValid_any A c ps w hr hm (fun bs hb => by have := hs.2 bs hb; omega))
  cases hv : okB ps
  · have hfin := hid (wholeG_bad (ps := ps) (b := b) (by rw [hv]; rfl))
    rw [hv] at hV
    clear hv hs
    go_enter Try.func25, Try.ntmps25
    go_wp2_with (go_at_call 46; refine hV.out.mono ?_; rintro e w1 ⟨rfl, rfl⟩)
    go_ret
    exact ⟨ret_int hfin.out.symm, rfl⟩
  · rw [hv] at hV
    cases hi : inB b 0 16
    · have hfin := hid (wholeG_bad (ps := ps) (b := b) (by rw [hi]; simp))
      clear hv hs
      go_enter Try.func25, Try.ntmps25
      go_wp2_with (first | (go_at_call 46; refine hV.out.mono ?_; rintro e w1 ⟨rfl, rfl⟩) | (go_at_call 47; refine (within_any _ _ _ _).mono ?_; rintro e w' ⟨rfl, rfl⟩))
      go_ret
      exact ⟨ret_int hfin.out.symm, rfl⟩
    · obtain ⟨n, rfl, hn⟩ := inB_nat hi
      have hfin := hid (wholeG_ok hv hi)
      clear hv hs
      go_enter Try.func25, Try.ntmps25
      go_wp2_with (first | (go_at_call 46; refine hV.out.mono ?_; rintro e w1 ⟨rfl, rfl⟩) | (go_at_call 47; refine (within_any _ _ _ _).mono ?_; rintro e w' ⟨rfl, rfl⟩))
      go_loop [5, 18] (fun v i => ∃ k m : Nat, k ≤ n ∧ i = .int .i64 k ∧ v = .int .i64 m ∧ Hid (m = wholeN ps k) ∧ m ≤ ps.length) (fun _ i => n - (intOf i).toNat)
      case atStart => exact ⟨0, ps.length, Nat.zero_le _, rfl, rfl, rfl, Nat.le_refl _⟩
      case round =>
        obtain ⟨k, m, hk, rfl, rfl, hmk, hml⟩ := hrel
        by_cases hlt : k < n
        · have hcl := cnt_le ps k
          have hst : Hid ((if (cnt ps k) < m then cnt ps k else m) = wholeN ps (k + 1)) := by unfold Hid; rw [hmk.out]; simp only [wholeN]; split <;> omega
          have hC := hid (rareCount_any A c ps k w hr hm)
          obtain ⟨q, hq⟩ : ∃ q, cnt ps k = q := ⟨_, rfl⟩
          rw [hq] at hC hst hcl
          clear hq
          by_cases hqm : q < m
          · rw [if_pos hqm] at hst
            have d1 : min (m : Int) (q : Int) = q := by omega
            have d2 : ((m : Int) ≤ (q : Int)) = False := by simp; omega
            go_wp2_with (go_at_call 48; refine hC.out.mono ?_; rintro e w' ⟨rfl, rfl⟩)
            go_round
            case rel => exact ⟨k + 1, q, by omega, by go_num, by first | rfl | (go_num), hst, by omega⟩
            case measure => simp [intOf]; omega
          · rw [if_neg hqm] at hst
            have d1 : min (m : Int) (q : Int) = m := by omega
            go_wp2_with (go_at_call 48; refine hC.out.mono ?_; rintro e w' ⟨rfl, rfl⟩)
            go_round
            case rel => exact ⟨k + 1, m, by omega, by go_num, by first | rfl | (go_num), hst, by omega⟩
            case measure => simp [intOf]; omega
        · obtain rfl : k = n := by omega
          have hf2 := hid (hfin.out.trans (by rw [← hmk.out]))
          clear hlt
          go_wp2
          go_ret
          exact ⟨ret_int hf2.out.symm, rfl⟩

set_option maxHeartbeats 400000 in
theorem specWhole_any (A : Option Addr) (c : Nat) (ps : List Bits) (b : Int) (w : World) (hr : Mat w A ps) (hs : Small ps) :
    Calls Try.prog 24 #[.slice A ps.length c, .int .i64 b] w fun e w' => e = .returned (.int .i64 (wholeG ps b)) ∧ w = w' := by
  have hm : ps.length ≤ 17592186044416 := by have := hs.1; omega
  have hV := hid (l22Peers_any A c ps w hr hm (fun bs hb => by have := hs.2 bs hb; omega))
  cases hv : okB ps
  · have hfin := hid (wholeG_bad (ps := ps) (b := b) (by rw [hv]; rfl))
    rw [hv] at hV
    clear hv hs
    go_enter Try.func24, Try.ntmps24
    go_wp2_with (go_at_call 43; refine hV.out.mono ?_; rintro e w1 ⟨rfl, rfl⟩)
    go_ret
    exact ⟨ret_int hfin.out.symm, rfl⟩
  · rw [hv] at hV
    cases hi : inB b 0 16
    · have hfin := hid (wholeG_bad (ps := ps) (b := b) (by rw [hi]; simp))
      clear hv hs
      go_enter Try.func24, Try.ntmps24
      go_wp2_with (first | (go_at_call 43; refine hV.out.mono ?_; rintro e w1 ⟨rfl, rfl⟩) | (go_at_call 44; refine (l6In_any _ _ _ _).mono ?_; rintro e w' ⟨rfl, rfl⟩))
      go_ret
      exact ⟨ret_int hfin.out.symm, rfl⟩
    · obtain ⟨n, rfl, hn⟩ := inB_nat hi
      have hfin := hid (wholeG_ok hv hi)
      clear hv hs
      go_enter Try.func24, Try.ntmps24
      go_wp2_with (first | (go_at_call 43; refine hV.out.mono ?_; rintro e w1 ⟨rfl, rfl⟩) | (go_at_call 44; refine (l6In_any _ _ _ _).mono ?_; rintro e w' ⟨rfl, rfl⟩))
      go_loop [5, 6] (fun v i => ∃ k m : Nat, k ≤ n ∧ i = .int .i64 k ∧ v = .int .i64 m ∧ Hid (m = wholeN ps k) ∧ m ≤ ps.length) (fun _ i => n - (intOf i).toNat)
      case atStart => exact ⟨0, ps.length, Nat.zero_le _, rfl, rfl, rfl, Nat.le_refl _⟩
      case round =>
        obtain ⟨k, m, hk, rfl, rfl, hmk, hml⟩ := hrel
        by_cases hlt : k < n
        · have hcl := cnt_le ps k
          have hst : Hid ((if (cnt ps k) < m then cnt ps k else m) = wholeN ps (k + 1)) := by unfold Hid; rw [hmk.out]; simp only [wholeN]; split <;> omega
          have hC := hid (l22Count_any A c ps k w hr hm)
          obtain ⟨q, hq⟩ : ∃ q, cnt ps k = q := ⟨_, rfl⟩
          rw [hq] at hC hst hcl
          clear hq
          by_cases hqm : q < m
          · rw [if_pos hqm] at hst
            have d1 : min (m : Int) (q : Int) = q := by omega
            have d2 : ((m : Int) ≤ (q : Int)) = False := by simp; omega
            go_wp2_with (go_at_call 45; refine hC.out.mono ?_; rintro e w' ⟨rfl, rfl⟩)
            go_round
            case rel => exact ⟨k + 1, q, by omega, by go_num, by first | rfl | (go_num), hst, by omega⟩
            case measure => simp [intOf]; omega
          · rw [if_neg hqm] at hst
            have d1 : min (m : Int) (q : Int) = m := by omega
            go_wp2_with (go_at_call 45; refine hC.out.mono ?_; rintro e w' ⟨rfl, rfl⟩)
            go_round
            case rel => exact ⟨k + 1, m, by omega, by go_num, by first | rfl | (go_num), hst, by omega⟩
            case measure => simp [intOf]; omega
        · obtain rfl : k = n := by omega
          have hf2 := hid (hfin.out.trans (by rw [← hmk.out]))
          clear hlt
          go_wp2
          go_ret
          exact ⟨ret_int hf2.out.symm, rfl⟩

set_option maxHeartbeats 400000 in
theorem holders_any (A : Option Addr) (c : Nat) (ps : List Bits) (x : Nat) (w : World) (hr : Mat w A ps) (hm : ps.length ≤ 17592186044416) :
    Calls Try.prog 23 #[.slice A ps.length c, .int .i64 x] w fun e w' => e = .returned (.int .i64 (cnt ps x)) ∧ w = w' := by
  go_enter Try.func23, Try.ntmps23
  go_wp2
  go_loop [5, 6] (fun n i => ∃ k : Nat, k ≤ ps.length ∧ i = .int .i64 k ∧ n = .int .i64 (cnt (ps.take k) x)) (fun _ i => ps.length - (intOf i).toNat)
  case atStart => exact ⟨0, Nat.zero_le _, rfl, by simp [cnt]⟩
  case round =>
    obtain ⟨k, hk, rfl, rfl⟩ := hrel
    have hle : cnt (ps.take k) x ≤ ps.length := countP_le _ ps k
    by_cases hlt : k < ps.length
    · obtain ⟨b, off, A', c', bs, rfl, hz, hc, hrow⟩ := hr.at_ hlt
      by_cases hxl : x < bs.length
      · obtain ⟨v, hv⟩ : ∃ v, bs[x]? = some v := ⟨bs[x], List.getElem?_eq_getElem hxl⟩
        obtain ⟨g, off2, rfl, hcx⟩ := hrow.bool_of hv
        have hs2 := hid (cnt_snoc hz.out (bitAt_in hv))
        clear hv
        cases v
        · go_wp2
          go_round
          case rel => exact ⟨k + 1, by omega, by go_num, by rw [hs2.out]; simp⟩
          case measure => simp [intOf]; omega
        · go_wp2
          go_round
          case rel => exact ⟨k + 1, by omega, by go_num, by rw [hs2.out]; go_num⟩
          case measure => simp [intOf]; omega
      · have hs2 := hid (cnt_snoc hz.out (bitAt_out (bs := bs) (b := x) (by omega)))
        go_wp2
        go_round
        case rel => exact ⟨k + 1, by omega, by go_num, by rw [hs2.out]; simp⟩
        case measure => simp [intOf]; omega
    · obtain rfl : k = ps.length := by omega
      clear hlt
      go_wp2
      go_ret
      exact ⟨ret_int (by first | rfl | (rw [List.take_length])), rfl⟩

end Go.Proofs.Ytckbpiapkooamaa
