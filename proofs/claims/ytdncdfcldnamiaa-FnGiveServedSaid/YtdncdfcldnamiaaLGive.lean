/- laws.FnGive, FnGiveMost: the walks. -/
import Derived.Test.YtdncdfcldnamiaaC3
import Derived.Test.YtdncdfcldnamiaaC4
import Derived.Test.YtdncdfcldnamiaaDrawC
namespace Go.Proofs.Ytdncdfcldnamiaa
open Go.RowKit

theorem implGive_of {A : Option Addr} {c : Nat} {zs : List Int} {p : Int} {w : World} {L : List Int} {b : Bool} (hG : Hid (giveL zs p = (L, b))) (hr : Cells w A (ints zs)) (hm : zs.length ≤ 17592186044416) :
    Calls Try.prog 24 #[.slice A zs.length c, .int .i64 p] w (RetIntsB w (L, b)) := hG.out ▸ implGive_any A c zs p w hr hm
theorem specGive_of {A : Option Addr} {c : Nat} {zs : List Int} {p : Int} {w : World} {L : List Int} {b : Bool} (hG : Hid (giveL zs p = (L, b))) (hr : Cells w A (ints zs)) (hm : zs.length ≤ 17592186044416) :
    Calls Try.prog 23 #[.slice A zs.length c, .int .i64 p] w (RetIntsB w (L, b)) := hG.out ▸ specGive_any A c zs p w hr hm
theorem giveL_true {zs L : List Int} {p : Int} (h : giveL zs p = (L, true)) : ∃ (k : Nat) (z : Int), p = k ∧ zs[k]? = some z ∧ L = zs.set k (z + 1) ∧ givenB zs = true := by
  unfold giveL at h
  split at h
  · rename_i hv
    simp only [Bool.and_eq_true, inB, decide_eq_true_eq] at hv
    obtain ⟨k, rfl⟩ := Int.eq_ofNat_of_zero_le hv.2.1
    have hk : k < zs.length := by omega
    split at h
    · simp at h
    · simp only [Prod.mk.injEq, and_true, Int.toNat_natCast] at h
      refine ⟨k, zs[k], rfl, List.getElem?_eq_getElem hk, ?_, hv.1⟩
      rw [← h, List.getD_eq_getElem?_getD, List.getElem?_eq_getElem hk]; rfl
  · simp at h
theorem giveL_false {zs L : List Int} {p : Int} (h : giveL zs p = (L, false)) (hne : L ≠ []) : ∃ k : Nat, p = k ∧ zs[k]? = some 99 ∧ L = zs := by
  unfold giveL at h
  split at h
  · rename_i hv
    simp only [Bool.and_eq_true, inB, decide_eq_true_eq] at hv
    obtain ⟨k, rfl⟩ := Int.eq_ofNat_of_zero_le hv.2.1
    have hk : k < zs.length := by omega
    split at h
    · rename_i h9
      simp only [Prod.mk.injEq, and_true] at h
      rw [Int.toNat_natCast, List.getD_eq_getElem?_getD, List.getElem?_eq_getElem hk] at h9
      exact ⟨k, rfl, by rw [List.getElem?_eq_getElem hk]; exact congrArg some h9, h.symm⟩
    · simp at h
  · simp at h; exact (hne h).elim
theorem giveL_len {zs L : List Int} {p : Int} {b : Bool} (h : giveL zs p = (L, b)) : L.length ≤ zs.length := by
  unfold giveL at h
  split at h
  · split at h <;> (simp only [Prod.mk.injEq] at h; rw [← h.1]; simp)
  · simp only [Prod.mk.injEq] at h; rw [← h.1]; simp

set_option maxHeartbeats 1000000 in
theorem give_walk (A : Option Addr) (c : Nat) (us : List Int) (w : World) (hr : Cells w A (bytes us)) (hu : ∀ u ∈ us, 0 ≤ u ∧ u ≤ 255) (hc : us.length ≤ c) :
    Calls Try.prog 7 #[.slice A us.length c] w (RetB w true) := by
  have Hu := hid hu
  clear hu
  by_cases h20 : 1048576 < us.length
  · go_enter Try.func7, Try.ntmps7
    go_wp2
    go_ret
    exact ⟨rfl, Below.refl _ _⟩
  · have hm : us.length ≤ 17592186044416 := by omega
    have hd : decide ((1048576 : Int) < (us.length : Int)) = false := by simp; omega
    clear h20
    go_enter Try.func7, Try.ntmps7
    go_wp2_with fail
    refine (drawGive_any _ _ _ _ hr Hu.out hc hm).mono ?_
    rintro e w1 ⟨A1, c1, zs, p, rfl, hl, hp1, hp2, o1, b1⟩
    clear hr hc hm hd
    have hm : zs.length ≤ 17592186044416 := by omega
    obtain ⟨L, bb, hG⟩ : ∃ L bb, Hid (giveL zs p = (L, bb)) := ⟨(giveL zs p).1, (giveL zs p).2, rfl⟩
    have hL := giveL_len hG.out
    have hf : L.length ≤ 17592186044416 := by omega
    go_wp2_with fail
    refine (implGive_of hG o1.cells hm).mono ?_; rintro e w2 ⟨A2, c2, rfl, o2, b2⟩
    go_wp2_with fail
    refine (specGive_of hG (o1.below b2).cells hm).mono ?_; rintro e w3 ⟨A3, c3, rfl, o3, b3⟩
    cases bb
    · go_wp2_with fail
      refine (sameInts_true _ _ _ _ _ _ (o2.below b3).cells o3.cells hf).mono ?_; rintro e w4 ⟨rfl, b4⟩
      go_wp2_with fail
      refine (sameInts_true _ _ _ _ _ _ ((o2.below b3).below b4).cells (o3.below b4).cells hf).mono ?_; rintro e w5 ⟨rfl, b5⟩
      go_wp2_with fail
      go_ret
      exact ⟨rfl, below_step (below_step (below_step (below_step b1 b2) b3) b4) b5⟩
    · go_wp2_with fail
      refine (sameInts_true _ _ _ _ _ _ (o2.below b3).cells o3.cells hf).mono ?_; rintro e w4 ⟨rfl, b4⟩
      have t4 := below_step (below_step (below_step b1 b2) b3) b4
      have hg4 := (((o1.below b2).below b3).below b4).cells
      have ho4 := ((o2.below b3).below b4).cells
      obtain ⟨k0, z0, rfl, hz0, hLe, hv⟩ := giveL_true hG.out
      have hval := hid (givenB_at hv)
      have Hz0 := hid hz0
      have HLe := hid hLe
      have hLl : Hid (L.length = zs.length) := by unfold Hid; rw [hLe]; simp
      clear o1 o2 o3 b1 b2 b3 b4 hz0 hLe hv
      go_wp2_with fail
      go_loopw [9] (fun i wr => ∃ k : Nat, k ≤ zs.length ∧ i = .int .i64 k ∧ ∃ n, wr = w4.drewN n) (fun i _ => zs.length - (intOf i).toNat)
      case atStart => exact ⟨0, Nat.zero_le _, rfl, 0, rfl⟩
      case round =>
        obtain ⟨k, hk, rfl, n, rfl⟩ := hrel
        by_cases hlt : k < zs.length
        · obtain ⟨b, off, z, rfl, hz, hcz⟩ := hg4.int_at hlt
          have hy0 := (hval.out z (List.mem_of_getElem? hz.out)).1
          have hy1 := (hval.out z (List.mem_of_getElem? hz.out)).2
          have hkL : k < L.length := by rw [hLl.out]; exact hlt
          have k1 : IntKind.i64.wrap (z + 1) = z + 1 := IntWalk.i64_in _ (by omega)
          have k2 : IntKind.i64.wrap z = z := IntWalk.i64_in _ (by omega)
          by_cases hkk : k = k0
          · subst hkk
            have hz2 : L[k]? = some (z + 1) := by
              have e : z = z0 := by have := hz.out; rw [Hz0.out] at this; injection this with this; exact this.symm
              rw [HLe.out, List.getElem?_set_self hlt, e]
            obtain ⟨b', off', rfl, hcz2⟩ := ho4.int_of hz2
            clear hz2
            go_wp2
            go_quiet (fail)
            go_wp2
            go_roundw
            case rel => exact ⟨k + 1, by omega, by go_num, _, rfl⟩
            case measure => simp [intOf]; omega
          · have hz2 : L[k]? = some z := by rw [HLe.out, List.getElem?_set_ne (fun h => hkk h.symm)]; exact hz.out
            obtain ⟨b', off', rfl, hcz2⟩ := ho4.int_of hz2
            have hbk : ((k : Int) == (k0 : Int)) = false := by rw [beq_eq_false_iff_ne]; omega
            clear hz2 hkk
            go_wp2
            go_quiet (fail)
            go_wp2
            go_roundw
            case rel => exact ⟨k + 1, by omega, by go_num, _, rfl⟩
            case measure => simp [intOf]; omega
        · go_wp2
          go_ret
          exact ⟨rfl, below_drewN t4 n⟩

set_option maxHeartbeats 1000000 in
theorem giveMost_walk (A : Option Addr) (c : Nat) (us : List Int) (w : World) (hr : Cells w A (bytes us)) (hu : ∀ u ∈ us, 0 ≤ u ∧ u ≤ 255) (hc : us.length ≤ c) :
    Calls Try.prog 8 #[.slice A us.length c] w (RetB w true) := by
  have Hu := hid hu
  clear hu
  by_cases h20 : 1048576 < us.length
  · go_enter Try.func8, Try.ntmps8
    go_wp2
    go_ret
    exact ⟨rfl, Below.refl _ _⟩
  · have hm : us.length ≤ 17592186044416 := by omega
    have hd : decide ((1048576 : Int) < (us.length : Int)) = false := by simp; omega
    clear h20
    go_enter Try.func8, Try.ntmps8
    go_wp2_with fail
    refine (drawGive_any _ _ _ _ hr Hu.out hc hm).mono ?_
    rintro e w1 ⟨A1, c1, zs, p, rfl, hl, hp1, hp2, o1, b1⟩
    clear hr hc hm hd
    have hm : zs.length ≤ 17592186044416 := by omega
    obtain ⟨L, bb, hG⟩ : ∃ L bb, Hid (giveL zs p = (L, bb)) := ⟨(giveL zs p).1, (giveL zs p).2, rfl⟩
    have hL := giveL_len hG.out
    have hf : L.length ≤ 17592186044416 := by omega
    go_wp2_with fail
    refine (implGive_of hG o1.cells hm).mono ?_; rintro e w2 ⟨A2, c2, rfl, o2, b2⟩
    go_wp2_with fail
    refine (specGive_of hG (o1.below b2).cells hm).mono ?_; rintro e w3 ⟨A3, c3, rfl, o3, b3⟩
    cases bb
    · by_cases hne : L.length = 0
      · have hb0 : ((L.length : Int) == 0) = true := by rw [hne]; rfl
        have Hne := hid hne
        clear hne
        go_wp2_with fail
        refine (sameInts_true _ _ _ _ _ _ (o2.below b3).cells o3.cells hf).mono ?_; rintro e w4 ⟨rfl, b4⟩
        go_wp2_with fail
        refine (sameInts_true _ _ _ _ _ _ ((o2.below b3).below b4).cells (o3.below b4).cells hf).mono ?_; rintro e w5 ⟨rfl, b5⟩
        go_wp2_with fail
        go_ret
        exact ⟨rfl, below_step (below_step (below_step (below_step b1 b2) b3) b4) b5⟩
      · have hb0 : ((L.length : Int) == 0) = false := by rw [beq_eq_false_iff_ne]; omega
        go_wp2_with fail
        refine (sameInts_true _ _ _ _ _ _ (o2.below b3).cells o3.cells hf).mono ?_; rintro e w4 ⟨rfl, b4⟩
        have t4 := below_step (below_step (below_step b1 b2) b3) b4
        have hg4 := (((o1.below b2).below b3).below b4).cells
        have ho4 := ((o2.below b3).below b4).cells
        obtain ⟨k, rfl, hz, rfl⟩ := giveL_false hG.out (by intro h; rw [h] at hne; simp at hne)
        obtain ⟨b, off, rfl, hcz⟩ := hg4.int_of hz
        have hk : k < L.length := (List.getElem?_eq_some_iff.1 hz).1
        have Hz := hid hz
        clear o1 o2 o3 b1 b2 b3 b4 hz
        go_wp2_with fail
        refine (sameInts_true _ _ _ _ _ _ ho4 hg4 hm).mono ?_; rintro e w5 ⟨rfl, b5⟩
        go_wp2_with fail
        go_ret
        exact ⟨rfl, below_step t4 b5⟩
    · go_wp2_with fail
      refine (sameInts_true _ _ _ _ _ _ (o2.below b3).cells o3.cells hf).mono ?_; rintro e w4 ⟨rfl, b4⟩
      go_wp2_with fail
      refine (sameInts_true _ _ _ _ _ _ ((o2.below b3).below b4).cells (o3.below b4).cells hf).mono ?_; rintro e w5 ⟨rfl, b5⟩
      go_wp2_with fail
      go_ret
      exact ⟨rfl, below_step (below_step (below_step (below_step b1 b2) b3) b4) b5⟩

end Go.Proofs.Ytdncdfcldnamiaa
