/- laws.FnRarePick: the walk. -/
import Derived.Test.YtckbpiapkooamaaR7
import Derived.Test.YtckbpiapkooamaaDrawR2
namespace Go.Proofs.Ytckbpiapkooamaa
open Go.RowKit


set_option maxRecDepth 100000 in
set_option maxHeartbeats 4000000 in
theorem rarePick_walk (A : Option Addr) (c : Nat) (us : List Int) (w : World) (hr : Cells w A (bytes us)) (hu : ∀ u ∈ us, 0 ≤ u ∧ u ≤ 255) (hc : us.length ≤ c) :
    Calls Try.prog 12 #[.slice A us.length c] w (RetB w true) := by
  have Hu := hid hu
  clear hu
  by_cases h20 : 1048576 < us.length
  · go_enter Try.func12, Try.ntmps12
    go_wp2
    go_ret
    exact ⟨rfl, Below.refl _ _⟩
  · have hm : us.length ≤ 17592186044416 := by omega
    have hd : decide ((1048576 : Int) < (us.length : Int)) = false := by simp; omega
    clear h20
    go_enter Try.func12, Try.ntmps12
    go_wp2_with fail
    refine (drawPick_any _ _ _ _ hr Hu.out hc hm).mono ?_
    rintro e w1 ⟨A1, c1, B1, d1, ps, mine, x, rfl, hx0, hx1, hml, hmi, hsm⟩
    clear hr hc hm hd
    obtain ⟨m, hm0⟩ : ∃ m, ps.length = m := ⟨_, rfl⟩
    have Hm := hid hm0
    have hm7 : m ≤ 7 := by rw [← hm0]; exact hsm.1
    have Hs := hid hsm.2.1
    have M1 := hid hsm.2.2.1
    have b1 := hsm.2.2.2
    obtain ⟨k0, hk0⟩ : ∃ k0, mine.length = k0 := ⟨_, rfl⟩
    have Hk := hid hk0
    have hk18 : k0 ≤ 18 := by rw [← hk0]; exact hml
    have C1 := hid hmi
    obtain ⟨r, hr0⟩ : ∃ r, pickG ps mine x = r := ⟨_, rfl⟩
    have HR := hid hr0
    have Hr0 := hid hr0
    obtain ⟨L, hL⟩ : ∃ L, orderG ps mine = L := ⟨_, rfl⟩
    obtain ⟨n, hn⟩ : ∃ n, L.length = n := ⟨_, rfl⟩
    have hn16 : n ≤ 16 := by rw [← hn, ← hL]; exact orderG_len _ _
    have HL := hid hL
    have Hn := hid hn
    clear hL hn hr0
    go_wp2_with fail
    clear hm0 hk0 hsm hmi hml
    refine (implPick_n Hm Hk Hs _ _ _ _ _ _ HR _ M1.out C1.out (by omega)).mono ?_; rintro e w2 ⟨rfl, b2⟩
    have M2 := hid (M1.out.below b2)
    have C2 := hid (C1.out.below b2)
    have t2 := below_step b1 b2
    clear M1 C1 b1 b2
    go_wp2_with fail
    refine (specPick_n Hm Hk Hs _ _ _ _ _ _ HR _ M2.out C2.out (by omega)).mono ?_; rintro e w3 ⟨rfl, b3⟩
    have M3 := hid (M2.out.below b3)
    have C3 := hid (C2.out.below b3)
    have t3 := below_step t2 b3
    clear M2 C2 t2 b3
    go_wp2_with fail
    refine (implOrder_g HL Hn Hm Hk _ _ _ _ _ M3.out Hs C3.out (by omega)).mono ?_; rintro e w4 ⟨A4, c4, rfl, o4, b4⟩
    have O4 := hid o4
    have M4 := hid (M3.out.below b4)
    have t4 := below_step t3 b4
    clear o4 M3 C3 t3 b4
    cases hi : inB x 0 ((ps.length : Int) - 1)
    · have hrm : r = -1 := by rw [← Hr0.out]; exact pickG_bad hi
      have hout : x < 0 ∨ (m : Int) ≤ x := by
        simp only [inB, decide_eq_false_iff_not, Hm.out] at hi; omega
      subst hrm
      clear hi
      go_wp2_with fail
      go_loop [9] (fun i => i = .int .i64 0) (fun i => 0)
      case atStart => rfl
      case round =>
        subst hrel
        by_cases hn0 : 0 < n
        · by_cases hx : x < 0
          · clear hout
            go_wp2
            go_ret
            exact ⟨rfl, t4⟩
          · have hxm : (m : Int) ≤ x := by omega
            clear hout
            go_wp2
            go_ret
            exact ⟨rfl, t4⟩
        · go_wp2
          go_ret
          exact ⟨rfl, t4⟩
    · obtain ⟨q, rfl, hq⟩ := inB_nat hi
      have hqm : q < m := by rw [Hm.out] at hq; omega
      have hfin := hid (pickG_ok (mine := mine) hi)
      have hmem : Hid (∀ x ∈ L, ∃ b : Nat, b < 16 ∧ x = b) := by
        intro x hx; rw [← HL.out] at hx; obtain ⟨_, _, b, h1, h2, _⟩ := orderG_mem hx; exact ⟨b, h1, h2⟩
      obtain ⟨g, off, A', c', bs, rfl, hz, hcell, hrow⟩ := M4.out.at_ (k := q) (by rw [Hm.out]; exact hqm)
      rw [show rowAt ps q = bs from rowAt_of hz.out, HL.out, Hr0.out] at hfin
      have Hrow := hid hrow
      have hqm2 : (q : Int) < (m : Int) := by omega
      clear hi hrow hq
      go_wp2_with fail
      go_loopw [9] (fun i wr => ∃ k : Nat, k ≤ n ∧ i = .int .i64 k ∧ Hid (∀ y ∈ L.take k, bitAt bs y.toNat = false) ∧ Below w4.heap.size w4 wr) (fun i _ => n - (intOf i).toNat)
      case atStart => exact ⟨0, Nat.zero_le _, rfl, by simp [Hid], Below.refl _ _⟩
      case round =>
        obtain ⟨k, hk, rfl, hall, hb⟩ := hrel
        by_cases hlt : k < n
        · obtain ⟨z, hzL⟩ : ∃ z, L[k]? = some z := ⟨L[k]'(by rw [Hn.out]; exact hlt), List.getElem?_eq_getElem _⟩
          obtain ⟨b, hb16, rfl⟩ := hmem.out z (List.mem_of_getElem? hzL)
          have Or := hid (O4.out.below hb)
          have Rr := hid (Hrow.out.below hb)
          have hcell2 := cell_later hb hcell
          obtain ⟨g2, off2, rfl, hcz⟩ := Or.out.cells.int_of hzL
          by_cases hbl : b < bs.length
          · obtain ⟨v, hv⟩ : ∃ v, bs[b]? = some v := ⟨bs[b], List.getElem?_eq_getElem hbl⟩
            obtain ⟨g3, off3, rfl, hcv⟩ := Rr.out.bool_of hv
            cases v
            · have hn2 := hid (no_more_b hzL hall.out (by simpa using bitAt_in hv))
              clear hzL hv
              have d1n : decide (b < bs.length) = true := by simpa using hbl
              go_wp2_with fail
              go_quiet (fail)
              go_wp2
              go_roundw
              case rel => exact ⟨k + 1, by omega, by go_num, hn2, below_drewN hb _⟩
              case measure => simp [intOf]; omega
            · have hr2 : r = (b : Int) := hfin.out.trans (firstIn_hit hall.out hzL (by simpa using bitAt_in hv))
              subst hr2
              clear hzL hv
              have d1n : decide (b < bs.length) = true := by simpa using hbl
              go_wp2_with fail
              go_quiet (fail)
              go_wp2
              go_ret
              exact ⟨rfl, below_drewN (below_step t4 hb) _⟩
          · have hn2 := hid (no_more_b hzL hall.out (by simpa using bitAt_out (bs := bs) (b := b) (by omega)))
            clear hzL
            have d1 : decide ((b : Int) < (bs.length : Int)) = false := by simp; omega
            have d1n : decide (b < bs.length) = false := by simp; omega
            go_wp2_with fail
            go_quiet (fail)
            go_wp2
            go_roundw
            case rel => exact ⟨k + 1, by omega, by go_num, hn2, below_drewN hb _⟩
            case measure => simp [intOf]; omega
        · have hr2 : r = -1 := hfin.out.trans (firstIn_none fun y hy => hall.out y (by rw [List.take_of_length_le (by rw [Hn.out]; omega)]; exact hy))
          subst hr2
          go_wp2
          go_ret
          exact ⟨rfl, below_step t4 hb⟩

end Go.Proofs.Ytckbpiapkooamaa
