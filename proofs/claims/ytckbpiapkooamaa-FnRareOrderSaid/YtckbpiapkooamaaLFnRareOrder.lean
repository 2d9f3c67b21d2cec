/- laws.FnRareOrder: the walk. -/
import Derived.Test.YtckbpiapkooamaaR7
import Derived.Test.YtckbpiapkooamaaDrawR2
namespace Go.Proofs.Ytckbpiapkooamaa
open Go.RowKit

theorem orderG_sorted (ps : List Bits) (mine : Bits) : (orderG ps mine).Pairwise (bef (keyC ps)) := by
  unfold orderG
  split
  · exact specTo_sorted _ _ _
  · exact List.Pairwise.nil
theorem pair_at {r : Int → Int → Prop} {L : List Int} (h : L.Pairwise r) {k : Nat} {x y : Int} (hx : L[k]? = some x) (hy : L[k + 1]? = some y) : r x y := by
  have h1 := (List.getElem?_eq_some_iff.1 hx)
  have h2 := (List.getElem?_eq_some_iff.1 hy)
  have := List.pairwise_iff_getElem.1 h k (k + 1) h1.1 h2.1 (by omega)
  rw [h1.2, h2.2] at this
  exact this
theorem countG_mem {ps : List Bits} {mine : Bits} {x : Int} (h : x ∈ orderG ps mine) : ∃ b : Nat, x = b ∧ b < 16 ∧ countG ps x = cnt ps b ∧ bitAt mine b = false ∧ 0 < cnt ps b := by
  obtain ⟨h1, _, b, hb, rfl, h2, h3⟩ := orderG_mem h
  exact ⟨b, rfl, hb, countG_ok h1 (by simp [inB]; omega), h2, h3⟩

set_option maxRecDepth 100000 in
set_option maxHeartbeats 4000000 in
theorem rareOrder_walk (A : Option Addr) (c : Nat) (us : List Int) (w : World) (hr : Cells w A (bytes us)) (hu : ∀ u ∈ us, 0 ≤ u ∧ u ≤ 255) (hc : us.length ≤ c) :
    Calls Try.prog 10 #[.slice A us.length c] w (RetB w true) := by
  have Hu := hid hu
  clear hu
  by_cases h20 : 1048576 < us.length
  · go_enter Try.func10, Try.ntmps10
    go_wp2
    go_ret
    exact ⟨rfl, Below.refl _ _⟩
  · have hm : us.length ≤ 17592186044416 := by omega
    have hd : decide ((1048576 : Int) < (us.length : Int)) = false := by simp; omega
    clear h20
    go_enter Try.func10, Try.ntmps10
    go_wp2_with fail
    refine (drawOrder_any _ _ _ _ hr Hu.out hc hm).mono ?_
    rintro e w1 ⟨A1, c1, B1, d1, ps, mine, rfl, hml, hmi, hsm⟩
    clear hr hc hm hd
    obtain ⟨m, hm0⟩ : ∃ m, ps.length = m := ⟨_, rfl⟩
    have Hm := hid hm0
    have hm7 : m ≤ 7 := by rw [← hm0]; exact hsm.1
    have Hs := hid hsm.2.1
    have M1 := hid hsm.2.2.1
    have b1 := hsm.2.2.2
    obtain ⟨k0, hk0⟩ : ∃ k0, mine.length = k0 := ⟨_, rfl⟩
    have Hk := hid hk0
    have hk18 : k0 ≤ 18 := by rw [← hk0]; exact hml
    have C1 := hid hmi
    obtain ⟨L, hL⟩ : ∃ L, orderG ps mine = L := ⟨_, rfl⟩
    obtain ⟨n, hn⟩ : ∃ n, L.length = n := ⟨_, rfl⟩
    have hn16 : n ≤ 16 := by rw [← hn, ← hL]; exact orderG_len _ _
    have HL := hid hL
    have Hn := hid hn
    clear hL hn
    go_wp2_with fail
    clear hm0 hk0 hsm hmi hml
    refine (implOrder_g HL Hn Hm Hk _ _ _ _ _ M1.out Hs C1.out (by omega)).mono ?_; rintro e w2 ⟨A2, c2, rfl, o2, b2⟩
    have O2 := hid o2
    have M2 := hid (M1.out.below b2)
    have C2 := hid (C1.out.below b2)
    have hcp2 : n ≤ c2 := own_cap o2.row
    have hcm2 : c2 ≤ 9223372036854775807 := by have := own_capM o2.row; simp only [maxLen] at this; exact this
    have t2 := below_step b1 b2
    clear o2 b1 b2 M1 C1
    go_wp2_with fail
    refine (specOrder_g HL Hn Hm Hk _ _ _ _ _ M2.out Hs C2.out (by omega)).mono ?_; rintro e w3 ⟨A3, c3, rfl, o3, b3⟩
    have O3 := hid o3
    have P2 := hid (O2.out.below b3)
    have M3 := hid (M2.out.below b3)
    have C3 := hid (C2.out.below b3)
    have t3 := below_step t2 b3
    clear o3 b3 O2 M2 C2 t2
    go_wp2_with fail
    refine (sameInts_n Hn (by omega) _ _ _ _ _ P2.out.cells O3.out.cells).mono ?_; rintro e w4 ⟨rfl, b4⟩
    have O4 := hid (O3.out.below b4)
    have P4 := hid (P2.out.below b4)
    have M4 := hid (M3.out.below b4)
    have C4 := hid (C3.out.below b4)
    have t4 := below_step t3 b4
    clear b4 O3 P2 M3 C3 t3
    go_wp2_with fail
    go_loopw [7] (fun i wr => ∃ k : Nat, 1 ≤ k ∧ (k ≤ n ∨ k = 1) ∧ i = .int .i64 k ∧ Below w4.heap.size w4 wr) (fun i _ => n - (intOf i).toNat)
    case atStart => exact ⟨1, Nat.le_refl _, .inr rfl, rfl, Below.refl _ _⟩
    case round =>
      obtain ⟨k, hk1, hk, rfl, hb⟩ := hrel
      by_cases hlt : k < n
      · obtain ⟨j, rfl⟩ : ∃ j, k = j + 1 := ⟨k - 1, by omega⟩
        obtain ⟨x, hx⟩ : ∃ x, L[j]? = some x := ⟨L[j]'(by rw [Hn.out]; omega), List.getElem?_eq_getElem _⟩
        obtain ⟨y, hy⟩ : ∃ y, L[j + 1]? = some y := ⟨L[j + 1]'(by rw [Hn.out]; exact hlt), List.getElem?_eq_getElem _⟩
        have hxy : bef (keyC ps) x y := pair_at (by rw [← HL.out]; exact orderG_sorted _ _) hx hy
        obtain ⟨p, rfl, hp16, hcx, -, -⟩ := countG_mem (ps := ps) (mine := mine) (x := x) (by rw [HL.out]; exact List.mem_of_getElem? hx)
        obtain ⟨q, rfl, hq16, hcy, -, -⟩ := countG_mem (ps := ps) (mine := mine) (x := y) (by rw [HL.out]; exact List.mem_of_getElem? hy)
        have Mr := hid (M4.out.below hb)
        have Pr := hid (P4.out.below hb)
        obtain ⟨g, off, rfl, hc0⟩ := Pr.out.cells.int_of hx
        obtain ⟨_, _, hA, hc1⟩ := Pr.out.cells.int_of hy
        injection hA with hA; injection hA with hA1 hA2; subst hA1; subst hA2
        have HX := hid hcx
        have HY := hid hcy
        obtain ⟨cx, hcx2⟩ : ∃ cx, cnt ps p = cx := ⟨_, rfl⟩
        obtain ⟨cy, hcy2⟩ : ∃ cy, cnt ps q = cy := ⟨_, rfl⟩
        have hxy2 : cx < cy ∨ (cx = cy ∧ p < q) := by
          rcases hxy with h | ⟨h, h2⟩
          · left; simp only [keyC, Int.toNat_natCast, hcx2, hcy2] at h; omega
          · right; simp only [keyC, Int.toNat_natCast, hcx2, hcy2] at h; omega
        have HX2 : Hid (countG ps p = cx) := by unfold Hid; rw [HX.out, hcx2]
        have HY2 : Hid (countG ps q = cy) := by unfold Hid; rw [HY.out, hcy2]
        have k1 : IntKind.i64.wrap (((j + 1 : Nat) : Int) - 1) = (j : Int) := by rw [show ((j + 1 : Nat) : Int) - 1 = j by omega]; exact IntWalk.i64_in _ (by omega)
        have k2 : IntKind.i64.wrap ((j : Int) + 1 - 1) = (j : Int) := by rw [show (j : Int) + 1 - 1 = j by omega]; exact IntWalk.i64_in _ (by omega)
        clear hx hy hxy hcx hcy hcx2 hcy2
        go_wp2_with fail
        refine (implCount_n Hm Hs _ _ _ _ HX2 _ Mr.out).mono ?_; rintro e w5 ⟨rfl, rfl⟩
        go_wp2_with fail
        refine (implCount_n Hm Hs _ _ _ _ HY2 _ Mr.out).mono ?_; rintro e w5 ⟨rfl, rfl⟩
        rcases hxy2 with h | ⟨h, h2⟩
        · have d1 : decide ((cy : Int) < (cx : Int)) = false := by simp; omega
          have d2 : ((cx : Int) == (cy : Int)) = false := by rw [beq_eq_false_iff_ne]; omega
          have d1n : decide (cy < cx) = false := by simp; omega
          have d2n : (cx == cy) = false := by rw [beq_eq_false_iff_ne]; omega
          clear h
          go_wp2
          go_quiet (fail)
          clear k1 k2
          go_wp2
          go_roundw
          case rel => exact ⟨j + 1 + 1, by omega, .inl (by omega), by go_num, below_drewN hb _⟩
          case measure => simp [intOf]; omega
        · subst h
          have d1 : decide ((cx : Int) < (cx : Int)) = false := by simp
          have d3 : decide ((q : Int) ≤ (p : Int)) = false := by simp; omega
          have d3n : decide (q ≤ p) = false := by simp; omega
          clear h2
          go_wp2
          go_quiet (fail)
          clear k1 k2
          go_wp2
          go_roundw
          case rel => exact ⟨j + 1 + 1, by omega, .inl (by omega), by go_num, below_drewN hb _⟩
          case measure => simp [intOf]; omega
      · go_wp2
        go_ret
        exact ⟨rfl, below_step t4 hb⟩

end Go.Proofs.Ytckbpiapkooamaa
