/- slices.Compact at []int: the walk. -/
import Derived.Test.YtpnahccmdebifaaF4
namespace Go.Proofs.Ytpnahccmdebifaa
open Go.RowKit

/-- What Compact leaves: the row's first elements, each run once. -/
def RetC (w : World) (lo hi : Nat) (A : Option Addr) (c : Nat) (l : List Int) (e : Ending) (w' : World) : Prop :=
  e = .returned (.slice A (compTo l l.length).length c) ∧ Own w' lo hi 3 1 A c (compTo l l.length).length (ints (compTo l l.length)) ∧ Chg lo hi w w'
theorem chg_drawn (lo hi : Nat) (w : World) (n : Nat) : Chg lo hi w (w.drewN n) := (Chg.refl lo hi w).drewN n
theorem retC_same {w w' : World} {lo hi : Nat} {A : Option Addr} {c : Nat} {l : List Int} (h : compTo l l.length = l) (ho : Own w' lo hi 3 1 A c l.length (ints l)) (hc : Chg lo hi w w') : RetC w lo hi A c l (.returned (.slice A l.length c)) w' := by
  unfold RetC
  rw [h]
  exact ⟨rfl, ho, hc⟩
theorem ints_take (l : List Int) (k : Nat) : (ints l).take k = ints (l.take k) := by unfold ints; rw [List.map_take]

theorem take_set_snoc {M : List Int} {q : Nat} {u : Int} (h : q < M.length) : (M.set q u).take (q + 1) = M.take q ++ [u] := by
  rw [take_snoc _ _ u (by rw [List.getElem?_set_self h]), List.take_set_of_le (Nat.le_refl _)]
theorem zero_int (w : World) : (zeroValue 3).run Try.prog w = .ok (.int .i64 0) w := by simp [go_sem]

set_option maxHeartbeats 4000000 in
theorem compact_any (A : Option Addr) (c lo hi : Nat) (l : List Int) (w : World) (ho : Own w lo hi 3 1 A c l.length (ints l)) (hm : l.length ≤ 1000) :
    Calls Try.prog 16 #[.slice A l.length c] w (RetC w lo hi A c l) := by
  have HO := hid ho
  clear ho
  by_cases h2 : l.length < 2
  · have hs : Hid (compTo l l.length = l) := by
      rcases l with _ | ⟨x, _ | ⟨y, r⟩⟩
      · rfl
      · exact compTo_one rfl
      · simp at h2; omega
    go_enter Try.func16, Try.ntmps16
    go_wp2
    go_ret
    exact retC_same hs.out HO.out (Chg.refl _ _ _)
  · obtain ⟨g, hA, -, -, -, hfz⟩ := HO.out.of_get (k := 0) (v := .int .i64 (l[0]'(by omega))) (by rw [ints_get, List.getElem?_eq_getElem (by omega)]; rfl)
    subst hA
    have hcap : l.length ≤ c := own_cap HO.out.row
    have hcm : c ≤ 9223372036854775807 := by have := own_capM HO.out.row; simp only [maxLen] at this; exact this
    clear hfz
    go_enter Try.func16, Try.ntmps16
    go_wp2
    go_loopw [3] (fun i wr => ∃ k : Nat, 1 ≤ k ∧ k ≤ l.length ∧ i = .int .i64 k ∧ Hid (compTo l k = l.take k) ∧ ∃ n, wr = w.drewN n) (fun i _ => l.length - (intOf i).toNat)
    case atStart => exact ⟨1, Nat.le_refl _, by omega, rfl, by unfold Hid; rw [compTo_one (x := l[0]'(by omega)) (List.getElem?_eq_getElem (by omega))]; rcases l with _ | ⟨x, r⟩; simp at h2; simp, 0, rfl⟩
    case round =>
      obtain ⟨k, hk1, hk, rfl, hct, n, rfl⟩ := hrel
      by_cases hlt : k < l.length
      · obtain ⟨x, hx⟩ : ∃ x, l[k]? = some x := ⟨_, List.getElem?_eq_getElem hlt⟩
        obtain ⟨y, hy⟩ : ∃ y, l[k - 1]? = some y := ⟨_, List.getElem?_eq_getElem (show k - 1 < l.length by omega)⟩
        obtain ⟨g1, hA1, -, -, hc1, -⟩ := HO.out.int_of hx
        obtain ⟨g2, hA2, -, -, hc2, -⟩ := HO.out.int_of hy
        injection hA1 with hA1; injection hA1 with hA1; subst hA1
        injection hA2 with hA2; injection hA2 with hA2; subst hA2
        have Hx := hid hx
        have Hy := hid hy
        have k1 : IntKind.i64.wrap ((k : Int) - 1) = ((k - 1 : Nat) : Int) := by rw [show ((k - 1 : Nat) : Int) = (k : Int) - 1 by omega]; exact IntWalk.i64_in _ (by omega)
        have k2 : (0 : Int) ≤ ((k - 1 : Nat) : Int) := by omega
        have k3 : k - 1 < l.length := by omega
        clear hx hy
        by_cases hxy : x = y
        · have e1 : (x == y) = true := by rw [beq_iff_eq]; exact hxy
          have Hxy := hid hxy
          have hkc : k < c := by omega
          have hkc2 : ¬ k = c := by omega
          have hkc3 : (k == c) = false := by rw [beq_eq_false_iff_ne]; omega
          clear hxy
          go_wp2
          go_quiet (fail)
          go_wp2_with fail
          go_loopw [3, 5] (fun i i2 wr => ∃ (q k2 : Nat) (M : List Int), i = .int .i64 q ∧ i2 = .int .i64 k2 ∧ 1 ≤ k2 ∧ k + k2 ≤ l.length ∧ 1 ≤ q ∧ q < k + k2 ∧ Hid (M.length = l.length) ∧ Hid (M.take q = compTo l (k + k2)) ∧ Hid (∀ j, k + k2 ≤ j + 1 → M[j]? = l[j]?) ∧ Hid (Own wr lo hi 3 1 (some ⟨g, 0, none⟩) c l.length (ints M)) ∧ Chg lo hi w wr) (fun _ i2 _ => l.length - (intOf i2).toNat)
          case atStart => exact ⟨k, 1, l, rfl, rfl, Nat.le_refl _, by omega, by omega, by omega, rfl, by unfold Hid; rw [compTo_same (by omega) Hx.out (by rw [Hxy.out]; exact Hy.out), hct.out], fun _ _ => rfl, HO.out.drewN _, chg_drawn _ _ _ _⟩
          case round =>
            clear hc1 hc2 k1 k2 k3 e1
            obtain ⟨q, k2, M, rfl, rfl, hk21, hk2, hq1, hq, hM, htk, hsame, own, hch⟩ := hrel
            by_cases hlt2 : k2 < l.length - k
            · obtain ⟨u, hu⟩ : ∃ u, l[k + k2]? = some u := ⟨_, List.getElem?_eq_getElem (by omega)⟩
              obtain ⟨v, hv⟩ : ∃ v, l[k + k2 - 1]? = some v := ⟨_, List.getElem?_eq_getElem (show k + k2 - 1 < l.length by omega)⟩
              obtain ⟨g1, hA1, -, -, hc1, -⟩ := own.out.int_of ((hsame.out (k + k2) (by omega)).trans hu)
              obtain ⟨g2, hA2, -, -, hc2, -⟩ := own.out.int_of ((hsame.out (k + k2 - 1) (by omega)).trans hv)
              obtain ⟨g3, hA3, hlo3, hhi3, hc3, hf3⟩ := own.out.int_of (k := q) (z := M[q]'(by rw [hM.out]; omega)) (List.getElem?_eq_getElem _)
              injection hA1 with hA1; injection hA1 with hA1; subst hA1
              injection hA2 with hA2; injection hA2 with hA2; subst hA2
              injection hA3 with hA3; injection hA3 with hA3; subst hA3
              have Hu := hid hu
              have Hv := hid hv
              have m1 : IntKind.i64.wrap ((k2 : Int) - 1) = ((k2 - 1 : Nat) : Int) := by rw [show ((k2 - 1 : Nat) : Int) = (k2 : Int) - 1 by omega]; exact IntWalk.i64_in _ (by omega)
              have m2 : (0 : Int) ≤ ((k2 - 1 : Nat) : Int) := by omega
              have m3 : k2 - 1 < l.length - k := by omega
              have m4 : k + (k2 - 1) = k + k2 - 1 := by omega
              rw [← m4] at hc2
              have hqn : q < l.length := by omega
              clear hu hv m4
              by_cases huv : u = v
              · have e2 : (u == v) = true := by rw [beq_iff_eq]; exact huv
                have e3 : (u != v) = false := by rw [bne_eq_false_iff_eq]; exact huv
                have Huv := hid huv
                clear huv
                go_wp2
                go_quiet (fail)
                go_wp2
                go_roundw
                case rel => exact ⟨q, k2 + 1, M, rfl, by go_num, by omega, by omega, hq1, by omega, hM, by unfold Hid; rw [← Nat.add_assoc, compTo_same (by omega) Hu.out (by rw [Huv.out]; exact Hv.out)]; exact htk.out, by unfold Hid; intro j hj; exact hsame.out j (by omega), own.out.drewN _, hch.drewN _⟩
                case measure => simp [intOf]; omega
              · have e2 : (u == v) = false := by rw [beq_eq_false_iff_ne]; exact huv
                have e3 : (u != v) = true := by rw [bne_iff_ne]; exact huv
                have Huv := hid huv
                clear huv
                go_wp2
                go_quiet (fail)
                go_wp2
                go_roundw
                case rel => exact ⟨q + 1, k2 + 1, M.set q u, by go_num, by go_num, by omega, by omega, by omega, by omega, by unfold Hid; rw [List.length_set]; exact hM.out, by unfold Hid; rw [← Nat.add_assoc, compTo_new Hu.out Hv.out Huv.out, ← htk.out]; exact take_set_snoc (by rw [hM.out]; exact hqn), by unfold Hid; intro j hj; rw [List.getElem?_set_ne (by omega)]; exact hsame.out j (by omega), by unfold Hid; rw [← ints_set]; exact (own.out.drewN _).set q _, (hch.drewN _).trans (chg_set _ hlo3 hhi3 _ _)⟩
                case measure => simp [intOf]; omega
            · obtain rfl : k2 = l.length - k := by omega
              have hlen : Hid ((compTo l l.length).length = q) := by
                unfold Hid
                have h1 := htk.out
                rw [show k + (l.length - k) = l.length by omega] at h1
                rw [← h1, List.length_take, hM.out]; omega
              have htk2 : Hid (M.take q = compTo l l.length) := by
                unfold Hid
                have h1 := htk.out
                rwa [show k + (l.length - k) = l.length by omega] at h1
              have hqn : q < l.length := by omega
              have hqc : q < c := by omega
              have hqc2 : ¬ q = c := by omega
              have hqc3 : (q == c) = false := by rw [beq_eq_false_iff_ne]; omega
              have hq0 : 0 < l.length - q := by omega
              have hcel : ∀ j, j < l.length - q → (wr.cell? ⟨g, q + j, none⟩).isSome = true := by
                intro j hj
                obtain ⟨g9, hA9, -, -, h9, -⟩ := own.out.int_of (k := q + j) (z := M[q + j]'(by rw [hM.out]; omega)) (List.getElem?_eq_getElem _)
                injection hA9 with hA9; injection hA9 with hA9; subst hA9
                rw [h9]; rfl
              have hfr : ∀ j, j < l.length - q → wr.frozen? ⟨g, q + j, none⟩ = false := by
                intro j hj
                obtain ⟨g9, hA9, -, -, -, h9⟩ := own.out.int_of (k := q + j) (z := M[q + j]'(by rw [hM.out]; omega)) (List.getElem?_eq_getElem _)
                injection hA9 with hA9; injection hA9 with hA9; subst hA9
                exact h9
              have Hcel := hid hcel
              have Hfr := hid hfr
              have hcl := hid ((own.out.front (k := q) (by omega)).cleared (.int .i64 0) (l.length - q) q (Nat.le_refl _))
              clear hcel hfr hlt2
              go_wp2_with (refine wpList_clear rfl rfl (.tmp 56) 25 3 rfl (.int .i64 0) Try.underlying25 zero_int rfl rfl g q (l.length - q) (c - q) rfl hq0 Hcel.out Hfr.out ?_)
              go_ret
              unfold RetC
              rw [hlen.out, ← htk2.out, ← ints_take]
              exact ⟨rfl, hcl.out.1, hch.trans hcl.out.2⟩
        · have e1 : (x == y) = false := by rw [beq_eq_false_iff_ne]; exact hxy
          have Hxy := hid hxy
          clear hxy
          go_wp2
          go_quiet (fail)
          go_wp2
          go_roundw
          case rel => exact ⟨k + 1, by omega, by omega, by go_num, by unfold Hid; rw [compTo_new Hx.out Hy.out Hxy.out, hct.out, take_snoc _ _ _ Hx.out], _, rfl⟩
          case measure => simp [intOf]; omega
      · obtain rfl : k = l.length := by omega
        have hs : Hid (compTo l l.length = l) := by unfold Hid; rw [hct.out, List.take_length]
        clear hlt
        go_wp2
        go_ret
        exact retC_same hs.out (HO.out.drewN _) (chg_drawn _ _ _ _)

end Go.Proofs.Ytpnahccmdebifaa
