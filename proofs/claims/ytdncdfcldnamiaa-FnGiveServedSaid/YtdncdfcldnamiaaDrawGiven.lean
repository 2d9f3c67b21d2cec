/- Contracts of the draws of chapter 23. -/
import Derived.Test.YtdncdfcldnamiaaDraw
namespace Go.Proofs.Ytdncdfcldnamiaa
open Go.RowKit

/-- A drawn slice of ints, of bounded length, in new memory; the reader has gone on; only its block has changed. -/
def DrawnInts (w : World) (g p most more : Nat) (e : Ending) (w' : World) : Prop :=
  ∃ A c zs p', e = .returned (.slice A zs.length c) ∧ zs.length ≤ most ∧ Own w' w.heap.size w'.heap.size 3 1 A c zs.length (ints zs) ∧ Rd w' g p' ∧ p' ≤ p + more ∧ Only g w w'

theorem own_only {w w' : World} {base g : Nat} {e : TypeId} {size n : Nat} {v : Value} {xs : List Value} (h : w.ownsRow base e size v n xs) (hg : g < base) (hc : Only g w w') : w'.ownsRow base e size v n xs := by
  refine ⟨h.1, ?_⟩
  rcases h.2 with hv | ⟨k, cap, cur, hv, hk, hh, r⟩
  · exact .inl hv
  · exact .inr ⟨k, cap, cur, hv, hk, by rw [hc.block k (Array.getElem?_eq_some_iff.1 hh).1 (.inr (by omega))]; exact hh, r⟩

theorem rd_grown {w w' : World} {g p B : Nat} (h : Rd w g p) (hb : Below B w w') (hB : g < B) : Rd w' g p := by
  obtain ⟨A, c, us, hk, hc, hu, hl⟩ := h
  refine ⟨A, c, us, hk.below hb hB, ?_, hu, hl⟩
  rcases hc with hc | ⟨b, off, hA, h1, h2, h3⟩
  · exact .inl hc
  · exact .inr ⟨b, off, hA, h1, by have := hb.size; omega, fun i v hv => (hb.cell (p := ⟨b, off + i, none⟩) (show b < B by omega)).trans (h3 i v hv)⟩
theorem only_grown {g B : Nat} {w w' : World} (hb : Below B w w') (hB : w.heap.size ≤ B) : Only g w w' :=
  ⟨hb.os, hb.tape, hb.output, hb.size, fun k hk _ => hb.block k (by omega)⟩
theorem only_step {g B : Nat} {a w w' : World} (h : Only g a w) (hb : Below B w w') (hB : a.heap.size ≤ B) : Only g a w' :=
  ⟨hb.os.trans h.os, hb.tape.trans h.tape, hb.output.trans h.output, Nat.le_trans h.size hb.size, fun k hk hd => (hb.block k (by omega)).trans (h.block k hk hd)⟩

theorem only_set {g gb : Nat} {a w : World} (h : Only g a w) (hB : a.heap.size ≤ gb) (i : Nat) (u : Value) : Only g a (w.setCell ⟨gb, i, none⟩ u) :=
  ⟨h.os, h.tape, h.output, by simpa [World.setCell] using h.size, fun k hk hd => (Below.heap_setCell _ _ _ _ (by simp; omega)).trans (h.block k hk hd)⟩

set_option maxHeartbeats 1000000 in
theorem l92Given_any (g p : Nat) (w : World) (hr : Rd w g p) (hp : p ≤ 1000000000) :
    Calls Try.prog 40 #[.pointer (some ⟨g, 0, none⟩)] w (DrawnInts w g p 7 100) := by
  have hgl := hr.lt
  go_enter Try.func40, Try.ntmps40
  go_wp2_with fail
  have hr1 := hr.below ((Below.refl _ _).alloc (Nat.le_refl _) (.cells #[] 3))
  refine (pick_any _ _ _ _ hr1 (by omega) (by omega)).mono ?_
  rintro e w1 ⟨n, rfl, n0, n1, -, r1, o1, -⟩
  have n1 := n1 (by omega)
  have own1 := own_only (own_empty w 3 1 (Nat.le_refl _)) hgl o1
  have on1 : Only g w w1 := Only.trans (only_grown ((Below.refl _ _).alloc (Nat.le_refl _) (.cells #[] 3)) (Nat.le_refl _)) o1
  obtain ⟨N, rfl⟩ := Int.eq_ofNat_of_zero_le n0
  have hs1 := on1.size
  go_wp2_with fail
  go_loopw [3, 5] (fun out i wr => ∃ (k : Nat) (A' : Option Addr) (c' : Nat) (zs : List Int) (p' : Nat), k ≤ N ∧ i = .int .i64 k ∧ out = .slice A' k c' ∧ Hid (zs.length = k) ∧ wr.ownsRow w.heap.size 3 1 (.slice A' k c') k (ints zs) ∧ Rd wr g p' ∧ p' ≤ p + 1 + 3 * k ∧ Only g w wr) (fun _ i _ => N - (intOf i).toNat)
  case atStart => exact ⟨0, _, _, [], p + 1, Nat.zero_le _, rfl, rfl, rfl, own1, r1, by omega, on1⟩
  case round =>
    clear own1 r1 o1 on1 hr1 hr
    obtain ⟨k, A', c', zs, p', hk, rfl, rfl, hzl, own, rd, hp', on⟩ := hrel
    have hsz := on.size
    by_cases hlt : k < N
    · go_wp2_with fail
      refine (pick_any _ _ _ _ rd (by omega) (by omega)).mono ?_
      rintro e w2 ⟨m1, rfl, a0, a1, -, r2, o2, -⟩
      have a1 := a1 (by omega)
      go_wp2_with fail
      refine (pick_any _ _ _ _ r2 (by omega) (by omega)).mono ?_
      rintro e w3 ⟨m2, rfl, b0, b1, -, r3, o3, -⟩
      have b1 := b1 (by omega)
      have ab0 : 0 ≤ m1 * m2 := Int.mul_nonneg a0 b0
      have ab1 : m1 * m2 ≤ 4 * 3 := Int.mul_le_mul (by omega) (by omega) b0 (by omega)
      go_wp2_with fail
      refine (pick_any _ _ _ _ r3 (by omega) (by omega)).mono ?_
      rintro e w4 ⟨m3, rfl, d0, d1, -, r4, o4, -⟩
      have d1 := d1 (by omega)
      have own4 := own_only (own_only (own_only own hgl o2) hgl o3) hgl o4
      have on4 := ((on.trans o2).trans o3).trans o4
      have hs4 := on4.size
      clear own rd on r2 r3 o2 o3 o4
      go_wp2_with (at_builtin; refine wpList_app rfl (.tmp 14) (.tmp 25) 22 rfl w.heap.size Try.underlying22 info_int rfl (by omega) (by omega) A' k c' _ rfl (own4.alloc _) (some ⟨w4.heap.size, 0, none⟩) 1 1 [.int .i64 (m1 * m2 + m3 / 11 * 90)] rfl rfl (cells_one _ _ _) (one_int _) (k + 1) _ rfl (ints_snoc _ _) (by omega) (by simp; omega) ?_; intro A2 c2 w5 ho5 hb5)
      have hgr := ((Below.refl w.heap.size w4).alloc hs4 (.cells #[.int .i64 (m1 * m2 + m3 / 11 * 90)] 3)).trans hb5
      go_roundw
      case rel => exact ⟨k + 1, A2, c2, _, p' + 1 + 1 + 1, by omega, by go_num, rfl, by unfold Hid; rw [List.length_append, hzl.out]; rfl, ho5, rd_grown r4 hgr hgl, by omega, only_step on4 hgr (Nat.le_refl _)⟩
      case measure => simp [intOf]; omega
    · obtain rfl : k = N := by omega
      go_wp2_with fail
      refine (pick_any _ _ _ _ rd (by omega) (by omega)).mono ?_
      rintro e w2 ⟨s, rfl, a0, a1, -, r2, o2, -⟩
      have a1 := a1 (by omega)
      have own2 := own_only own hgl o2
      have on2 := on.trans o2
      have hs2 := on2.size
      clear own rd on o2 hlt
      by_cases h0 : s = 0
      · subst h0
        go_wp2_with fail
        refine (pick_any _ _ _ _ r2 (by omega) (by omega)).mono ?_
        rintro e w3 ⟨m2, rfl, b0, b1, -, r3, o3, -⟩
        have own3 := own_only own2 hgl o3
        have on3 := on2.trans o3
        have hs3 := on3.size
        clear own2 r2 on2 o3
        go_wp2_with (at_builtin; refine wpList_app rfl (.tmp 31) (.tmp 34) 22 rfl w.heap.size Try.underlying22 info_int rfl (by omega) (by omega) A' k c' _ rfl (own3.alloc _) (some ⟨w3.heap.size, 0, none⟩) 1 1 [.int .i64 m2] rfl rfl (cells_one _ _ _) (one_int _) (k + 1) _ rfl (ints_snoc _ _) (by omega) (by simp; omega) ?_; intro A2 c2 w5 ho5 hb5)
        have hgr := ((Below.refl w.heap.size w3).alloc hs3 (.cells #[.int .i64 m2] 3)).trans hb5
        have hlen : Hid ((zs ++ [m2]).length = k + 1) := by unfold Hid; rw [List.length_append, hzl.out]; rfl
        have ho6 := hid ho5
        clear ho5 hb5
        go_wp2
        go_ret
        refine ⟨A2, c2, zs ++ [m2], p' + 1 + 1, by rw [hlen.out]; rfl, by rw [hlen.out]; omega, ?_, rd_grown r3 hgr hgl, by omega, only_step on3 hgr (Nat.le_refl _)⟩
        rw [hlen.out]
        exact Own.of_row ho6.out
      · have hb0 : (s == 0) = false := by rw [beq_eq_false_iff_ne]; exact h0
        by_cases h1 : s = 1 ∧ 0 < k
        · obtain ⟨h1, hk0⟩ := h1
          subst h1
          clear h0 hb0
          go_wp2_with fail
          refine (pick_any _ _ _ _ r2 (by omega) (by omega)).mono ?_
          rintro e w3 ⟨m, rfl, b0, b1, -, r3, o3, -⟩
          have b1 := b1 (by omega)
          have own3 := own_only own2 hgl o3
          have on3 := on2.trans o3
          have hs3 := on3.size
          clear own2 r2 on2 o3
          go_wp2_with fail
          have hbel := (Below.refl w3.heap.size w3).alloc (Nat.le_refl _) (.cells #[.int .i64 (-1), .int .i64 99, .int .i64 100] 3)
          have r3' := r3.below hbel
          have hq := fun j => cell_of_row (w3.alloc (.cells #[.int .i64 (-1), .int .i64 99, .int .i64 100] 3)) w3.heap.size j _ 3 (0, 0) (heap_alloc_new w3 _)
          refine (pick_any _ _ _ _ r3' (by omega) (by omega)).mono ?_
          rintro e w4 ⟨t, rfl, d0, d1, -, r4, o4, -⟩
          have d1 := d1 (by omega)
          have hq4 : ∀ j, w4.cell? ⟨w3.heap.size, j, none⟩ = (#[Value.int .i64 (-1), .int .i64 99, .int .i64 100])[j]? := fun j => by
            rw [← hq j]
            exact World.cell?_of_block (o4.block w3.heap.size (by simp) (.inr (by omega)))
          have own4 := own_only (own3.alloc (.cells #[.int .i64 (-1), .int .i64 99, .int .i64 100] 3)) hgl o4
          have on4 := (on3.trans (only_grown (g := g) hbel (Nat.le_refl _))).trans o4
          obtain ⟨M, rfl⟩ := Int.eq_ofNat_of_zero_le b0
          obtain ⟨v, hv⟩ : ∃ v, zs[M]? = some v := ⟨zs[M]'(by rw [hzl.out]; omega), List.getElem?_eq_getElem _⟩
          have Own4 : Own w4 w.heap.size w4.heap.size 3 1 A' c' k (ints zs) := Own.of_row own4
          obtain ⟨gb, rfl, hlo, hhi, hcg, hfg⟩ := Own4.int_of hv
          have Own5 := hid Own4
          have hv2 := hid hv
          clear own3 own4 Own4 r3 r3' hq hv on3 o4
          have hz3 := hid hzl
          obtain rfl | rfl | rfl : t = 0 ∨ t = 1 ∨ t = 2 := by omega
          · have hx := hq4 0
            simp only [List.getElem?_toArray, List.getElem?_cons_zero] at hx
            have Hq := hid hq4
            clear hq4
            go_wp2
            go_ret
            refine ⟨_, _, zs.set M (-1), p' + 1 + 1 + 1, by rw [List.length_set, hzl.out]; rfl, by rw [List.length_set, hzl.out]; omega, ?_, r4.chg (chg_set w4 hlo (Nat.lt_succ_self gb) _ _) hgl, by omega, only_set on4 hlo _ _⟩
            rw [List.length_set, hzl.out, ← ints_set]
            exact (Own5.out.set _ _).weak (Nat.le_refl _) (by simp)
          · have hx := hq4 1
            simp only [List.getElem?_toArray, List.getElem?_cons_zero, List.getElem?_cons_succ] at hx
            have Hq := hid hq4
            clear hq4
            go_wp2
            go_ret
            refine ⟨_, _, zs.set M 99, p' + 1 + 1 + 1, by rw [List.length_set, hzl.out]; rfl, by rw [List.length_set, hzl.out]; omega, ?_, r4.chg (chg_set w4 hlo (Nat.lt_succ_self gb) _ _) hgl, by omega, only_set on4 hlo _ _⟩
            rw [List.length_set, hzl.out, ← ints_set]
            exact (Own5.out.set _ _).weak (Nat.le_refl _) (by simp)
          · have hx := hq4 2
            simp only [List.getElem?_toArray, List.getElem?_cons_zero, List.getElem?_cons_succ] at hx
            have Hq := hid hq4
            clear hq4
            go_wp2
            go_ret
            refine ⟨_, _, zs.set M 100, p' + 1 + 1 + 1, by rw [List.length_set, hzl.out]; rfl, by rw [List.length_set, hzl.out]; omega, ?_, r4.chg (chg_set w4 hlo (Nat.lt_succ_self gb) _ _) hgl, by omega, only_set on4 hlo _ _⟩
            rw [List.length_set, hzl.out, ← ints_set]
            exact (Own5.out.set _ _).weak (Nat.le_refl _) (by simp)
        · have Own2 := hid own2
          clear own2
          by_cases h2 : s = 1
          · subst h2
            obtain rfl : k = 0 := by omega
            clear h0 hb0 h1
            have hz3 := hid hzl
            go_wp2
            go_ret
            refine ⟨_, _, zs, p' + 1, by rw [hzl.out]; rfl, by rw [hzl.out]; omega, ?_, r2, by omega, on2⟩
            rw [hzl.out]
            exact Own.of_row Own2.out
          · have hb1 : (s == 1) = false := by rw [beq_eq_false_iff_ne]; exact h2
            clear h0 h1 h2
            go_wp2
            go_ret
            refine ⟨_, _, zs, p' + 1, by rw [hzl.out]; rfl, by rw [hzl.out]; omega, ?_, r2, by omega, on2⟩
            rw [hzl.out]
            exact Own.of_row Own2.out

end Go.Proofs.Ytdncdfcldnamiaa
