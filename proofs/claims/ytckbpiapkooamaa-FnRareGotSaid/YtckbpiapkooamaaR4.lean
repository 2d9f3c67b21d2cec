/- impl.RareOrder. -/
import Derived.Test.YtckbpiapkooamaaR3
namespace Go.Proofs.Ytckbpiapkooamaa
open Go.RowKit

/-- The blocks that are wanted and that somebody has, below k. -/
def candL (ps : List Bits) (mine : Bits) (k : Nat) : List Int := (idx k).filter fun i => lack mine i.toNat && decide (0 < cnt ps i.toNat)
theorem candL_yes {ps : List Bits} {mine : Bits} {k : Nat} (h : bitAt mine k = false) (h2 : 0 < cnt ps k) : candL ps mine (k + 1) = candL ps mine k ++ [(k : Int)] := by
  unfold candL; rw [idx_snoc, List.filter_append]; congr 1; simp [lack, h, h2]
theorem candL_no {ps : List Bits} {mine : Bits} {k : Nat} (h : bitAt mine k = true ∨ ¬ 0 < cnt ps k) : candL ps mine (k + 1) = candL ps mine k := by
  unfold candL; rw [idx_snoc, List.filter_append]
  rcases h with h | h
  · simp [lack, h]
  · simp [h]
def keyC (ps : List Bits) (i : Int) : Int := (cnt ps i.toNat : Int)
theorem candL_asc (ps : List Bits) (mine : Bits) (k : Nat) : (candL ps mine k).Pairwise (· < ·) := (idx_asc _).filter _
theorem candL_mem {ps : List Bits} {mine : Bits} {k : Nat} {x : Int} : x ∈ candL ps mine k ↔ ∃ b : Nat, b < k ∧ x = b ∧ bitAt mine b = false ∧ 0 < cnt ps b := by
  unfold candL; rw [List.mem_filter, idx_mem]
  constructor
  · rintro ⟨⟨b, hb, rfl⟩, h⟩
    simp [lack] at h
    exact ⟨b, hb, rfl, h.1, h.2⟩
  · rintro ⟨b, hb, rfl, h1, h2⟩
    exact ⟨⟨b, hb, rfl⟩, by simp [lack, h1, h2]⟩
theorem rowTo_mem {ps : List Bits} {mine : Bits} {n k : Nat} {x : Int} : x ∈ rowTo ps mine n k ↔ ∃ b : Nat, b < k ∧ x = b ∧ bitAt mine b = false ∧ cnt ps b = n := by
  unfold rowTo; rw [List.mem_filter, idx_mem]
  constructor
  · rintro ⟨⟨b, hb, rfl⟩, h⟩
    simp [pickB, lack] at h
    exact ⟨b, hb, rfl, h.1, h.2⟩
  · rintro ⟨b, hb, rfl, h1, h2⟩
    exact ⟨⟨b, hb, rfl⟩, by simp [pickB, lack, h1, h2]⟩
theorem specTo_mem {ps : List Bits} {mine : Bits} {n : Nat} {x : Int} : x ∈ specTo ps mine n ↔ ∃ b : Nat, b < 16 ∧ x = b ∧ bitAt mine b = false ∧ 0 < cnt ps b ∧ cnt ps b ≤ n := by
  induction n with
  | zero => simp only [specTo, List.not_mem_nil, false_iff]; rintro ⟨b, _, _, _, h1, h2⟩; omega
  | succ n ih =>
    simp only [specTo, List.mem_append, ih, rowTo_mem]
    constructor
    · rintro (⟨b, h1, h2, h3, h4, h5⟩ | ⟨b, h1, h2, h3, h4⟩)
      · exact ⟨b, h1, h2, h3, h4, by omega⟩
      · exact ⟨b, h1, h2, h3, by omega, by omega⟩
    · rintro ⟨b, h1, h2, h3, h4, h5⟩
      by_cases h : cnt ps b ≤ n
      · exact .inl ⟨b, h1, h2, h3, h4, h⟩
      · exact .inr ⟨b, h1, h2, h3, by omega⟩
theorem specTo_sorted (ps : List Bits) (mine : Bits) (n : Nat) : (specTo ps mine n).Pairwise (bef (keyC ps)) := by
  induction n with
  | zero => exact List.Pairwise.nil
  | succ n ih =>
    simp only [specTo]
    rw [List.pairwise_append]
    refine ⟨ih, ?_, ?_⟩
    · have h : (rowTo ps mine (n + 1) 16).Pairwise (· < ·) := (idx_asc _).filter _
      refine List.Pairwise.imp_of_mem ?_ h
      intro a b ha hb hlt
      obtain ⟨p, _, rfl, _, hp⟩ := rowTo_mem.1 ha
      obtain ⟨q, _, rfl, _, hq⟩ := rowTo_mem.1 hb
      exact .inr ⟨by simp [keyC, hp, hq], hlt⟩
    · intro a ha b hb
      obtain ⟨p, _, rfl, _, _, hp⟩ := specTo_mem.1 ha
      obtain ⟨q, _, rfl, _, hq⟩ := rowTo_mem.1 hb
      exact .inl (by simp [keyC]; omega)
theorem keyL_spec {key : Int → Int} {l : List Int} (hl : l.Pairwise (· < ·)) : (keyL key l).Perm l ∧ (keyL key l).Pairwise (bef key) := by
  obtain ⟨s, h1, h2, h3⟩ := isort_inv key l hl l.length (Nat.le_refl _)
  have e : keyL key l = s := by unfold keyL; rw [h1, List.drop_length, List.append_nil]
  rw [e]
  rw [List.take_length] at h2
  exact ⟨h2, h3⟩
theorem order_eq (ps : List Bits) (mine : Bits) : keyL (keyC ps) (candL ps mine 16) = specTo ps mine ps.length := by
  have h := keyL_spec (key := keyC ps) (candL_asc ps mine 16)
  refine sorted_ext (r := bef (keyC ps)) (fun a => bef_irrefl) (fun a b c h1 h2 => bef_trans h1 h2) _ _ h.2 (specTo_sorted _ _ _) fun x => ?_
  rw [h.1.mem_iff, candL_mem, specTo_mem]
  constructor
  · rintro ⟨b, h1, h2, h3, h4⟩; exact ⟨b, h1, h2, h3, h4, cnt_le _ _⟩
  · rintro ⟨b, h1, h2, h3, h4, _⟩; exact ⟨b, h1, h2, h3, h4⟩

theorem Mat.drewN {w : World} {A : Option Addr} {ps : List Bits} (h : Mat w A ps) (n : Nat) : Mat (w.drewN n) A ps := h

set_option maxHeartbeats 1000000 in
theorem cmp_any (A : Option Addr) (c : Nat) (ps : List Bits) (x y : Nat) (bx : Nat) (w : World) (hbx : w.cell? ⟨bx, 0, none⟩ = some (.slice A ps.length c)) (hr : Mat w A ps) (hm : ps.length ≤ 6) :
    Calls Try.prog 55 #[.int .i64 x, .int .i64 y, .pointer (some ⟨bx, 0, none⟩)] w fun e w' => e = .returned (.int .i64 ((cnt ps x : Int) - (cnt ps y : Int))) ∧ ∃ n, w' = w.drewN n := by
  have h1 := cnt_le ps x
  have h2 := cnt_le ps y
  have kw : IntKind.i64.wrap ((cnt ps x : Int) - (cnt ps y : Int)) = (cnt ps x : Int) - (cnt ps y : Int) := IntWalk.i64_in _ (by omega)
  have hC := hid (fun (n b : Nat) => (rareCount_any A c ps b (w.drewN n) (hr.drewN n) (by omega)).mono fun e w' ⟨he, hw⟩ => (show e = Ending.returned (.int .i64 (cnt ps b)) ∧ w' = w.drewN n from ⟨he, hw.symm⟩))
  clear hr
  go_enter Try.func55, Try.ntmps55
  go_wp2
  go_quiet ((go_at_call 48; exact Calls.quiet_of_same (hC.out _ _)))
  go_wp2
  go_ret
  exact ⟨rfl, _, rfl⟩

theorem sortF_n {caps : Array Value} {key : Int → Int} {A : Option Addr} {c lo hi n : Nat} {l : List Int} {w : World} (hn : Hid (l.length = n)) (ho : Own w lo hi 3 1 A c n (ints l)) (hm : n ≤ 19)
    (hc : CmpIs caps key l lo hi w) (hkey : ∀ x, -1000000 ≤ key x ∧ key x ≤ 1000000) :
    Calls Try.prog 54 #[.slice A n c, .func (.func 55) #[] caps] w fun e w' => e = .returned (.tuple #[]) ∧ Own w' lo hi 3 1 A c n (ints (keyL key l)) ∧ Chg lo hi w w' := by
  have h := hn.out
  subst h
  exact sortF_any caps key A c lo hi l w ho hm hc hkey

set_option maxHeartbeats 1000000 in
theorem implOrder_any (A B : Option Addr) (c d : Nat) (ps : List Bits) (mine : Bits) (w : World) (hr : Mat w A ps) (hs : Small ps) (hmi : Cells w B (bools mine)) (hml : mine.length ≤ 17592186044416) :
    Calls Try.prog 28 #[.slice A ps.length c, .slice B mine.length d] w (RetL w (orderG ps mine)) := by
  have hm : ps.length ≤ 17592186044416 := by have := hs.1; omega
  have b0 : Below w.heap.size w (w.alloc (.cells #[.slice A ps.length c] 22)) := (Below.refl _ _).alloc (Nat.le_refl _) _
  have hq := Blk.new w 22 [.slice A ps.length c]
  have hq0 := hq.cell 0
  simp only [List.getElem?_cons_zero] at hq0
  clear hq
  have hV := hid (peersValid_any A c ps _ (hr.below b0) hm (fun bs hb => by have := hs.2 bs hb; omega))
  cases hv : okB ps
  · have hfin := hid (orderG_bad (ps := ps) (mine := mine) (by rw [hv]; rfl))
    rw [hv] at hV
    clear hv hs
    go_enter Try.func28, Try.ntmps28
    go_wp2_with (go_at_call 46; refine hV.out.mono ?_; rintro e w1 ⟨rfl, rfl⟩)
    go_ret
    exact retL_of (by rw [hfin.out]; rfl) (by rw [hfin.out]; exact own_nil _ _ _ _ _) b0
  · rw [hv] at hV
    by_cases hi : mine.length ≤ 16
    · have hfin := hid (orderG_ok hv hi)
      have h6 := (okB_len hv).1
      have hd : decide ((16 : Int) < (mine.length : Int)) = false := by simp; omega
      have g0 : (w.alloc (.cells #[.slice A ps.length c] 22)).heap.size = w.heap.size + 1 := by simp
      have G0 := hid g0
      clear hv hs g0
      go_enter Try.func28, Try.ntmps28
      go_wp2_with (go_at_call 46; refine hV.out.mono ?_; rintro e w1 ⟨rfl, rfl⟩)
      clear hV
      generalize hw1 : w.alloc (.cells #[.slice A ps.length c] 22) = w1 at b0 hq0 G0 ⊢
      clear hw1
      go_loopw [5, 16] (fun out sk wr => ∃ (k : Nat) (A' : Option Addr) (c' m : Nat), k ≤ 16 ∧ sk = .int .i64 k ∧ out = .slice A' m c' ∧ m ≤ k ∧ Hid ((candL ps mine k).length = m) ∧ Hid (wr.ownsRow (w.heap.size + 1) 3 1 (.slice A' m c') m (ints (candL ps mine k))) ∧ Below (w.heap.size + 1) w1 wr) (fun _ sk _ => 16 - (intOf sk).toNat)
      case atStart => exact ⟨0, _, _, 0, Nat.zero_le _, rfl, rfl, Nat.le_refl _, rfl, by have h := own_empty w1 3 1 (Nat.le_refl _); rw [G0.out] at h; exact h, (Below.refl _ _).alloc (by rw [G0.out]; exact Nat.le_refl _) _⟩
      case round =>
        obtain ⟨k, A', c', m, hk, rfl, rfl, hmk, hlen, own, hb⟩ := hrel
        have hbw : Below w1.heap.size w1 wr := by rw [G0.out]; exact hb
        have hsz : w.heap.size + 1 ≤ wr.heap.size := by have := hb.size; rw [G0.out] at this; exact this
        have t := below_step b0 hbw
        have g0 := cell_later hbw hq0
        clear hbw
        by_cases hk16 : k < 16
        · have hB := hid (has_any B d mine k wr (hmi.below t))
          have hC := hid (rareCount_any A c ps k wr (hr.below t) hm)
          cases hbit : bitAt mine k
          · rw [hbit] at hB
            by_cases hcn : 0 < cnt ps k
            · have hst := hid (candL_yes hbit hcn)
              clear hbit
              go_wp2_with (first | (go_at_call 53; refine hB.out.mono ?_; rintro e w' ⟨rfl, rfl⟩) | (go_at_call 48; refine hC.out.mono ?_; rintro e w' ⟨rfl, rfl⟩) | (at_builtin; refine wpList_app rfl (.tmp 29) (.tmp 31) 35 rfl (w.heap.size + 1) Try.underlying35 info_int rfl (by omega) (by omega) A' m c' _ rfl (own.out.alloc _) (some ⟨wr.heap.size, 0, none⟩) 1 1 [.int .i64 (k : Int)] rfl rfl (cells_one _ _ _) (one_int _) (m + 1) _ rfl (ints_snoc _ _) (by omega) (by simp; omega) ?_; intro A3 c3 w5 ho5 hb5))
              go_roundw
              case rel => exact ⟨k + 1, A3, c3, m + 1, by omega, by go_num, rfl, by omega, by unfold Hid; rw [hst.out, List.length_append, hlen.out]; rfl, by unfold Hid; rw [hst.out]; exact ho5, (hb.alloc hsz _).trans hb5⟩
              case measure => simp [intOf]; omega
            · have hst := hid (candL_no (.inr hcn) (ps := ps) (mine := mine) (k := k))
              clear hbit
              go_wp2_with (first | (go_at_call 53; refine hB.out.mono ?_; rintro e w' ⟨rfl, rfl⟩) | (go_at_call 48; refine hC.out.mono ?_; rintro e w' ⟨rfl, rfl⟩))
              go_roundw
              case rel => exact ⟨k + 1, A', c', m, by omega, by go_num, rfl, by omega, by unfold Hid; rw [hst.out]; exact hlen.out, by unfold Hid; rw [hst.out]; exact own.out, hb⟩
              case measure => simp [intOf]; omega
          · rw [hbit] at hB
            have hst := hid (candL_no (.inl hbit) (ps := ps) (mine := mine) (k := k))
            clear hbit
            go_wp2_with (go_at_call 53; refine hB.out.mono ?_; rintro e w' ⟨rfl, rfl⟩)
            go_roundw
            case rel => exact ⟨k + 1, A', c', m, by omega, by go_num, rfl, by omega, by unfold Hid; rw [hst.out]; exact hlen.out, by unfold Hid; rw [hst.out]; exact own.out, hb⟩
            case measure => simp [intOf]; omega
        · obtain rfl : k = 16 := by omega
          clear hk16
          have s1 : w.heap.size < w.heap.size + 1 := by omega
          have hcmp : CmpIs #[.pointer (some ⟨w.heap.size, 0, none⟩)] (keyC ps) (candL ps mine 16) (w.heap.size + 1) wr.heap.size wr := by
            intro W x y hx hy hch
            obtain ⟨p, -, rfl, -, -⟩ := candL_mem.1 hx
            obtain ⟨q, -, rfl, -, -⟩ := candL_mem.1 hy
            have hcell : W.cell? ⟨w.heap.size, 0, none⟩ = some (.slice A ps.length c) := by
              rw [← g0]; exact World.cell?_of_block (hch.block _ (by show w.heap.size < wr.heap.size; omega) (.inl s1))
            exact cmp_any A c ps p q w.heap.size W hcell (hr.below (below_chg t hch (Nat.le_succ _))) h6
          have Hcmp := hid hcmp
          have hlen2 : Hid ((specTo ps mine ps.length).length = m) := by
            unfold Hid; rw [← order_eq]; unfold keyL; rw [isort_length]; exact hlen.out
          go_wp2_with fail
          refine (sortF_n hlen (Own.of_row own.out) (by omega) Hcmp.out (fun x => by unfold keyC; have := cnt_le ps x.toNat; omega)).mono ?_
          rintro e w3 ⟨rfl, o3, ch3⟩
          have O3 := hid o3
          clear o3 hcmp
          go_wp2_with fail
          go_ret
          exact retL_of (by rw [hfin.out]; exact hlen2.out.symm) (by rw [hfin.out, ← order_eq]; exact O3.out.weak (Nat.le_succ _) ch3.size) (below_chg t ch3 (Nat.le_succ _))
    · have hfin := hid (orderG_bad (ps := ps) (mine := mine) (by rw [decide_eq_false hi]; simp))
      have hd : decide ((16 : Int) < (mine.length : Int)) = true := by simp; omega
      clear hv hs hi
      go_enter Try.func28, Try.ntmps28
      go_wp2_with (go_at_call 46; refine hV.out.mono ?_; rintro e w1 ⟨rfl, rfl⟩)
      go_ret
      exact retL_of (by rw [hfin.out]; rfl) (by rw [hfin.out]; exact own_nil _ _ _ _ _) b0

end Go.Proofs.Ytckbpiapkooamaa
