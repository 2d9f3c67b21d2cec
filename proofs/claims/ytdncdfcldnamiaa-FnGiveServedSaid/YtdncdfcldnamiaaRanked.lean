/- Contracts of ranked and what calls it. -/
import Derived.Test.YtdncdfcldnamiaaSortF
import Derived.Test.YtdncdfcldnamiaaC3
import Derived.Test.YtdncdfcldnamiaaBase2
import Derived.Deep.RegionWith
namespace Go.Proofs.Ytdncdfcldnamiaa
open Go.RowKit

set_option maxHeartbeats 400000 in
theorem cmp_any (A : Option Addr) (c : Nat) (zs : List Int) (i j : Nat) (x y : Int) (bx : Nat) (w : World) (hbx : w.cell? ⟨bx, 0, none⟩ = some (.slice A zs.length c)) (hr : Cells w A (ints zs)) (hx : Hid (zs[i]? = some x)) (hy : Hid (zs[j]? = some y))
    (hx0 : 0 ≤ x ∧ x ≤ 99) (hy0 : 0 ≤ y ∧ y ≤ 99) :
    Calls Try.prog 49 #[.int .i64 i, .int .i64 j, .pointer (some ⟨bx, 0, none⟩)] w fun e w' => e = .returned (.int .i64 (y - x)) ∧ ∃ n, w' = w.drewN n := by
  obtain ⟨b, off, rfl, hcx⟩ := hr.int_of hx.out
  obtain ⟨_, _, hA, hcy⟩ := hr.int_of hy.out
  injection hA with hA; injection hA with hA1 hA2; subst hA1; subst hA2
  have hi : i < zs.length := (List.getElem?_eq_some_iff.1 hx.out).1
  have hj : j < zs.length := (List.getElem?_eq_some_iff.1 hy.out).1
  obtain ⟨x0, x1⟩ := hx0
  obtain ⟨y0, y1⟩ := hy0
  have kw : IntKind.i64.wrap (y - x) = y - x := IntWalk.i64_in _ (by omega)
  go_enter Try.func49, Try.ntmps49
  go_wp2
  go_quiet (fail)
  go_wp2
  go_ret
  exact ⟨rfl, _, rfl⟩

/-- 0, 1, .. up to (not with) n. -/
def idx (n : Nat) : List Int := (List.range n).map Int.ofNat
theorem idx_length (n : Nat) : (idx n).length = n := by simp [idx]
theorem idx_snoc (k : Nat) : ints (idx k) ++ [.int .i64 (k : Int)] = ints (idx (k + 1)) := by
  rw [ints_snoc]; simp [idx, List.range_succ]
theorem idx_mem {n : Nat} {x : Int} : x ∈ idx n ↔ ∃ k : Nat, k < n ∧ x = k := by
  simp [idx, eq_comm]

/-- The key by which peers are ranked. -/
def giv (zs : List Int) (i : Int) : Int := - (zs.getD i.toNat 0)

theorem giv_at {zs : List Int} {i : Nat} {x : Int} (h : zs[i]? = some x) : giv zs i = -x := by
  simp [giv, List.getD_eq_getElem?_getD, h]
theorem giv_bd {zs : List Int} (hv : ∀ z ∈ zs, 0 ≤ z ∧ z ≤ 99) (x : Int) : -1000000 ≤ giv zs x ∧ giv zs x ≤ 1000000 := by
  unfold giv
  rw [List.getD_eq_getElem?_getD]
  cases h : zs[x.toNat]? with
  | none => simp
  | some z => have := hv z (List.mem_of_getElem? h); simp; omega

def RetN (w : World) (n : Nat) (zs : List Int) (e : Ending) (w' : World) : Prop :=
  ∃ A c, e = .returned (.slice A n c) ∧ Own w' w.heap.size w'.heap.size 3 1 A c n (ints zs) ∧ Below w.heap.size w w'
theorem cloneInt_n {A : Option Addr} {c n : Nat} {zs : List Int} {w : World} (hn : Hid (zs.length = n)) (hr : Cells w A (ints zs)) (hm : n ≤ 17592186044416) :
    Calls Try.prog 39 #[.slice A n c] w (RetN w n zs) := by
  have h := hn.out
  subst h
  exact cloneInt_any A c zs w hr hm
theorem sort_n {A : Option Addr} {c lo hi n : Nat} {l : List Int} {w : World} (hn : Hid (l.length = n)) (ho : Own w lo hi 3 1 A c n (ints l)) (hm : n ≤ 12) :
    Calls Try.prog 44 #[.slice A n c] w fun e w' => e = .returned (.tuple #[]) ∧ Own w' lo hi 3 1 A c n (ints (ascL l)) ∧ Chg lo hi w w' := by
  have h := hn.out
  subst h
  exact sort_any A c lo hi l w ho hm
theorem sortF_n {caps : Array Value} {key : Int → Int} {A : Option Addr} {c lo hi n : Nat} {l : List Int} {w : World} (hn : Hid (l.length = n)) (ho : Own w lo hi 3 1 A c n (ints l)) (hm : n ≤ 19)
    (hc : CmpIs caps key l lo hi w) (hkey : ∀ x, -1000000 ≤ key x ∧ key x ≤ 1000000) :
    Calls Try.prog 48 #[.slice A n c, .func (.func 49) #[] caps] w fun e w' => e = .returned (.tuple #[]) ∧ Own w' lo hi 3 1 A c n (ints (keyL key l)) ∧ Chg lo hi w w' := by
  have h := hn.out
  subst h
  exact sortF_any caps key A c lo hi l w ho hm hc hkey

/-- The best peers and the others, each in ascending order. -/
def bestL (zs : List Int) : List Int := ascL ((keyL (giv zs) (idx zs.length)).take 3)
def othersL (zs : List Int) : List Int := ascL ((keyL (giv zs) (idx zs.length)).drop 3)
def RetTwo (w : World) (l m : List Int) (e : Ending) (w' : World) : Prop :=
  ∃ A c A2 c2, e = .returned (.tuple #[.slice A l.length c, .slice A2 m.length c2]) ∧ Own w' w.heap.size w'.heap.size 3 1 A c l.length (ints l) ∧ Own w' w.heap.size w'.heap.size 3 1 A2 c2 m.length (ints m) ∧ Below w.heap.size w w'
theorem ascL_length (l : List Int) : (ascL l).length = l.length := isort_length _ _ _
theorem two_of {zs S : List Int} {t m : Nat} (hS : keyL (giv zs) (idx zs.length) = S) (hl : S.length = zs.length) (ht : (zs.length < 3 ∧ t = zs.length) ∨ (3 ≤ zs.length ∧ t = 3)) (hm : m = zs.length - t) :
    (bestL zs).length = t ∧ (othersL zs).length = m ∧ bestL zs = ascL (S.take t) ∧ othersL zs = ascL (S.drop t) := by
  have h1 : S.take 3 = S.take t := by
    rcases ht with ⟨h, rfl⟩ | ⟨_, rfl⟩
    · rw [List.take_of_length_le (by omega), List.take_of_length_le (by omega)]
    · rfl
  have h2 : S.drop 3 = S.drop t := by
    rcases ht with ⟨h, rfl⟩ | ⟨_, rfl⟩
    · rw [List.drop_of_length_le (by omega), List.drop_of_length_le (by omega)]
    · rfl
  unfold bestL othersL
  rw [hS, h1, h2, ascL_length, ascL_length, List.length_take, List.length_drop, hl]
  refine ⟨by omega, hm.symm, rfl, rfl⟩

set_option maxHeartbeats 2000000 in
theorem ranked_any (A : Option Addr) (c : Nat) (zs : List Int) (w : World) (hr : Cells w A (ints zs)) (hv : givenB zs = true) :
    Calls Try.prog 43 #[.slice A zs.length c] w (RetTwo w (bestL zs) (othersL zs)) := by
  have hl6 := givenB_len hv
  have hval := hid (givenB_at hv)
  obtain ⟨W0, hW0⟩ : ∃ W0, W0 = w.alloc (.cells #[.slice A zs.length c] 22) := ⟨_, rfl⟩
  have hb0 : Below w.heap.size w W0 := by rw [hW0]; exact (Below.refl _ _).alloc (Nat.le_refl _) _
  have hz0 : W0.heap.size = w.heap.size + 1 := by rw [hW0]; simp
  have hk0 : Blk W0 w.heap.size 22 [.slice A zs.length c] := by rw [hW0]; exact Blk.new _ _ _
  have hbel0 : Below (w.heap.size + 1) W0 (W0.alloc (.cells #[] 3)) := (Below.refl _ _).alloc (by omega) _
  have hown0 : (W0.alloc (.cells #[] 3)).ownsRow (w.heap.size + 1) 3 1 (.slice (some ⟨W0.heap.size, 0, none⟩) 0 0) 0 [] := own_empty _ _ _ (by omega)
  rw [hz0] at hown0
  have hbel1 : Below (w.heap.size + 1) W0 ((w.alloc (.cells #[.slice A zs.length c] 22)).alloc (.cells #[] 3)) := by rw [← hW0]; exact hbel0
  have hown1 : ((w.alloc (.cells #[.slice A zs.length c] 22)).alloc (.cells #[] 3)).ownsRow (w.heap.size + 1) 3 1 (.slice (some ⟨w.heap.size + 1, 0, none⟩) 0 0) 0 [] := by rw [← hW0]; exact hown0
  have Hk0 := hid hk0
  have Hz0 := hid hz0
  clear hbel0 hown0 hW0 hk0 hz0
  go_enter Try.func43, Try.ntmps43
  go_wp2
  go_loopw [4, 12] (fun out i wr => ∃ (k : Nat) (A' : Option Addr) (c' : Nat), k ≤ zs.length ∧ i = .int .i64 k ∧ out = .slice A' k c' ∧ wr.ownsRow (w.heap.size + 1) 3 1 (.slice A' k c') k (ints (idx k)) ∧ Below (w.heap.size + 1) W0 wr) (fun _ i _ => zs.length - (intOf i).toNat)
  case atStart => exact ⟨0, _, _, Nat.zero_le _, rfl, rfl, hown1, hbel1⟩
  case round =>
    clear hown1 hbel1
    obtain ⟨k, A', c', hk, rfl, rfl, ho, hbel⟩ := hrel
    have hsz := hbel.size
    rw [Hz0.out] at hsz
    by_cases hlt : k < zs.length
    · go_wp2_with (at_builtin; refine wpList_app rfl (.tmp 15) (.tmp 17) 22 rfl (w.heap.size + 1) Try.underlying22 info_int rfl (by omega) (by omega) A' k c' _ rfl (ho.alloc _) (some ⟨wr.heap.size, 0, none⟩) 1 1 [.int .i64 k] rfl rfl (cells_one _ _ _) (one_int _) (k + 1) _ rfl (idx_snoc k) (by omega) (by simp; omega) ?_; intro A2 c2 w2 ho2 hb2)
      go_roundw
      case rel => exact ⟨k + 1, A2, c2, by omega, by go_num, rfl, ho2, (hbel.alloc (by omega) _).trans hb2⟩
      case measure => simp [intOf]; omega
    · obtain rfl : k = zs.length := by omega
      have Ho := hid (Own.of_row ho)
      have Hb := hid hbel
      have hcmp : CmpIs #[.pointer (some ⟨w.heap.size, 0, none⟩)] (giv zs) (idx zs.length) (w.heap.size + 1) wr.heap.size wr := by
        intro W x y hx hy hch
        obtain ⟨i, hi, rfl⟩ := idx_mem.1 hx
        obtain ⟨j, hj, rfl⟩ := idx_mem.1 hy
        have hxi : zs[i]? = some zs[i] := List.getElem?_eq_getElem hi
        have hxj : zs[j]? = some zs[j] := List.getElem?_eq_getElem hj
        have hbW : Below (w.heap.size + 1) W0 W := Hb.out.trans (hch.below (Nat.le_refl _) hsz)
        have hrW := hr.below (hb0.trans (hbW.mono (Nat.le_succ _)))
        have hcell : W.cell? ⟨w.heap.size, 0, none⟩ = some (.slice A zs.length c) := by
          rw [(Hk0.out.below hbW (Nat.lt_succ_self _)).cell 0]; rfl
        have h := cmp_any A c zs i j zs[i] zs[j] w.heap.size W hcell hrW hxi hxj (hval.out _ (List.getElem_mem hi)) (hval.out _ (List.getElem_mem hj))
        rw [giv_at hxi, giv_at hxj]
        have e : -zs[i] - -zs[j] = zs[j] - zs[i] := by omega
        rw [e]
        exact h
      have hcmp2 := hid hcmp
      clear ho hbel hlt hcmp
      go_wp2_with fail
      refine (sortF_n (idx_length _) Ho.out (by omega) hcmp2.out (giv_bd hval.out)).mono ?_
      rintro e w2 ⟨rfl, o2, ch2⟩
      have hcap := own_cap o2.row
      have hcapM := own_capM o2.row
      unfold maxLen at hcapM
      have hS : Hid ((keyL (giv zs) (idx zs.length)).length = zs.length) := by
        unfold Hid keyL; rw [isort_length, idx_length]
      have ho2 : Hid (∀ W, Below w2.heap.size w2 W → Cells W A' (ints (keyL (giv zs) (idx zs.length)))) := fun W h => (o2.below h).cells
      have Ho2 := hid o2
      have Hch2 := hid ch2
      clear o2 ch2
      generalize hSS : keyL (giv zs) (idx zs.length) = S at hS ho2 Ho2
      have HSS := hid hSS
      clear hSS
      by_cases h3 : zs.length < 3
      · have hn1 : Hid ((S.take zs.length).length = zs.length) := by unfold Hid; rw [List.length_take, hS.out, Nat.min_self]
        have hn2 : Hid ((S.drop zs.length).length = 0) := by unfold Hid; rw [List.length_drop, hS.out, Nat.sub_self]
        have hb : Hid (∀ W, Below w2.heap.size w2 W → Cells W A' (ints (S.take zs.length))) := fun W h => by
          unfold ints; rw [List.map_take]; exact (ho2.out W h).take _
        have hoth : Hid (∀ W A, Below w2.heap.size w2 W → Cells W A (ints (S.drop zs.length))) := fun W A h => by
          left; have := hn2.out; rw [List.eq_nil_of_length_eq_zero this]; rfl
        have hm1 : zs.length ≤ 17592186044416 := by omega
        have hm2 : 0 ≤ 17592186044416 := by omega
        by_cases hcc : c' = zs.length
        · subst hcc
          go_wp2_with fail
          go_region_with (first | (go_at_call 39; ((with_reducible refine (cloneInt_n hn1 (hb.out _ ((Below.refl _ _).drew)) hm1).mono ?_); rintro e w3 ⟨A3, c3, rfl, o3, b3⟩)) | (go_at_call 39; ((with_reducible refine (cloneInt_n hn2 (hoth.out _ _ (below_step ((Below.refl _ _).drew) b3)) hm2).mono ?_); rintro e w4 ⟨A4, c4, rfl, o4, b4⟩)))
          all_goals
            have o34 := o3.below b4
            have s23 := b3.size
            have s34 := b4.size
            have hlo : (w2.drew).heap.size = w2.heap.size := rfl
            rw [hlo] at s23 o34
            go_wp2_with fail
            refine (sort_n hn1 o34 (by omega)).mono ?_
            rintro e w5 ⟨rfl, o5, ch5⟩
            have o45 := o4.chg ch5 (.inr (Nat.le_refl _))
            go_wp2_with fail
            refine (sort_n hn2 o45 (by omega)).mono ?_
            rintro e w6 ⟨rfl, o6, ch6⟩
            have o56 := o5.chg ch6 (.inl (Nat.le_refl _))
            have z2 : w.heap.size + 1 ≤ w2.heap.size := Nat.le_trans hsz Hch2.out.size
            have t2 : Below w.heap.size w w2 := (hb0.trans (Hb.out.mono (Nat.le_succ _))).trans (Hch2.out.below (Nat.le_succ _) (by omega))
            have t4 : Below w.heap.size w w4 := below_step (below_step t2 ((Below.refl _ _).drew)) (below_step b3 b4)
            have t6 : Below w.heap.size w w6 := below_chg (below_chg t4 ch5 (by omega)) ch6 (by omega)
            have s45 := ch5.size
            have s56 := ch6.size
            have hfin := hid (two_of (m := 0) HSS.out hS.out (.inl ⟨h3, rfl⟩) (by omega))
            clear o3 o4 o34 o45 o5 b3 b4 ch5 ch6
            go_wp2_with fail
            go_ret2
            refine ⟨A3, c3, A4, c4, by rw [hfin.out.1, hfin.out.2.1]; rfl, ?_, ?_, t6⟩
            · rw [hfin.out.1, hfin.out.2.2.1]; exact o56.weak (by omega) (by omega)
            · rw [hfin.out.2.1, hfin.out.2.2.2]; exact o6.weak (by omega) (by omega)
        · go_wp2_with fail
          go_region_with (first | (go_at_call 39; ((with_reducible refine (cloneInt_n hn1 (hb.out _ ((Below.refl _ _).drew)) hm1).mono ?_); rintro e w3 ⟨A3, c3, rfl, o3, b3⟩)) | (go_at_call 39; ((with_reducible refine (cloneInt_n hn2 (hoth.out _ _ (below_step ((Below.refl _ _).drew) b3)) hm2).mono ?_); rintro e w4 ⟨A4, c4, rfl, o4, b4⟩)))
          all_goals
            have o34 := o3.below b4
            have s23 := b3.size
            have s34 := b4.size
            have hlo : (w2.drew).heap.size = w2.heap.size := rfl
            rw [hlo] at s23 o34
            go_wp2_with fail
            refine (sort_n hn1 o34 (by omega)).mono ?_
            rintro e w5 ⟨rfl, o5, ch5⟩
            have o45 := o4.chg ch5 (.inr (Nat.le_refl _))
            go_wp2_with fail
            refine (sort_n hn2 o45 (by omega)).mono ?_
            rintro e w6 ⟨rfl, o6, ch6⟩
            have o56 := o5.chg ch6 (.inl (Nat.le_refl _))
            have z2 : w.heap.size + 1 ≤ w2.heap.size := Nat.le_trans hsz Hch2.out.size
            have t2 : Below w.heap.size w w2 := (hb0.trans (Hb.out.mono (Nat.le_succ _))).trans (Hch2.out.below (Nat.le_succ _) (by omega))
            have t4 : Below w.heap.size w w4 := below_step (below_step t2 ((Below.refl _ _).drew)) (below_step b3 b4)
            have t6 : Below w.heap.size w w6 := below_chg (below_chg t4 ch5 (by omega)) ch6 (by omega)
            have s45 := ch5.size
            have s56 := ch6.size
            have hfin := hid (two_of (m := 0) HSS.out hS.out (.inl ⟨h3, rfl⟩) (by omega))
            clear o3 o4 o34 o45 o5 b3 b4 ch5 ch6
            go_wp2_with fail
            go_ret2
            refine ⟨A3, c3, A4, c4, by rw [hfin.out.1, hfin.out.2.1]; rfl, ?_, ?_, t6⟩
            · rw [hfin.out.1, hfin.out.2.2.1]; exact o56.weak (by omega) (by omega)
            · rw [hfin.out.2.1, hfin.out.2.2.2]; exact o6.weak (by omega) (by omega)
      · have hn1 : Hid ((S.take 3).length = 3) := by unfold Hid; rw [List.length_take, hS.out]; omega
        have hn2 : Hid ((S.drop 3).length = zs.length - 3) := by unfold Hid; rw [List.length_drop, hS.out]
        have hb : Hid (∀ W, Below w2.heap.size w2 W → Cells W A' (ints (S.take 3))) := fun W h => by
          unfold ints; rw [List.map_take]; exact (ho2.out W h).take _
        have hm1 : 3 ≤ 17592186044416 := by omega
        have hm2 : zs.length - 3 ≤ 17592186044416 := by omega
        by_cases hcc : c' = 3
        · subst hcc
          have hn3 : Hid ((S.drop 3).length = 0) := by unfold Hid; rw [List.length_drop, hS.out]; omega
          have hm3 : 0 ≤ 17592186044416 := by omega
          have hoth : Hid (∀ W A, Below w2.heap.size w2 W → Cells W A (ints (S.drop 3))) := fun W A h => by
            left; rw [List.eq_nil_of_length_eq_zero (l := S.drop 3) hn3.out]; rfl
          go_wp2_with fail
          go_region_with (first | (go_at_call 39; ((with_reducible refine (cloneInt_n hn1 (hb.out _ ((Below.refl _ _).drew)) hm1).mono ?_); rintro e w3 ⟨A3, c3, rfl, o3, b3⟩)) | (go_at_call 39; ((with_reducible refine (cloneInt_n hn3 (hoth.out _ _ (below_step ((Below.refl _ _).drew) b3)) hm3).mono ?_); rintro e w4 ⟨A4, c4, rfl, o4, b4⟩)))
          all_goals
            have o34 := o3.below b4
            have s23 := b3.size
            have s34 := b4.size
            have hlo : (w2.drew).heap.size = w2.heap.size := rfl
            rw [hlo] at s23 o34
            go_wp2_with fail
            refine (sort_n hn1 o34 (by omega)).mono ?_
            rintro e w5 ⟨rfl, o5, ch5⟩
            have o45 := o4.chg ch5 (.inr (Nat.le_refl _))
            go_wp2_with fail
            refine (sort_n hn3 o45 (by omega)).mono ?_
            rintro e w6 ⟨rfl, o6, ch6⟩
            have o56 := o5.chg ch6 (.inl (Nat.le_refl _))
            have z2 : w.heap.size + 1 ≤ w2.heap.size := Nat.le_trans hsz Hch2.out.size
            have t2 : Below w.heap.size w w2 := (hb0.trans (Hb.out.mono (Nat.le_succ _))).trans (Hch2.out.below (Nat.le_succ _) (by omega))
            have t4 : Below w.heap.size w w4 := below_step (below_step t2 ((Below.refl _ _).drew)) (below_step b3 b4)
            have t6 : Below w.heap.size w w6 := below_chg (below_chg t4 ch5 (by omega)) ch6 (by omega)
            have s45 := ch5.size
            have s56 := ch6.size
            have hfin := hid (two_of (m := 0) HSS.out hS.out (.inr ⟨by omega, rfl⟩) (by omega))
            clear o3 o4 o34 o45 o5 b3 b4 ch5 ch6
            go_wp2_with fail
            go_ret2
            refine ⟨A3, c3, A4, c4, by rw [hfin.out.1, hfin.out.2.1]; rfl, ?_, ?_, t6⟩
            · rw [hfin.out.1, hfin.out.2.2.1]; exact o56.weak (by omega) (by omega)
            · rw [hfin.out.2.1, hfin.out.2.2.2]; exact o6.weak (by omega) (by omega)
        · obtain ⟨g, v, rfl, _, _, _, _, _⟩ := Ho2.out.at_ (i := 0) (by rw [ints_length, hS.out]; omega)
          have hoth : Hid (∀ W, Below w2.heap.size w2 W → Cells W (some ⟨g, 3, none⟩) (ints (S.drop 3))) := fun W h => by
            have := (ho2.out W h).drop 3
            unfold ints at this ⊢; rw [List.map_drop]; simpa using this
          go_wp2_with fail
          go_region_with (first | (go_at_call 39; ((with_reducible refine (cloneInt_n hn1 (hb.out _ ((Below.refl _ _).drew)) hm1).mono ?_); rintro e w3 ⟨A3, c3, rfl, o3, b3⟩)) | (go_at_call 39; ((with_reducible refine (cloneInt_n hn2 (hoth.out _  (below_step ((Below.refl _ _).drew) b3)) hm2).mono ?_); rintro e w4 ⟨A4, c4, rfl, o4, b4⟩)))
          all_goals
            have o34 := o3.below b4
            have s23 := b3.size
            have s34 := b4.size
            have hlo : (w2.drew).heap.size = w2.heap.size := rfl
            rw [hlo] at s23 o34
            go_wp2_with fail
            refine (sort_n hn1 o34 (by omega)).mono ?_
            rintro e w5 ⟨rfl, o5, ch5⟩
            have o45 := o4.chg ch5 (.inr (Nat.le_refl _))
            go_wp2_with fail
            refine (sort_n hn2 o45 (by omega)).mono ?_
            rintro e w6 ⟨rfl, o6, ch6⟩
            have o56 := o5.chg ch6 (.inl (Nat.le_refl _))
            have z2 : w.heap.size + 1 ≤ w2.heap.size := Nat.le_trans hsz Hch2.out.size
            have t2 : Below w.heap.size w w2 := (hb0.trans (Hb.out.mono (Nat.le_succ _))).trans (Hch2.out.below (Nat.le_succ _) (by omega))
            have t4 : Below w.heap.size w w4 := below_step (below_step t2 ((Below.refl _ _).drew)) (below_step b3 b4)
            have t6 : Below w.heap.size w w6 := below_chg (below_chg t4 ch5 (by omega)) ch6 (by omega)
            have s45 := ch5.size
            have s56 := ch6.size
            have hfin := hid (two_of (m := zs.length - 3) HSS.out hS.out (.inr ⟨by omega, rfl⟩) rfl)
            clear o3 o4 o34 o45 o5 b3 b4 ch5 ch6
            go_wp2_with fail
            go_ret2
            refine ⟨A3, c3, A4, c4, by rw [hfin.out.1, hfin.out.2.1]; rfl, ?_, ?_, t6⟩
            · rw [hfin.out.1, hfin.out.2.2.1]; exact o56.weak (by omega) (by omega)
            · rw [hfin.out.2.1, hfin.out.2.2.2]; exact o6.weak (by omega) (by omega)

end Go.Proofs.Ytdncdfcldnamiaa
