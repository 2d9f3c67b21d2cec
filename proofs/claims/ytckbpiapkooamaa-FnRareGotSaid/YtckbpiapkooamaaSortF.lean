/- The library's stable sort by a comparison, at lengths where it is an insertion sort. -/
import Derived.Test.YtckbpiapkooamaaC1
import Derived.Test.YtckbpiapkooamaaPlain
namespace Go.Proofs.Ytckbpiapkooamaa
open Go.RowKit

/-- What a comparison does, as long as only the row that is sorted has changed: key x - key y. -/
def CmpIs (caps : Array Value) (key : Int → Int) (l : List Int) (lo hi : Nat) (w0 : World) : Prop :=
  ∀ (W : World) (x y : Int), x ∈ l → y ∈ l → Chg lo hi w0 W → Calls Try.prog 55 (#[.int .i64 x, .int .i64 y] ++ caps) W fun e W' => e = .returned (.int .i64 (key x - key y)) ∧ ∃ n, W' = W.drewN n

set_option maxHeartbeats 1000000 in
theorem insCmp_any (caps : Array Value) (key : Int → Int) (A : Option Addr) (c lo hi : Nat) (l : List Int) (w : World) (ho : Own w lo hi 3 1 A c l.length (ints l)) (hm : l.length ≤ 19)
    (hc : CmpIs caps key l lo hi w) (hkey : ∀ x, -1000000 ≤ key x ∧ key x ≤ 1000000) :
    Calls Try.prog 58 #[.slice A l.length c, .int .i64 0, .int .i64 l.length, .func (.func 55) #[] caps] w fun e w' => e = .returned (.tuple #[]) ∧ Own w' lo hi 3 1 A c l.length (ints (isort (byKey key) l l.length)) ∧ Chg lo hi w w' := by
  go_enter Try.func58, Try.ntmps58
  go_wp2
  go_loopw [8] (fun i wr => ∃ k : Nat, 1 ≤ k ∧ (k ≤ l.length ∨ k = 1) ∧ i = .int .i64 k ∧ Own wr lo hi 3 1 A c l.length (ints (isort (byKey key) l k)) ∧ Chg lo hi w wr) (fun i _ => l.length - (intOf i).toNat)
  case atStart => exact ⟨1, Nat.le_refl _, .inr rfl, rfl, by simpa [isort, sink] using ho, Chg.refl _ _ _⟩
  case round =>
    obtain ⟨k, hk1, hk, rfl, ho1, hch⟩ := hrel
    by_cases hlt : k < l.length
    · have ho2 := hid ho1
      clear ho1 ho
      obtain ⟨T, hT⟩ : ∃ T, T = isort (byKey key) l (k + 1) := ⟨_, rfl⟩
      have hT2 : Hid (sink (byKey key) (isort (byKey key) l k) k = T) := hT.symm
      have hM : Hid ((isort (byKey key) l k).length = l.length) := isort_length _ _ _
      have hmem : Hid (∀ m ∈ isort (byKey key) l k, m ∈ l) := isort_mem _ _ _
      generalize isort (byKey key) l k = M0 at ho2 hT2 hM hmem
      have hT3 := hid hT
      clear hT
      go_wp2
      obtain ⟨wo, rfl⟩ : ∃ wo : World, wo = wr := ⟨_, rfl⟩
      go_loopw [9] (fun j wr => ∃ (q : Nat) (M : List Int), q ≤ k ∧ j = .int .i64 q ∧ Hid (M.length = l.length) ∧ Hid (Own wr lo hi 3 1 A c l.length (ints M)) ∧ Hid (sink (byKey key) M q = T) ∧ Hid (∀ m ∈ M, m ∈ l) ∧ Chg lo hi w wr) (fun j _ => (intOf j).toNat)
      case atStart => exact ⟨k, M0, Nat.le_refl _, rfl, hM, ho2, hT2, hmem, hch⟩
      case round =>
        obtain ⟨q, M, hq, rfl, hM1, hoM, hTM, hmm, hch2⟩ := hrel
        by_cases hq0 : 0 < q
        · obtain ⟨r, rfl⟩ : ∃ r, q = r + 1 := ⟨q - 1, by omega⟩
          obtain ⟨x, hx⟩ : ∃ x, M[r]? = some x := ⟨M[r]'(by rw [hM1.out]; omega), List.getElem?_eq_getElem _⟩
          obtain ⟨y, hy⟩ : ∃ y, M[r + 1]? = some y := ⟨M[r + 1]'(by rw [hM1.out]; omega), List.getElem?_eq_getElem _⟩
          obtain ⟨g, rfl, hlo, hhi, cx, fx⟩ := hoM.out.int_of hx
          obtain ⟨g', hg', _, _, cy, fy⟩ := hoM.out.int_of hy
          injection hg' with hg'
          injection hg' with hg'
          subst hg'
          have hx2 := hid hx
          have hy2 := hid hy
          have hkx := hkey x
          have hky := hkey y
          have hkx1 := hkx.1; have hkx2 := hkx.2; have hky1 := hky.1; have hky2 := hky.2
          have hkey2 := hid hkey
          clear hx hy hkx hky hkey
          have hcx := fun n => hc (wr.drewN n) y x (hmm.out _ (List.mem_of_getElem? hy2.out)) (hmm.out _ (List.mem_of_getElem? hx2.out)) (hch2.drewN n)
          have hcx2 := hid hcx
          have hc2 := hid hc
          clear hcx hc
          by_cases hl : key y < key x
          · have hMT : Hid (sink (byKey key) ((M.set (r + 1) x).set r y) r = T) := by rw [← hTM.out]; exact (swap_eq M r x y hx2.out hy2.out (byKey key) (by simpa [byKey] using hl)).symm
            have hmm2 : Hid (∀ m ∈ (M.set (r + 1) x).set r y, m ∈ l) := by
              intro m hm2
              rcases List.mem_or_eq_of_mem_set hm2 with h | h
              · rcases List.mem_or_eq_of_mem_set h with h | h
                · exact hmm.out m h
                · subst h; exact hmm.out _ (List.mem_of_getElem? hx2.out)
              · subst h; exact hmm.out _ (List.mem_of_getElem? hy2.out)
            clear hTM
            have hl2 : decide (key y - key x < 0) = true := by simp; omega
            clear hl
            go_wp2
            go_quiet ((go_at_call 55; exact Calls.quiet_of (hcx2.out _)))
            go_wp2
            go_region
            go_wp2
            go_roundw
            case rel =>
              refine ⟨r, (M.set (r + 1) x).set r y, by omega, rfl, by unfold Hid; rw [List.length_set, List.length_set, hM1.out], ?_, hMT, hmm2, ((hch2.drewN _).trans (chg_set _ hlo hhi _ _)).trans (chg_set _ hlo hhi _ _)⟩
              unfold Hid
              rw [← ints_set, ← ints_set]
              exact ((hoM.out.drewN _).set _ _).set _ _
            case measure => simp [intOf]
          · have hMT : Hid (M = T) := by rw [← hTM.out]; exact (sink_stop M r x y hx2.out hy2.out (byKey key) (by simpa [byKey] using hl)).symm
            clear hTM
            have hl2 : decide (key y - key x < 0) = false := by simp; omega
            clear hl
            go_wp2
            go_quiet ((go_at_call 55; exact Calls.quiet_of (hcx2.out _)))
            go_wp2
            go_roundw
            case rel => exact ⟨k + 1, by omega, .inl (by omega), by go_num, by rw [← hT3.out, ← hMT.out]; exact hoM.out.drewN _, hch2.drewN _⟩
            case measure => simp [intOf]; omega
        · obtain rfl : q = 0 := by omega
          have hMT : Hid (M = T) := hTM
          have hc2 := hid hc
          have hkey2 := hid hkey
          clear hTM hc hkey
          go_wp2
          go_quiet (fail)
          go_wp2
          go_roundw
          case rel => exact ⟨k + 1, by omega, .inl (by omega), by go_num, by rw [← hT3.out, ← hMT.out]; exact hoM.out.drewN _, hch2.drewN _⟩
          case measure => simp [intOf]; omega
    · have hfin : Hid (isort (byKey key) l k = isort (byKey key) l l.length) := by
        rcases hk with h | h
        · obtain rfl : k = l.length := by omega
          rfl
        · subst h
          rcases Nat.eq_zero_or_pos l.length with h0 | h0
          · rw [h0]; rfl
          · obtain h1 : l.length = 1 := by omega
            rw [h1]; rfl
      have ho2 := hid ho1
      have hc2 := hid hc
      have hkey2 := hid hkey
      clear ho1 ho hc hkey
      go_wp2
      go_end0
      exact ⟨rfl, by rw [← hfin.out]; exact ho2.out, hch⟩

/-- The list in the order of a key; equal ones as they stood. -/
def keyL (key : Int → Int) (l : List Int) : List Int := isort (byKey key) l l.length

set_option maxHeartbeats 1000000 in
theorem stable_any (caps : Array Value) (key : Int → Int) (A : Option Addr) (c lo hi : Nat) (l : List Int) (w : World) (ho : Own w lo hi 3 1 A c l.length (ints l)) (hm : l.length ≤ 19)
    (hc : CmpIs caps key l lo hi w) (hkey : ∀ x, -1000000 ≤ key x ∧ key x ≤ 1000000) :
    Calls Try.prog 57 #[.slice A l.length c, .int .i64 l.length, .func (.func 55) #[] caps] w fun e w' => e = .returned (.tuple #[]) ∧ Own w' lo hi 3 1 A c l.length (ints (keyL key l)) ∧ Chg lo hi w w' := by
  have H := hid ho
  have Hc := hid hc
  have Hk := hid hkey
  clear ho hc hkey
  go_enter Try.func57, Try.ntmps57
  go_wp2_with fail
  refine wp_loop_once ?_
  go_wp2_with fail
  refine (insCmp_any _ _ _ _ _ _ _ _ H.out hm Hc.out Hk.out).mono ?_
  rintro e w1 ⟨rfl, o1, c1⟩
  have o2 := hid o1
  clear o1
  go_wp2_with fail
  refine wp_loop_once ?_
  go_wp2_with fail
  go_end0
  exact ⟨rfl, o2.out, c1⟩

set_option maxHeartbeats 1000000 in
theorem sortF_any (caps : Array Value) (key : Int → Int) (A : Option Addr) (c lo hi : Nat) (l : List Int) (w : World) (ho : Own w lo hi 3 1 A c l.length (ints l)) (hm : l.length ≤ 19)
    (hc : CmpIs caps key l lo hi w) (hkey : ∀ x, -1000000 ≤ key x ∧ key x ≤ 1000000) :
    Calls Try.prog 54 #[.slice A l.length c, .func (.func 55) #[] caps] w fun e w' => e = .returned (.tuple #[]) ∧ Own w' lo hi 3 1 A c l.length (ints (keyL key l)) ∧ Chg lo hi w w' := by
  have H := hid ho
  have Hc := hid hc
  have Hk := hid hkey
  clear ho hc hkey
  go_enter Try.func54, Try.ntmps54
  go_wp2_with (go_at_call 57; refine (stable_any _ _ _ _ _ _ _ _ H.out hm Hc.out Hk.out).mono ?_; rintro e w1 ⟨rfl, o1, c1⟩)
  go_end0
  exact ⟨rfl, o1, c1⟩

end Go.Proofs.Ytckbpiapkooamaa
