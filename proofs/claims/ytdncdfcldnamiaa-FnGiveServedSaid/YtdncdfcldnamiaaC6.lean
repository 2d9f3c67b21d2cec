/- Contracts of the reference's turn and served. -/
import Derived.Test.YtdncdfcldnamiaaC5
import Derived.Test.YtdncdfcldnamiaaBase2
namespace Go.Proofs.Ytdncdfcldnamiaa
open Go.RowKit

theorem idx_succ (k : Nat) : idx (k + 1) = idx k ++ [(k : Int)] := by simp [idx, List.range_succ]
theorem filter_in {p : Int → Bool} {k : Nat} (h : p k = true) : (idx (k + 1)).filter p = (idx k).filter p ++ [(k : Int)] := by rw [idx_succ, List.filter_append]; simp [h]
theorem filter_out {p : Int → Bool} {k : Nat} (h : p k = false) : (idx (k + 1)).filter p = (idx k).filter p := by rw [idx_succ, List.filter_append]; simp [h]
theorem filter_len (p : Int → Bool) (k : Nat) : ((idx k).filter p).length ≤ k := by have := List.length_filter_le p (idx k); rw [idx_length] at this; exact this

set_option maxHeartbeats 1000000 in
theorem specTurn_any (A : Option Addr) (c T : Nat) (zs : List Int) (w : World) (hr : Cells w A (ints zs)) (hl6 : zs.length ≤ 6) (hT : T ≤ 999) :
    Calls Try.prog 46 #[.slice A zs.length c, .int .i64 T] w (RetI w (turnV zs T)) := by
  have htop : (topL zs).length ≤ 6 := by unfold topL; rw [List.length_take, rankL_length]; omega
  go_enter Try.func46, Try.ntmps46
  go_wp2_with fail
  refine (specBest_any _ _ _ _ hr hl6).mono ?_
  rintro e w1 ⟨A1, c1, rfl, o1, b1⟩
  have s1 := b1.size
  go_wp2
  go_loopw [6, 7] (fun out i wr => ∃ (k : Nat) (A' : Option Addr) (c' n : Nat), k ≤ zs.length ∧ i = .int .i64 k ∧ out = .slice A' n c' ∧ Hid (((idx k).filter fun i => decide (¬ i ∈ topL zs)).length = n) ∧ n ≤ k ∧ wr.ownsRow w1.heap.size 3 1 (.slice A' n c') n (ints ((idx k).filter fun i => decide (¬ i ∈ topL zs))) ∧ Below w1.heap.size w1 wr) (fun _ i _ => zs.length - (intOf i).toNat)
  case atStart => exact ⟨0, _, _, 0, Nat.zero_le _, rfl, rfl, rfl, by omega, own_empty _ _ _ (Nat.le_refl _), (Below.refl _ _).alloc (Nat.le_refl _) _⟩
  case round =>
    obtain ⟨k, A', c', n, hk, rfl, rfl, hn, hnk, ho, hbel⟩ := hrel
    have hsz := hbel.size
    have ho1 := o1.below hbel
    have Ho := hid ho
    clear ho
    by_cases hlt : k < zs.length
    · by_cases hin : (k : Int) ∈ topL zs
      · have hb1 : decide ((k : Int) ∈ topL zs) = true := by simpa using hin
        have hf := hid (filter_out (p := fun i => decide (¬ i ∈ topL zs)) (k := k) (by simpa using hin))
        clear hin
        go_wp2_with (go_at_call 47; refine (l1Has_any _ _ _ _ _ _ rfl ho1.cells (by omega)).mono ?_; rintro e w' ⟨rfl, rfl⟩)
        go_roundw
        case rel => exact ⟨k + 1, A', c', n, by omega, by go_num, rfl, by unfold Hid; rw [hf.out]; exact hn.out, by omega, by rw [hf.out]; exact Ho.out, hbel⟩
        case measure => simp [intOf]; omega
      · have hb1 : decide ((k : Int) ∈ topL zs) = false := by simpa using hin
        have hf := hid (filter_in (p := fun i => decide (¬ i ∈ topL zs)) (k := k) (by simpa using hin))
        clear hin
        go_wp2_with (first | (go_at_call 47; refine (l1Has_any _ _ _ _ _ _ rfl ho1.cells (by omega)).mono ?_; rintro e w' ⟨rfl, rfl⟩) | (at_builtin; refine wpList_app rfl (.tmp 21) (.tmp 23) 22 rfl w1.heap.size Try.underlying22 info_int rfl (by omega) (by omega) A' n c' _ rfl (Ho.out.alloc _) (some ⟨_, 0, none⟩) 1 1 [.int .i64 k] rfl rfl (cells_one _ _ _) (one_int _) (n + 1) _ rfl (ints_snoc _ _) (by omega) (by simp; omega) ?_; intro A2 c2 w2 ho2 hb2))
        go_roundw
        case rel => exact ⟨k + 1, A2, c2, n + 1, by omega, by go_num, rfl, by unfold Hid; rw [hf.out, List.length_append, hn.out]; rfl, by omega, by rw [hf.out]; exact ho2, (hbel.alloc hsz _).trans hb2⟩
        case measure => simp [intOf]; omega
    · obtain rfl : k = zs.length := by omega
      have ho2 : Hid (Own wr w1.heap.size wr.heap.size 3 1 A' c' n (ints (othersL zs))) := by
        unfold Hid; rw [others_eq]; exact Own.of_row Ho.out
      have hn2 : Hid ((othersL zs).length = n) := by unfold Hid; rw [others_eq]; exact hn.out
      clear hlt Ho hn ho1
      by_cases h0 : othersL zs = []
      · have hz : (n : Int) = 0 := by rw [← hn2.out, h0]; rfl
        have hz2 : ((n : Int) == 0) = true := by rw [beq_iff_eq]; exact hz
        have H0 := hid h0
        clear h0 hz
        go_wp2
        go_ret
        exact ⟨ret_int (turn_none H0.out).symm, below_step b1 hbel⟩
      · have hpos : 0 < n := by rw [← hn2.out]; exact List.length_pos_iff.2 h0
        have hz2 : ((n : Int) == 0) = false := by rw [beq_eq_false_iff_ne]; omega
        have hts : Hid ((othersL zs)[T % n]? = some (turnV zs T)) := by unfold Hid; rw [← hn2.out]; exact turn_some h0
        have hmod : T % n < n := Nat.mod_lt _ hpos
        obtain ⟨g, rfl, _, _, hcg, _⟩ := ho2.out.int_of hts.out
        have H0 := hid h0
        clear h0
        go_wp2
        go_ret
        exact ⟨rfl, below_step b1 hbel⟩

set_option maxHeartbeats 1000000 in
theorem specChokeTurn_any (A : Option Addr) (c : Nat) (zs : List Int) (t : Int) (w : World) (hr : Cells w A (ints zs)) (hm : zs.length ≤ 17592186044416) :
    Calls Try.prog 33 #[.slice A zs.length c, .int .i64 t] w (RetI w (turnG zs t)) := by
  cases hv : givenB zs
  · have hfin := hid (turnG_bad (zs := zs) (t := t) (by rw [hv]; rfl))
    go_enter Try.func33, Try.ntmps33
    go_wp2_with (go_at_call 35; refine (l23Given_any _ _ _ _ hr hm).mono ?_; rintro e w' ⟨rfl, rfl⟩)
    go_ret
    exact ⟨ret_int hfin.out.symm, Below.refl _ _⟩
  · cases hi : inB t 0 999
    · have hfin := hid (turnG_bad (zs := zs) (t := t) (by rw [hv, hi]; rfl))
      go_enter Try.func33, Try.ntmps33
      go_wp2_with (first | (go_at_call 35; refine (l23Given_any _ _ _ _ hr hm).mono ?_; rintro e w' ⟨rfl, rfl⟩) | (go_at_call 37; refine (l6In_any _ _ _ _).mono ?_; rintro e w' ⟨rfl, rfl⟩))
      go_ret
      exact ⟨ret_int hfin.out.symm, Below.refl _ _⟩
    · have hp : 0 ≤ t ∧ t ≤ 999 := by simpa [inB] using hi
      obtain ⟨T, rfl⟩ := Int.eq_ofNat_of_zero_le hp.1
      have hT : T ≤ 999 := by omega
      have hfin := hid (turnG_ok hv hi)
      have hl6 := givenB_len hv
      clear hp
      go_enter Try.func33, Try.ntmps33
      go_wp2_with (first | (go_at_call 35; refine (l23Given_any _ _ _ _ hr hm).mono ?_; rintro e w' ⟨rfl, rfl⟩) | (go_at_call 37; refine (l6In_any _ _ _ _).mono ?_; rintro e w' ⟨rfl, rfl⟩) | (go_at_call 46; refine (specTurn_any _ _ _ _ _ hr hl6 hT).mono ?_; rintro e w1 ⟨rfl, b1⟩))
      go_ret
      exact ⟨ret_int hfin.out.symm, b1⟩

theorem servedV_eq (zs : List Int) (T : Nat) : ((idx zs.length).filter fun i => decide (i ∈ topL zs ++ [turnV zs T])) = servedV zs T := by
  unfold servedV
  congr 1
  funext i
  simp [List.mem_append]

set_option maxHeartbeats 1000000 in
theorem specServed_any (A : Option Addr) (c : Nat) (zs : List Int) (t : Int) (w : World) (hr : Cells w A (ints zs)) (hm : zs.length ≤ 17592186044416) :
    Calls Try.prog 30 #[.slice A zs.length c, .int .i64 t] w (RetInts w (servedG zs t)) := by
  have hr0 := hr.below ((Below.refl _ _).alloc (Nat.le_refl _) (.cells #[] 3))
  cases hv : givenB zs
  · have hfin := hid (servedG_bad (zs := zs) (t := t) (by rw [hv]; rfl))
    go_enter Try.func30, Try.ntmps30
    go_wp2_with (go_at_call 35; refine (l23Given_any _ _ _ _ hr0 hm).mono ?_; rintro e w' ⟨rfl, rfl⟩)
    go_ret
    rw [hfin.out]
    exact ⟨_, _, rfl, Own.of_row (own_empty _ _ _ (Nat.le_refl _)), (Below.refl _ _).alloc (Nat.le_refl _) _⟩
  · cases hi : inB t 0 999
    · have hfin := hid (servedG_bad (zs := zs) (t := t) (by rw [hv, hi]; rfl))
      go_enter Try.func30, Try.ntmps30
      go_wp2_with (first | (go_at_call 35; refine (l23Given_any _ _ _ _ hr0 hm).mono ?_; rintro e w' ⟨rfl, rfl⟩) | (go_at_call 37; refine (l6In_any _ _ _ _).mono ?_; rintro e w' ⟨rfl, rfl⟩))
      go_ret
      rw [hfin.out]
      exact ⟨_, _, rfl, Own.of_row (own_empty _ _ _ (Nat.le_refl _)), (Below.refl _ _).alloc (Nat.le_refl _) _⟩
    · have hp : 0 ≤ t ∧ t ≤ 999 := by simpa [inB] using hi
      obtain ⟨T, rfl⟩ := Int.eq_ofNat_of_zero_le hp.1
      have hT : T ≤ 999 := by omega
      have hfin := hid (servedG_ok hv hi)
      have hl6 := givenB_len hv
      have htop : (topL zs).length ≤ 6 := by unfold topL; rw [List.length_take, rankL_length]; omega
      have hlen : Hid ((topL zs ++ [turnV zs T]).length = (topL zs).length + 1) := by unfold Hid; simp
      clear hp
      have B0 : Below w.heap.size w (w.alloc (.cells #[] 3)) := (Below.refl _ _).alloc (Nat.le_refl _) _
      go_enter Try.func30, Try.ntmps30
      go_wp2_with (first | (go_at_call 35; refine (l23Given_any _ _ _ _ hr0 hm).mono ?_; rintro e w' ⟨rfl, rfl⟩) | (go_at_call 37; refine (l6In_any _ _ _ _).mono ?_; rintro e w' ⟨rfl, rfl⟩) | (go_at_call 45; refine (specBest_any _ _ _ _ hr0 hl6).mono ?_; rintro e w1 ⟨A1, c1, rfl, o1, b1⟩; have t1 := below_step B0 b1; have hr1 := hr.below t1) | (go_at_call 46; refine (specTurn_any _ _ _ _ _ hr1 hl6 hT).mono ?_; rintro e w2 ⟨rfl, b2⟩; have t2 := below_step t1 b2; have o12 := o1.below b2; have s2 := t2.size; have b12 := below_step b1 b2; have s12 := b12.size; have ow2 := own_below (own_below (own_empty w 3 1 (Nat.le_refl _)) b1) b2) | (at_builtin; refine wpList_app rfl (.tmp 19) (.tmp 23) 22 rfl (w.alloc (.cells #[] 3)).heap.size Try.underlying22 info_int rfl (by omega) (by omega) A1 _ c1 _ rfl (o12.row.alloc _) (some ⟨w2.heap.size, 0, none⟩) 1 1 [.int .i64 (turnV zs T)] rfl rfl (cells_one _ _ _) (one_int _) ((topL zs).length + 1) _ rfl (ints_snoc _ _) (by omega) (by simp at s12 ⊢; omega) ?_; intro A3 c3 w3 ho3 hb3))
      have best3 : Own w3 (w.heap.size + 1) w3.heap.size 3 1 A3 c3 ((topL zs).length + 1) (ints (topL zs ++ [turnV zs T])) := by
        have := Own.of_row ho3
        simpa using this
      have out3 : Own w3 w.heap.size (w.heap.size + 1) 3 1 (some ⟨w.heap.size, 0, none⟩) 0 0 [] :=
        Own.belowB (⟨ow2.alloc _, fun ad h => by injection h with h; subst h; exact Nat.lt_succ_self _⟩ : Own (w2.alloc (.cells #[.int .i64 (turnV zs T)] 3)) w.heap.size (w.heap.size + 1) 3 1 (some ⟨w.heap.size, 0, none⟩) 0 0 []) (by simpa using hb3) (Nat.le_refl _)
      have t3 : Below w.heap.size w w3 := (t2.alloc s2 _).trans (hb3.mono (by simp))
      have s3 : w.heap.size + 1 ≤ w3.heap.size := by have := hb3.size; simp at this s12; omega
      have Best3 := hid best3
      have Out3 := hid out3
      clear best3 out3 ow2 o1 o12 ho3 hb3 b1 b2 b12 t1 hr1 s12
      go_loopw [5, 7] (fun out i wr => ∃ (k : Nat) (A' : Option Addr) (c' n : Nat), k ≤ zs.length ∧ i = .int .i64 k ∧ out = .slice A' n c' ∧ Hid (((idx k).filter fun i => decide (i ∈ topL zs ++ [turnV zs T])).length = n) ∧ n ≤ k ∧ Hid (wr.ownsRow w.heap.size 3 1 (.slice A' n c') n (ints ((idx k).filter fun i => decide (i ∈ topL zs ++ [turnV zs T])))) ∧
        Hid (∀ ad, A' = some ad → ad.block = w.heap.size ∨ w3.heap.size ≤ ad.block) ∧ Hid (Own wr (w.heap.size + 1) w3.heap.size 3 1 A3 c3 ((topL zs).length + 1) (ints (topL zs ++ [turnV zs T]))) ∧ Below w.heap.size w wr ∧ w3.heap.size ≤ wr.heap.size) (fun _ i _ => zs.length - (intOf i).toNat)
      case atStart => exact ⟨0, _, _, 0, Nat.zero_le _, rfl, rfl, rfl, Nat.le_refl _, Out3.out.row, fun ad h => by injection h with h; subst h; exact .inl rfl, Best3, t3, Nat.le_refl _⟩
      case round =>
        clear Best3 Out3
        obtain ⟨k, A', c', n, hk, rfl, rfl, hn, hnk, ho, hob, hbest, hbel, hs3⟩ := hrel
        have hsz := hbel.size
        by_cases hlt : k < zs.length
        · by_cases hin : (k : Int) ∈ topL zs ++ [turnV zs T]
          · have hb1 : decide ((k : Int) ∈ topL zs ++ [turnV zs T]) = true := by simpa using hin
            have hf := hid (filter_in (p := fun i => decide (i ∈ topL zs ++ [turnV zs T])) (k := k) (by simpa using hin))
            have hhas := hid (l1Has_any A3 c3 ((topL zs).length + 1) _ k wr hlen hbest.out.cells (by omega))
            rw [hb1] at hhas
            clear hin hb1
            go_wp2_with (first | (go_at_call 47; refine hhas.out.mono ?_; rintro e w' ⟨rfl, rfl⟩) | (at_builtin; refine wpList_app2 rfl (.tmp 34) (.tmp 36) 22 rfl w.heap.size Try.underlying22 info_int rfl (by omega) (by omega) A' n c' _ rfl (ho.out.alloc _) _ 0 1 1 [.int .i64 k] rfl rfl (cells_one _ _ _) (one_int _) (n + 1) _ rfl (ints_snoc _ _) (by omega) (by simp; omega) ?_; intro A4 c4 w4 ho4 hg4 hA4))
            have hown4 : ∀ q, (Value.slice A' n c').ownBlock = some q → w.heap.size ≤ q := fun q hq => (ho.out.lt q hq).1
            have hcase : ∀ q, (Value.slice A' n c').ownBlock = some q → q < w.heap.size + 1 ∨ w3.heap.size ≤ q := fun q hq => by
              rcases A' with _ | ad
              · simp [Value.ownBlock] at hq
              · simp [Value.ownBlock] at hq; subst hq
                rcases hob.out ad rfl with h | h
                · exact .inl (by omega)
                · exact .inr h
            go_roundw
            case rel =>
              refine ⟨k + 1, A4, c4, n + 1, by omega, by go_num, rfl, by unfold Hid; rw [hf.out, List.length_append, hn.out]; rfl, by omega, by unfold Hid; rw [hf.out]; exact ho4, fun ad h => ?_, (hbest.out.below ((Below.refl _ _).alloc (Nat.le_refl _) _)).grown hg4 hcase, (hbel.alloc hsz _).trans (below_grown hg4 (by simp; omega) hown4), by have := hg4.size; simp at this; omega⟩
              rcases hA4 ad h with ⟨ad', h1, h2⟩ | h1
              · rw [← h2]; exact hob.out ad' h1
              · right; rw [h1]; simp; omega
            case measure => simp [intOf]; omega
          · have hb1 : decide ((k : Int) ∈ topL zs ++ [turnV zs T]) = false := by simpa using hin
            have hf := hid (filter_out (p := fun i => decide (i ∈ topL zs ++ [turnV zs T])) (k := k) (by simpa using hin))
            have hhas := hid (l1Has_any A3 c3 ((topL zs).length + 1) _ k wr hlen hbest.out.cells (by omega))
            rw [hb1] at hhas
            clear hin hb1
            go_wp2_with (go_at_call 47; refine hhas.out.mono ?_; rintro e w' ⟨rfl, rfl⟩)
            go_roundw
            case rel => exact ⟨k + 1, A', c', n, by omega, by go_num, rfl, by unfold Hid; rw [hf.out]; exact hn.out, by omega, by unfold Hid; rw [hf.out]; exact ho.out, hob, hbest, hbel, hs3⟩
            case measure => simp [intOf]; omega
        · obtain rfl : k = zs.length := by omega
          have heq := hid (servedV_eq zs T)
          clear hlt
          go_wp2
          go_ret
          rw [hfin.out, ← heq.out]
          exact ⟨A', c', by rw [hn.out]; rfl, by rw [hn.out]; exact Own.of_row ho.out, hbel⟩

end Go.Proofs.Ytdncdfcldnamiaa
