/- Contracts of ChokeTurn and ChokeServed, and of the reference's. -/
import Derived.Test.YtdncdfcldnamiaaPlain2
import Derived.Test.YtdncdfcldnamiaaC4
namespace Go.Proofs.Ytdncdfcldnamiaa
open Go.RowKit

/-- What ChokeTurn gives. -/
def turnG (zs : List Int) (t : Int) : Int := if givenB zs && inB t 0 999 then turnV zs t.toNat else -1
/-- What ChokeServed gives. -/
def servedG (zs : List Int) (t : Int) : List Int := if givenB zs && inB t 0 999 then servedV zs t.toNat else []
theorem turnG_bad {zs : List Int} {t : Int} (h : (givenB zs && inB t 0 999) = false) : turnG zs t = -1 := by simp [turnG, h]
theorem servedG_bad {zs : List Int} {t : Int} (h : (givenB zs && inB t 0 999) = false) : servedG zs t = [] := by simp [servedG, h]
theorem turnG_ok {zs : List Int} {t : Nat} (h : givenB zs = true) (ht : inB t 0 999 = true) : turnG zs t = turnV zs t := by simp [turnG, h, ht]
theorem servedG_ok {zs : List Int} {t : Nat} (h : givenB zs = true) (ht : inB t 0 999 = true) : servedG zs t = servedV zs t := by simp [servedG, h, ht]

/-- An int, and nothing that was there has changed. -/
def RetI (w : World) (n : Int) (e : Ending) (w' : World) : Prop := e = .returned (.int .i64 n) ∧ Below w.heap.size w w'

set_option maxHeartbeats 400000 in
theorem l1Has_any (A : Option Addr) (c n : Nat) (zs : List Int) (x : Int) (w : World) (hn : Hid (zs.length = n)) (hA : Cells w A (ints zs)) (hm : n ≤ 17592186044416) :
    Calls Try.prog 47 #[.slice A n c, .int .i64 x] w fun e w' => e = .returned (.bool (decide (x ∈ zs))) ∧ w' = w := by
  go_enter Try.func47, Try.ntmps47
  go_wp2
  go_loop [5] (fun i => ∃ k : Nat, k ≤ n ∧ i = .int .i64 k ∧ Hid (∀ z ∈ zs.take k, z ≠ x)) (fun i => n - (intOf i).toNat)
  case atStart => exact ⟨0, Nat.zero_le _, rfl, by simp [Hid]⟩
  case round =>
    obtain ⟨k, hk, rfl, hall⟩ := hrel
    by_cases hlt : k < n
    · obtain ⟨b, off, z, rfl, hz, hc⟩ := hA.int_at (k := k) (by rw [hn.out]; exact hlt)
      by_cases hzx : z = x
      · subst hzx
        go_wp2
        go_ret
        exact ⟨ret_bool (by have := List.mem_of_getElem? hz.out; simp [this]), rfl⟩
      · have hb : (z == x) = false := by rw [beq_eq_false_iff_ne]; exact hzx
        have hne := hid hzx
        clear hzx
        go_wp2
        go_round
        case rel => exact ⟨k + 1, by omega, by go_num, by unfold Hid; rw [take_snoc _ _ _ hz.out]; intro y hy; rcases List.mem_append.1 hy with h | h; exact hall.out y h; simp at h; subst h; exact hne.out⟩
        case measure => simp [intOf]; omega
    · go_wp2
      go_ret
      exact ⟨ret_bool (hasB_no (zs := zs) (x := x) (fun z hz => hall.out z (by rw [List.take_of_length_le (by rw [hn.out]; omega)]; exact hz))).symm, rfl⟩

set_option maxHeartbeats 1000000 in
theorem implTurn_any (A : Option Addr) (c : Nat) (zs : List Int) (t : Int) (w : World) (hr : Cells w A (ints zs)) (hm : zs.length ≤ 17592186044416) :
    Calls Try.prog 31 #[.slice A zs.length c, .int .i64 t] w (RetI w (turnG zs t)) := by
  cases hv : givenB zs
  · have hfin := hid (turnG_bad (zs := zs) (t := t) (by rw [hv]; rfl))
    go_enter Try.func31, Try.ntmps31
    go_wp2_with (go_at_call 36; refine (givenValid_any _ _ _ _ hr hm).mono ?_; rintro e w' ⟨rfl, rfl⟩)
    go_ret
    exact ⟨ret_int hfin.out.symm, Below.refl _ _⟩
  · cases hi : inB t 0 999
    · have hfin := hid (turnG_bad (zs := zs) (t := t) (by rw [hv, hi]; rfl))
      go_enter Try.func31, Try.ntmps31
      go_wp2_with (first | (go_at_call 36; refine (givenValid_any _ _ _ _ hr hm).mono ?_; rintro e w' ⟨rfl, rfl⟩) | (go_at_call 38; refine (within_any _ _ _ _).mono ?_; rintro e w' ⟨rfl, rfl⟩))
      go_ret
      exact ⟨ret_int hfin.out.symm, Below.refl _ _⟩
    · have hp : 0 ≤ t ∧ t ≤ 999 := by simpa [inB] using hi
      obtain ⟨T, rfl⟩ := Int.eq_ofNat_of_zero_le hp.1
      have hT : T ≤ 999 := by omega
      have hfin := hid (turnG_ok hv hi)
      have hl6 := givenB_len hv
      have hol := others_length zs
      have hol2 : (othersL zs).length ≤ 6 := by omega
      have Hol := hid hol
      clear hp hol
      by_cases ho : othersL zs = []
      · have hlen : (((othersL zs).length : Int) == 0) = true := by rw [ho]; rfl
        have Ho := hid ho
        clear ho
        go_enter Try.func31, Try.ntmps31
        go_wp2_with (first | (go_at_call 36; refine (givenValid_any _ _ _ _ hr hm).mono ?_; rintro e w' ⟨rfl, rfl⟩) | (go_at_call 38; refine (within_any _ _ _ _).mono ?_; rintro e w' ⟨rfl, rfl⟩) | (go_at_call 43; refine (ranked_any _ _ _ _ hr hv).mono ?_; rintro e w1 ⟨A1, c1, A2, c2, rfl, o1, o2, b1⟩))
        go_ret
        exact ⟨ret_int (by rw [hfin.out, turn_none Ho.out]), b1⟩
      · have hpos : 0 < (othersL zs).length := List.length_pos_iff.2 ho
        have hlen : (((othersL zs).length : Int) == 0) = false := by rw [beq_eq_false_iff_ne]; omega
        have hts := hid (turn_some (t := T) ho)
        have hmod : T % (othersL zs).length < (othersL zs).length := Nat.mod_lt _ hpos
        have Ho := hid ho
        clear ho
        go_enter Try.func31, Try.ntmps31
        go_wp2_with (first | (go_at_call 36; refine (givenValid_any _ _ _ _ hr hm).mono ?_; rintro e w' ⟨rfl, rfl⟩) | (go_at_call 38; refine (within_any _ _ _ _).mono ?_; rintro e w' ⟨rfl, rfl⟩) | (go_at_call 43; refine (ranked_any _ _ _ _ hr hv).mono ?_; rintro e w1 ⟨A1, c1, A2, c2, rfl, o1, o2, b1⟩; obtain ⟨g, rfl, _, _, hcg, _⟩ := o2.int_of hts.out))
        go_ret
        exact ⟨ret_int hfin.out.symm, b1⟩

set_option maxHeartbeats 1000000 in
theorem implServed_any (A : Option Addr) (c : Nat) (zs : List Int) (t : Int) (w : World) (hr : Cells w A (ints zs)) (hm : zs.length ≤ 17592186044416) :
    Calls Try.prog 29 #[.slice A zs.length c, .int .i64 t] w (RetInts w (servedG zs t)) := by
  cases hv : givenB zs
  · have hfin := hid (servedG_bad (zs := zs) (t := t) (by rw [hv]; rfl))
    go_enter Try.func29, Try.ntmps29
    go_wp2_with (go_at_call 36; refine (givenValid_any _ _ _ _ hr hm).mono ?_; rintro e w' ⟨rfl, rfl⟩)
    go_ret
    rw [hfin.out]
    exact ⟨none, 0, rfl, Own.of_row (World.ownsRow_nil _ _ _ _), Below.refl _ _⟩
  · cases hi : inB t 0 999
    · have hfin := hid (servedG_bad (zs := zs) (t := t) (by rw [hv, hi]; rfl))
      go_enter Try.func29, Try.ntmps29
      go_wp2_with (first | (go_at_call 36; refine (givenValid_any _ _ _ _ hr hm).mono ?_; rintro e w' ⟨rfl, rfl⟩) | (go_at_call 38; refine (within_any _ _ _ _).mono ?_; rintro e w' ⟨rfl, rfl⟩))
      go_ret
      rw [hfin.out]
      exact ⟨none, 0, rfl, Own.of_row (World.ownsRow_nil _ _ _ _), Below.refl _ _⟩
    · have hp : 0 ≤ t ∧ t ≤ 999 := by simpa [inB] using hi
      obtain ⟨T, rfl⟩ := Int.eq_ofNat_of_zero_le hp.1
      have hT : T ≤ 999 := by omega
      have hfin := hid (servedG_ok hv hi)
      have htg := hid (turnG_ok hv hi)
      have hl6 := givenB_len hv
      have hbl := best_length zs
      have hbl2 : (bestL zs).length ≤ 6 := by omega
      clear hp hbl
      by_cases ho : othersL zs = []
      · have htn : decide (0 ≤ turnG zs T) = false := by rw [htg.out, turn_none ho]; decide
        have hsn := hid (served_none (t := T) ho)
        have Ho := hid ho
        clear ho
        go_enter Try.func29, Try.ntmps29
        go_wp2_with (first | (go_at_call 36; refine (givenValid_any _ _ _ _ hr hm).mono ?_; rintro e w' ⟨rfl, rfl⟩) | (go_at_call 38; refine (within_any _ _ _ _).mono ?_; rintro e w' ⟨rfl, rfl⟩) | (go_at_call 43; refine (ranked_any _ _ _ _ hr hv).mono ?_; rintro e w1 ⟨A1, c1, A2, c2, rfl, o1, o2, b1⟩; have hr1 := hr.below b1) | (go_at_call 31; refine (implTurn_any _ _ _ _ _ hr1 hm).mono ?_; rintro e w2 ⟨rfl, b2⟩; have o12 := o1.below b2) | (go_at_call 44; refine (sort_any _ _ _ _ _ _ o12 (by omega)).mono ?_; rintro e w3 ⟨rfl, o3, ch3⟩))
        have s1 := b1.size
        have s2 := b2.size
        have s3 := ch3.size
        go_ret
        rw [hfin.out, ← hsn.out]
        refine ⟨A1, c1, by rw [ascL_length]; rfl, by rw [ascL_length]; exact o3.weak (Nat.le_refl _) (by omega), below_chg (below_step b1 b2) ch3 (Nat.le_refl _)⟩
      · have htn : decide (0 ≤ turnG zs T) = true := by rw [htg.out, decide_eq_true_eq]; exact turn_nonneg.2 ho
        have hsn := hid (served_some (t := T) ho)
        have Ho := hid ho
        have hlen : Hid ((bestL zs ++ [turnG zs T]).length = (bestL zs).length + 1) := by unfold Hid; simp
        clear ho
        go_enter Try.func29, Try.ntmps29
        go_wp2_with (first | (go_at_call 36; refine (givenValid_any _ _ _ _ hr hm).mono ?_; rintro e w' ⟨rfl, rfl⟩) | (go_at_call 38; refine (within_any _ _ _ _).mono ?_; rintro e w' ⟨rfl, rfl⟩) | (go_at_call 43; refine (ranked_any _ _ _ _ hr hv).mono ?_; rintro e w1 ⟨A1, c1, A2, c2, rfl, o1, o2, b1⟩; have hr1 := hr.below b1) | (go_at_call 31; refine (implTurn_any _ _ _ _ _ hr1 hm).mono ?_; rintro e w2 ⟨rfl, b2⟩; have o12 := o1.below b2; have s12 := below_step b1 b2; have s2 := s12.size) | (at_builtin; refine wpList_app rfl (.tmp 26) (.tmp 28) 22 rfl w.heap.size Try.underlying22 info_int rfl (by omega) (by omega) _ _ _ _ rfl (o12.row.alloc _) (some ⟨w2.heap.size, 0, none⟩) 1 1 [.int .i64 (turnG zs T)] rfl rfl (cells_one _ _ _) (one_int _) ((bestL zs).length + 1) _ rfl (ints_snoc _ _) (by omega) (by simp; omega) ?_; intro A3 c3 w3 ho3 hb3; have o3 := Own.of_row ho3) | (go_at_call 44; refine (sort_n hlen o3 (by omega)).mono ?_; rintro e w4 ⟨rfl, o4, ch4⟩))
        have s4 := ch4.size
        go_ret
        rw [hfin.out, ← hsn.out, ← htg.out]
        refine ⟨A3, c3, by rw [ascL_length, hlen.out]; rfl, by rw [ascL_length, hlen.out]; exact o4.weak (Nat.le_refl _) s4, below_chg ((s12.alloc s2 _).trans hb3) ch4 (Nat.le_refl _)⟩

theorem giv_get {zs : List Int} {i : Nat} {z : Int} (h : zs[i]? = some z) : giv zs i = -z := giv_at h

set_option maxHeartbeats 2000000 in
theorem specBest_any (A : Option Addr) (c : Nat) (zs : List Int) (w : World) (hr : Cells w A (ints zs)) (hl6 : zs.length ≤ 6) :
    Calls Try.prog 45 #[.slice A zs.length c] w (RetInts w (topL zs)) := by
  go_enter Try.func45, Try.ntmps45
  go_wp2
  go_loopw [3] (fun out wr => ∃ (m : Nat) (A' : Option Addr) (c' : Nat), m ≤ 3 ∧ m ≤ zs.length ∧ out = .slice A' m c' ∧ wr.ownsRow w.heap.size 3 1 (.slice A' m c') m (ints ((rankL zs).take m)) ∧ Below w.heap.size w wr) (fun out _ => match out with | .slice _ n _ => 3 - n | _ => 0)
  case atStart => exact ⟨0, _, _, by omega, Nat.zero_le _, rfl, own_empty _ _ _ (Nat.le_refl _), (Below.refl _ _).alloc (Nat.le_refl _) _⟩
  case round =>
    obtain ⟨m, A', c', hm3, hml, rfl, ho, hbel⟩ := hrel
    have hsz := hbel.size
    have hout := Own.of_row ho
    have hlo : Hid (((rankL zs).take m).length = m) := by unfold Hid; rw [List.length_take, rankL_length]; omega
    by_cases hgo : m < 3 ∧ m < zs.length
    · obtain ⟨hm, hmz⟩ := hgo
      have hrw := hr.below hbel
      have Ho := hid ho
      clear ho
      go_wp2
      obtain ⟨wo, rfl⟩ : ∃ wo : World, wo = wr := ⟨_, rfl⟩
      go_loopw [4, 5] (fun k i wr => ∃ (j : Nat) (K : Int), j ≤ zs.length ∧ i = .int .i64 j ∧ k = .int .i64 K ∧ Hid (Sel zs ((rankL zs).take m) j K) ∧ Below wo.heap.size wo wr) (fun _ i _ => zs.length - (intOf i).toNat)
      case atStart => exact ⟨0, -1, Nat.zero_le _, rfl, rfl, Sel.start _ _, Below.refl _ _⟩
      case round =>
        obtain ⟨j, K, hj, rfl, rfl, hsel, hbo⟩ := hrel
        have hrx := hrw.below hbo
        have houtx := hout.below hbo
        by_cases hlt : j < zs.length
        · obtain ⟨b, off, z, rfl, hz, hcz⟩ := hrx.int_at hlt
          have hhas := fun n => l1Has_any A' c' m ((rankL zs).take m) j (wr.drewN n) hlo (houtx.cells.drewN n) (by omega)
          have Hhas := hid hhas
          clear hhas
          by_cases hin : (j : Int) ∈ (rankL zs).take m
          · have hb1 : decide ((j : Int) ∈ (rankL zs).take m) = true := by simpa using hin
            have hnx := hid (hsel.out.pass hin)
            clear hin hsel
            go_wp2
            go_quiet ((go_at_call 47; exact Calls.quiet_of_same (Hhas.out _)))
            go_wp2
            go_roundw
            case rel => exact ⟨j + 1, K, by omega, by go_num, rfl, hnx, below_drewN hbo _⟩
            case measure => simp [intOf]; omega
          · have hb1 : decide ((j : Int) ∈ (rankL zs).take m) = false := by simpa using hin
            by_cases hK : K = -1
            · subst hK
              have hnx := hid (hsel.out.first hin)
              clear hin hsel
              go_wp2
              go_quiet ((go_at_call 47; exact Calls.quiet_of_same (Hhas.out _)))
              go_wp2
              go_roundw
              case rel => exact ⟨j + 1, j, by omega, by go_num, rfl, hnx, below_drewN hbo _⟩
              case measure => simp [intOf]; omega
            · obtain ⟨q, rfl, hqj⟩ : ∃ q : Nat, K = q ∧ q < j := by
                rcases hsel.out with ⟨hk, _⟩ | ⟨q, hk, hq, _⟩
                · exact (hK hk).elim
                · exact ⟨q, hk, hq⟩
              have hqz : q < zs.length := by omega
              obtain ⟨y, hy⟩ : ∃ y, zs[q]? = some y := ⟨zs[q], List.getElem?_eq_getElem hqz⟩
              obtain ⟨_, _, hA, hcy⟩ := hrx.int_of hy
              injection hA with hA; injection hA with hA1 hA2; subst hA1; subst hA2
              have e1 := giv_at hz.out
              have e2 := giv_at hy
              have hneg : decide ((q : Int) < 0) = false := by simp
              by_cases hgt : y < z
              · have hb2 : decide (y < z) = true := by simpa using hgt
                have hnx := hid (hsel.out.better hin (by rw [e1, e2]; omega))
                have Hy := hid hy
                clear hin hsel hK hgt e1 e2 hy
                go_wp2
                go_quiet ((go_at_call 47; exact Calls.quiet_of_same (Hhas.out _)))
                go_wp2
                go_roundw
                case rel => exact ⟨j + 1, j, by omega, by go_num, rfl, hnx, below_drewN hbo _⟩
                case measure => simp [intOf]; omega
              · have hb2 : decide (y < z) = false := by simpa using hgt
                have hnx := hid (hsel.out.keep (by rw [e1, e2]; omega))
                have Hy := hid hy
                clear hin hsel hK hgt e1 e2 hy
                go_wp2
                go_quiet ((go_at_call 47; exact Calls.quiet_of_same (Hhas.out _)))
                go_wp2
                go_roundw
                case rel => exact ⟨j + 1, q, by omega, by go_num, rfl, hnx, below_drewN hbo _⟩
                case measure => simp [intOf]; omega
        · obtain rfl : j = zs.length := by omega
          have hK := hid (hsel.out.done hmz)
          have hrowx := own_below Ho.out hbo
          have hsx := Nat.le_trans hsz hbo.size
          have t1 := below_step hbel hbo
          clear hsel hbo hrx houtx hlt
          go_wp2_with (at_builtin; refine wpList_app rfl (.tmp 43) (.tmp 45) 22 rfl w.heap.size Try.underlying22 info_int rfl (by omega) (by omega) A' m c' _ rfl (hrowx.alloc _) (some ⟨wr.heap.size, 0, none⟩) 1 1 [.int .i64 K] rfl rfl (cells_one _ _ _) (one_int _) (m + 1) _ rfl (ints_snoc _ _) (by omega) (by simp; omega) ?_; intro A2 c2 w2 ho2 hb2)
          go_roundw
          case rel => exact ⟨m + 1, A2, c2, by omega, by omega, rfl, by rw [take_snoc _ _ _ hK.out]; exact ho2, (t1.alloc hsx _).trans hb2⟩
          case measure => simp; omega
    · have hfin : Hid ((rankL zs).take m = topL zs) := by
        unfold Hid topL
        by_cases h3 : m = 3
        · rw [h3]
        · rw [List.take_of_length_le (by rw [rankL_length]; omega), List.take_of_length_le (by rw [rankL_length]; omega)]
      have Ho := hid hout
      clear hout ho
      by_cases h3 : m < 3
      · go_wp2
        go_ret
        exact ⟨A', c', by rw [← hfin.out, hlo.out]; rfl, by rw [← hfin.out, hlo.out]; exact Ho.out, hbel⟩
      · go_wp2
        go_ret
        exact ⟨A', c', by rw [← hfin.out, hlo.out]; rfl, by rw [← hfin.out, hlo.out]; exact Ho.out, hbel⟩

end Go.Proofs.Ytdncdfcldnamiaa
