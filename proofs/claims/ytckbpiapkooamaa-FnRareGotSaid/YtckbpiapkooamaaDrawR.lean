/- The draws of chapter 22. -/
import Derived.Test.YtckbpiapkooamaaR1
import Derived.Test.YtckbpiapkooamaaDrawB
namespace Go.Proofs.Ytckbpiapkooamaa
open Go.RowKit

def DrawnBits (w : World) (g p : Nat) (e : Ending) (w' : World) : Prop :=
  ∃ A c, ∃ bs : Bits, ∃ p', e = .returned (.slice A bs.length c) ∧ bs.length ≤ 18 ∧ w'.ownsRow w.heap.size 4 1 (.slice A bs.length c) bs.length (bools bs) ∧ Rd w' g p' ∧ p' ≤ p + 100 ∧ Only g w w'
theorem drawnBits_of {w w' : World} {g p p' : Nat} {A : Option Addr} {c m : Nat} {l : Bits} (hm : Hid (l.length = m)) (hl : m ≤ 18) (ho : w'.ownsRow w.heap.size 4 1 (.slice A m c) m (bools l)) (hr : Rd w' g p') (hp : p' ≤ p + 100) (hon : Only g w w') :
    DrawnBits w g p (.returned (.slice A m c)) w' := by
  have h := hm.out; subst h
  exact ⟨A, c, l, p', rfl, hl, ho, hr, hp, hon⟩

set_option maxHeartbeats 1000000 in
theorem l91Bits_any (g p : Nat) (w : World) (hr : Rd w g p) (hp : p ≤ 1000000000) :
    Calls Try.prog 52 #[.pointer (some ⟨g, 0, none⟩)] w (DrawnBits w g p) := by
  have hgl := hr.lt
  have b0 : Below w.heap.size w (w.alloc (.cells #[] 4)) := (Below.refl _ _).alloc (Nat.le_refl _) _
  have r0 := hr.below b0
  have own0 := hid (own_empty w 4 1 (Nat.le_refl _))
  have on0 : Only g w (w.alloc (.cells #[] 4)) := only_grown b0 (Nat.le_refl _)
  go_enter Try.func52, Try.ntmps52
  go_wp2_with fail
  refine (pick_any _ _ _ _ r0 (by omega) (by omega)).mono ?_
  rintro e w1 ⟨n, rfl, n0, n1, -, r1, o1, -⟩
  have n1 := n1 (by omega)
  have own1 := hid (own_only own0.out hgl o1)
  have on1 := on0.trans o1
  go_wp2_with fail
  refine (pick_any _ _ _ _ r1 (by omega) (by omega)).mono ?_
  rintro e w2 ⟨s, rfl, -, -, -, r2, o2, -⟩
  have own2 := hid (own_only own1.out hgl o2)
  have on2 := on1.trans o2
  clear r0 own0 on0 o1 b0 hr own1 on1 r1 o2
  by_cases hs : s = 0
  all_goals
    first
      | (have hb0 : (s == 0) = true := (by rw [hs]; rfl)
         clear hs
         go_wp2_with fail
         refine (pick_any _ _ _ _ r2 (by omega) (by omega)).mono ?_
         rintro e w3 ⟨x, rfl, x0, x1, -, r3, o3, -⟩
         have x1 := x1 (by omega)
         have own3 := hid (own_only own2.out hgl o3)
         have on3 := on2.trans o3
         obtain ⟨N, hN⟩ := Int.eq_ofNat_of_zero_le (show 0 ≤ 16 + x by omega)
         have hN18 : N ≤ 18 := by omega
         go_wp2_with fail
         refine (pick_any _ _ _ _ r3 (by omega) (by omega)).mono ?_
         rintro e w4 ⟨v, rfl, -, -, -, r4, o4, -⟩)
      | (have hb0 : (s == 0) = false := (by rw [beq_eq_false_iff_ne]; exact hs)
         clear hs
         have r3 := r2
         have own3 := own2
         have on3 := on2
         obtain ⟨N, hN⟩ := Int.eq_ofNat_of_zero_le n0
         have hN18 : N ≤ 18 := by omega
         go_wp2_with fail
         refine (pick_any _ _ _ _ r2 (by omega) (by omega)).mono ?_
         rintro e w4 ⟨v, rfl, -, -, -, r4, o4, -⟩)
    have own4 := hid (own_only own3.out hgl o4)
    have on4 := on3.trans o4
    clear r2 own2 on2 r3 own3 on3 o4
    go_wp2_with fail
    go_loopw [3, 5, 6] (fun out sv i wr => ∃ (k : Nat) (A' : Option Addr) (c' : Nat) (l : Bits) (b : Bool) (p' : Nat), k ≤ N ∧ i = .int .i64 k ∧ sv = .bool b ∧ out = .slice A' k c' ∧ Hid (l.length = k) ∧ Hid (wr.ownsRow w.heap.size 4 1 (.slice A' k c') k (bools l)) ∧ Rd wr g p' ∧ p' ≤ p + 4 + k ∧ Only g w wr) (fun _ _ i _ => N - (intOf i).toNat)
    case atStart => exact ⟨0, _, _, [], _, _, Nat.zero_le _, rfl, rfl, rfl, rfl, own4, r4, by omega, on4⟩
    case round =>
      clear own4 r4 on4
      obtain ⟨k, A', c', l, b, p', hk, rfl, rfl, rfl, hl, own, rd, hp', on⟩ := hrel
      have hsz := on.size
      by_cases hlt : k < N
      · have hlt2 : (k : Int) < N := by omega
        first | rw [← hN] at hlt2 | skip
        go_wp2_with fail
        refine (pick_any _ _ _ _ rd (by omega) (by omega)).mono ?_
        rintro e w5 ⟨q, rfl, -, -, -, r5, o5, -⟩
        have own5 := hid (own_only own.out hgl o5)
        have on5 := on.trans o5
        have hs5 := on5.size
        clear own rd on o5
        by_cases hq : q = 0
        · have hb1 : (q == 0) = true := by rw [hq]; rfl
          clear hq
          go_wp2_with (at_builtin; refine wpList_app rfl (.tmp 29) (.tmp 31) 31 rfl w.heap.size Try.underlying31 info_bool rfl (by omega) (by omega) A' k c' _ rfl (own5.out.alloc _) (some ⟨w5.heap.size, 0, none⟩) 1 1 [.bool (!b)] rfl rfl (cells_one _ _ _) (one_bool _) (k + 1) _ rfl (bools_snoc _ _) (by omega) (by simp; omega) ?_; intro A2 c2 w6 ho6 hb6)
          have hgr := ((Below.refl w.heap.size w5).alloc hs5 (.cells #[.bool (!b)] 4)).trans hb6
          go_roundw
          case rel => exact ⟨k + 1, A2, c2, _, _, p' + 1, by omega, by go_num, rfl, rfl, by unfold Hid; rw [List.length_append, hl.out]; rfl, ho6, rd_grown r5 hgr hgl, by omega, only_step on5 hgr (Nat.le_refl _)⟩
          case measure => simp [intOf]; omega
        · have hb1 : (q == 0) = false := by rw [beq_eq_false_iff_ne]; exact hq
          clear hq
          go_wp2_with (at_builtin; refine wpList_app rfl (.tmp 29) (.tmp 31) 31 rfl w.heap.size Try.underlying31 info_bool rfl (by omega) (by omega) A' k c' _ rfl (own5.out.alloc _) (some ⟨w5.heap.size, 0, none⟩) 1 1 [.bool b] rfl rfl (cells_one _ _ _) (one_bool _) (k + 1) _ rfl (bools_snoc _ _) (by omega) (by simp; omega) ?_; intro A2 c2 w6 ho6 hb6)
          have hgr := ((Below.refl w.heap.size w5).alloc hs5 (.cells #[.bool b] 4)).trans hb6
          go_roundw
          case rel => exact ⟨k + 1, A2, c2, _, _, p' + 1, by omega, by go_num, rfl, rfl, by unfold Hid; rw [List.length_append, hl.out]; rfl, ho6, rd_grown r5 hgr hgl, by omega, only_step on5 hgr (Nat.le_refl _)⟩
          case measure => simp [intOf]; omega
      · obtain rfl : k = N := by omega
        have hge : ¬ (k : Int) < k := by omega
        first | rw [← hN] at hge | skip
        have hown := hid own.out
        clear own hlt
        go_wp2
        go_ret
        exact drawnBits_of hl (by omega) hown.out rd (by omega) on

end Go.Proofs.Ytckbpiapkooamaa
