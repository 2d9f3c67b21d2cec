/- The draws of chapter 12: one fork, some forks. -/
import Derived.Test.YtpnahccmdebifaaFC
namespace Go.Proofs.Ytpnahccmdebifaa
open Go.RowKit

/-- Forks drawn into a row of the call's own. -/
def DrawnFs (w : World) (e : Ending) (w' : World) : Prop :=
  ∃ (A : Option Addr) (c n : Nat) (l : List ForkT), e = .returned (.slice A n c) ∧ n ≤ 4 ∧ Hid (l.length = n) ∧ Own w' w.heap.size w'.heap.size 32 7 A c n (forks l) ∧ Below w.heap.size w w'
theorem drawnFs_of {w w1 w' : World} {A : Option Addr} {c n : Nat} {l : List ForkT} (hn : n ≤ 4) (hl : Hid (l.length = n)) (h0 : w.heap.size ≤ w1.heap.size) (ho : w'.ownsRow w1.heap.size 32 7 (.slice A n c) n (forks l)) (hb : Below w.heap.size w w') : DrawnFs w (.returned (.slice A n c)) w' :=
  ⟨A, c, n, l, rfl, hn, hl, (Own.of_row ho).weak h0 (Nat.le_refl _), hb⟩

set_option maxRecDepth 100000 in
set_option maxHeartbeats 2000000 in
theorem drawForkCheck_any (A : Option Addr) (c : Nat) (us : List Int) (w : World) (hr : Cells w A (bytes us)) (hu : ∀ u ∈ us, 0 ≤ u ∧ u ≤ 255) (hc : us.length ≤ c) (hm : us.length ≤ 17592186044416) :
    Calls Try.prog 11 #[.slice A us.length c] w fun e w' => (∃ x, e = .returned (fv x)) ∧ Below w.heap.size w w' := by
  have b0 : Below w.heap.size w (w.alloc (.cells #[.int .i64 0, .int .i64 0, .int .i64 0, .int .i64 0, .int .i64 0, .int .i64 0, .int .i64 0] 32)) := (Below.refl _ _).alloc (Nat.le_refl _) _
  have q0 := hid (Blk.new w 32 zero7)
  unfold zero7 at q0
  have Hu := hid hu
  clear hu
  go_enter Try.func11, Try.ntmps11
  go_wp2_with fail
  refine (l6Open_any A c us _ (hr.below b0) Hu.out hc hm).mono ?_
  rintro e w1 ⟨rfl, r1, b1⟩
  have q1 := hid (q0.out.below b1 q0.out.lt)
  have hb1 := below_step b0 b1
  have hg : (w.alloc (.cells #[.int .i64 0, .int .i64 0, .int .i64 0, .int .i64 0, .int .i64 0, .int .i64 0, .int .i64 0] 32)).heap.size = w.heap.size + 1 := by simp
  rw [hg] at r1
  clear b0 b1 q0 hg
  go_wp2_with fail
  refine (l91Fork_any _ _ _ r1 (by omega)).mono ?_
  rintro e w2 ⟨x, p2, rfl, r2, -, o2⟩
  have q2 := hid (blk_only q1.out o2 (by simp))
  have hb2 := hb1.trans (Only.below o2 (by simp) hb1.size)
  obtain ⟨d0, d1, d2, d3, d4, d5, d6⟩ := q2.out.seven
  have g0 := q2.out.free 0
  have g1 := q2.out.free 1
  have g2 := q2.out.free 2
  have g3 := q2.out.free 3
  have g4 := q2.out.free 4
  have g5 := q2.out.free 5
  have g6 := q2.out.free 6
  obtain ⟨z0, ⟨z1, z2, z3⟩, ⟨z4, z5, z6⟩⟩ := x
  clear q1 r1 r2 o2 hb1
  go_wp2
  have k := ((((((q2.out.set 0 (.int .i64 z0)).set 1 (.int .i64 z1)).set 2 (.int .i64 z2)).set 3 (.int .i64 z3)).set 4 (.int .i64 z4)).set 5 (.int .i64 z5)).set 6 (.int .i64 z6)
  obtain ⟨y0, y1, y2, y3, y4, y5, y6⟩ := Blk.seven k
  refine bodyPost_ret (v := fv ⟨z0, ⟨z1, z2, z3⟩, ⟨z4, z5, z6⟩⟩) (by simp [results, Try.results11, go_sem, y0, y1, y2, y3, y4, y5, y6]) rfl ?_
  exact ⟨⟨_, rfl⟩, below_chg (below_three (below_three hb2 _ _ _ _ _ _) _ _ _ _ _ _) (chg_set _ (Nat.le_refl _) (Nat.lt_succ_self _) 6 _) (Nat.le_refl _)⟩

set_option maxRecDepth 100000 in
set_option maxHeartbeats 4000000 in
theorem drawForkNamed_any (A : Option Addr) (c : Nat) (us : List Int) (w : World) (hr : Cells w A (bytes us)) (hu : ∀ u ∈ us, 0 ≤ u ∧ u ≤ 255) (hc : us.length ≤ c) (hm : us.length ≤ 17592186044416) :
    Calls Try.prog 5 #[.slice A us.length c] w (DrawnFs w) := by
  have Hu := hid hu
  clear hu
  go_enter Try.func5, Try.ntmps5
  go_wp2_with fail
  refine (l6Open_any A c us _ hr Hu.out hc hm).mono ?_
  rintro e w1 ⟨rfl, r1, b1⟩
  have hg1 := r1.lt
  have bE : Below w1.heap.size w1 (w1.alloc (.cells #[] 32)) := (Below.refl _ _).alloc (Nat.le_refl _) _
  have ownE := hid (own_empty w1 32 7 (Nat.le_refl _))
  have rE := r1.below bE
  have onE : Only w.heap.size w1 (w1.alloc (.cells #[] 32)) := only_grown bE (Nat.le_refl _)
  clear hr hc hm Hu
  go_wp2_with fail
  refine (pick_any _ _ _ _ rE (by omega) (by omega)).mono ?_
  rintro e w2 ⟨n, rfl, n0, n1, -, r2, o2, -⟩
  have n1 := n1 (by omega)
  have own2 := hid (own_only ownE.out hg1 o2)
  have on2 := onE.trans o2
  obtain ⟨N, rfl⟩ := Int.eq_ofNat_of_zero_le n0
  clear ownE rE onE o2 bE r1
  go_wp2_with fail
  go_loopw [4, 6] (fun out i wr => ∃ (k : Nat) (A' : Option Addr) (c' : Nat) (l : List ForkT) (p' : Nat), k ≤ N ∧ i = .int .i64 k ∧ out = .slice A' k c' ∧ Hid (l.length = k) ∧ Hid (wr.ownsRow w1.heap.size 32 7 (.slice A' k c') k (forks l)) ∧ Rd wr w.heap.size p' ∧ p' ≤ 1 + 1000 * k ∧ Only w.heap.size w1 wr) (fun _ i _ => N - (intOf i).toNat)
  case atStart => exact ⟨0, _, _, [], 0 + 1, Nat.zero_le _, rfl, rfl, rfl, own2, r2, by omega, on2⟩
  case round =>
    clear own2 r2 on2
    obtain ⟨k, A', c', l, p', hk, rfl, rfl, hl, own, rd, hp', on⟩ := hrel
    by_cases hlt : k < N
    · go_wp2_with fail
      refine (l91Fork_any _ _ _ rd (by omega)).mono ?_
      rintro e w3 ⟨x, p3, rfl, r3, hp3, o3⟩
      have own3 := hid (own_only own.out hg1 o3)
      have on3 := on.trans o3
      have hs3 := on3.size
      have hcx := hid (Blk.cells (Blk.new w3 32 (fcells x)))
      obtain ⟨z0, ⟨z1, z2, z3⟩, ⟨z4, z5, z6⟩⟩ := x
      clear own rd on o3
      go_wp2_with (at_builtin; refine wpList_app rfl (.tmp 17) (.tmp 20) 23 rfl w1.heap.size Try.underlying23 info_fork rfl (by omega) (by omega) A' k c' _ rfl (own3.out.alloc _) (some ⟨w3.heap.size, 0, none⟩) 1 1 (fcells ⟨z0, ⟨z1, z2, z3⟩, ⟨z4, z5, z6⟩⟩) rfl rfl hcx.out (fcells_one _) (k + 1) (forks (l ++ [⟨z0, ⟨z1, z2, z3⟩, ⟨z4, z5, z6⟩⟩])) rfl (forks_snoc _ _) (by omega) (by simp; omega) ?_; intro A5 c5 w5 ho5 hb5)
      have hgr := ((Below.refl w1.heap.size w3).alloc hs3 (.cells (fcells ⟨z0, ⟨z1, z2, z3⟩, ⟨z4, z5, z6⟩⟩).toArray 32)).trans hb5
      go_roundw
      case rel => exact ⟨k + 1, A5, c5, _, _, by omega, by go_num, rfl, by unfold Hid; rw [List.length_append, hl.out]; rfl, ho5, rd_grown r3 hgr hg1, by omega, only_step on3 hgr (Nat.le_refl _)⟩
      case measure => simp [intOf]; omega
    · obtain rfl : k = N := by omega
      clear hlt
      have hbw := b1.trans (Only.below on (Nat.le_refl _) (Nat.le_of_lt hg1))
      have hk3 : k ≤ 3 := by omega
      clear n1 n0
      by_cases h0 : 0 < k
      · go_wp2_with fail
        refine (pick_any _ _ _ _ rd (by omega) (by omega)).mono ?_
        rintro e w3 ⟨s, rfl, -, -, -, r3, o3, -⟩
        have own3 := hid (own_only own.out hg1 o3)
        have on3 := on.trans o3
        have hs3 := on3.size
        have hbw3 := hbw.trans (Only.below o3 (Nat.le_refl _) hbw.size)
        clear own rd on o3 hbw r3
        by_cases hs : s = 0
        · have hb0 : (s == 0) = true := by rw [hs]; rfl
          clear hs
          obtain ⟨x, hx⟩ : ∃ x, l[0]? = some x := ⟨l[0]'(by rw [hl.out]; exact h0), List.getElem?_eq_getElem _⟩
          obtain ⟨b, off, hA, a7⟩ := (own_cells own3.out).fork_of hx
          subst hA
          rw [Nat.zero_mul, Nat.add_zero] at a7
          have hcx := hid (Blk.cells (Blk.new w3 32 (fcells x)))
          obtain ⟨z0, ⟨z1, z2, z3⟩, ⟨z4, z5, z6⟩⟩ := x
          obtain ⟨d0, d1, d2, d3, d4, d5, d6⟩ := a7
          simp only at d0 d1 d2 d3 d4 d5 d6
          have hbA := (Below.refl w1.heap.size w3).alloc hs3 (.cells (fcells ⟨z0, ⟨z1, z2, z3⟩, ⟨z4, z5, z6⟩⟩).toArray 32)
          clear hx
          go_wp2_with (at_builtin; refine wpList_app rfl (.tmp 29) (.tmp 33) 23 rfl w1.heap.size Try.underlying23 info_fork rfl (by omega) (by omega) _ k c' _ rfl (own3.out.alloc _) (some ⟨w3.heap.size, 0, none⟩) 1 1 (fcells ⟨z0, ⟨z1, z2, z3⟩, ⟨z4, z5, z6⟩⟩) rfl rfl hcx.out (fcells_one _) (k + 1) (forks (l ++ [⟨z0, ⟨z1, z2, z3⟩, ⟨z4, z5, z6⟩⟩])) rfl (forks_snoc _ _) (by omega) (by simp; omega) ?_; intro A5 c5 w5 ho5 hb5)
          go_ret
          exact drawnFs_of (by omega) (by unfold Hid; rw [List.length_append, hl.out]; rfl) (Nat.le_of_lt hg1) ho5 (hbw3.trans ((hbA.trans hb5).mono (Nat.le_of_lt hg1)))
        · have hb0 : (s == 0) = false := by rw [beq_eq_false_iff_ne]; exact hs
          clear hs
          go_wp2
          go_ret
          exact drawnFs_of (by omega) hl (Nat.le_of_lt hg1) own3.out hbw3
      · go_wp2
        go_ret
        exact drawnFs_of (by omega) hl (Nat.le_of_lt hg1) own.out hbw

end Go.Proofs.Ytpnahccmdebifaa
