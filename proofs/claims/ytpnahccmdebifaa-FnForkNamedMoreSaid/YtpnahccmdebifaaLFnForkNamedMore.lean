/- laws.FnForkNamedMore: the walk. -/
import Derived.Test.YtpnahccmdebifaaLF0
namespace Go.Proofs.Ytpnahccmdebifaa
open Go.RowKit

set_option maxRecDepth 100000 in
set_option maxHeartbeats 4000000 in
theorem forkNamedMore_walk (A : Option Addr) (c : Nat) (us : List Int) (B : Option Addr) (d : Nat) (vs : List Int) (w : World) (hr : Cells w A (bytes us)) (hu : ∀ u ∈ us, 0 ≤ u ∧ u ≤ 255) (hc : us.length ≤ c)
    (hr2 : Cells w B (bytes vs)) (hu2 : ∀ u ∈ vs, 0 ≤ u ∧ u ≤ 255) (hc2 : vs.length ≤ d) :
    Calls Try.prog 4 #[.slice A us.length c, .slice B vs.length d] w (RetB w true) := by
  have Hu := hid hu
  have Hu2 := hid hu2
  have R2 := hid hr2
  clear hu hu2 hr2
  by_cases h20 : 1048576 < us.length
  · go_enter Try.func4, Try.ntmps4
    go_wp2
    go_ret
    exact ⟨rfl, Below.refl _ _⟩
  · have hm : us.length ≤ 17592186044416 := by omega
    have hd : decide ((1048576 : Int) < (us.length : Int)) = false := by simp; omega
    clear h20
    by_cases h21 : 1048576 < vs.length
    · have hd2 : decide ((1048576 : Int) < (vs.length : Int)) = true := by simp; omega
      go_enter Try.func4, Try.ntmps4
      go_wp2
      go_ret
      exact ⟨rfl, Below.refl _ _⟩
    · have hm2 : vs.length ≤ 17592186044416 := by omega
      have hd2 : decide ((1048576 : Int) < (vs.length : Int)) = false := by simp; omega
      clear h21
      go_enter Try.func4, Try.ntmps4
      go_wp2_with fail
      refine (drawForkNamed_any _ _ _ _ hr Hu.out hc hm).mono ?_
      rintro e w1 ⟨A1, c1, n, l, rfl, hn4, hl, o1, b1⟩
      clear hr hc hm hd hd2
      have O1 := hid o1
      clear o1
      obtain ⟨Z, hZ⟩ : ∃ Z, specAll l = Z := ⟨_, rfl⟩
      obtain ⟨z, hz⟩ : ∃ z, Z.length = z := ⟨_, rfl⟩
      have hzn : z ≤ n := by rw [← hz, ← hZ, ← hl.out]; exact specAll_len l
      have HZ := hid hZ
      have Hz := hid hz
      clear hZ hz
      go_wp2_with fail
      refine (implNamed_n hl HZ Hz _ _ _ O1.out.cells (by omega)).mono ?_; rintro e w2 ⟨A2, c2, rfl, o2, b2⟩
      have P2 := hid o2
      have O2 := hid (O1.out.below b2)
      have t2 := below_step b1 b2
      clear o2 b1 b2 O1
      go_wp2_with fail
      refine (specNamed_n hl HZ Hz _ _ _ O2.out.cells (by omega)).mono ?_; rintro e w3 ⟨A3, c3, rfl, o3, b3⟩
      have P3 := hid (P2.out.below b3)
      have Q3 := hid o3
      have O3 := hid (O2.out.below b3)
      have t3 := below_step t2 b3
      have hs23 := b3.size
      clear o3 b3 O2 P2 t2
      go_wp2_with fail
      refine (sameInts_n Hz _ _ _ _ _ P3.out.cells Q3.out.cells (by omega)).mono ?_; rintro e w4 ⟨rfl, b4⟩
      have P4 := hid (P3.out.below b4)
      have O4 := hid (O3.out.below b4)
      have t4 := below_step t3 b4
      have hs24 := Nat.le_trans hs23 b4.size
      have hs4 := t4.size
      clear b4 P3 O3 Q3 t3
      have bE : Below w4.heap.size w4 (w4.alloc (.cells #[] 32)) := (Below.refl _ _).alloc (Nat.le_refl _) _
      go_wp2_with (at_builtin; refine wpList_app rfl (.tmp 31) (.tmp 32) 23 rfl w4.heap.size Try.underlying23 info_fork rfl (by omega) (by omega) _ 0 0 [] rfl (own_empty w4 32 7 (Nat.le_refl _)) A1 n c1 (forks l) rfl (by rw [forks_length, hl.out]) (O4.out.below bE).cells (forks_one _) n (forks l) (Nat.zero_add _) rfl (by omega) (by simp) ?_; intro A5 c5 w5 ho5 hb5)
      have t5 := below_step t4 (bE.trans hb5)
      have P5 := hid (P4.out.below (bE.trans hb5))
      have O5 := hid ho5
      have hs5 := (bE.trans hb5).size
      clear ho5 hb5 bE t4 P4 O4
      refine (drawForkCheck_any B d vs w5 (R2.out.below t5) Hu2.out hc2 hm2).mono ?_
      rintro e w6 ⟨⟨x, rfl⟩, b6⟩
      have O6 := hid (own_below O5.out b6)
      have P6 := hid (P5.out.below b6)
      have t6 := below_step t5 b6
      have hs6 : w4.heap.size ≤ w6.heap.size := Nat.le_trans hs5 b6.size
      have hcx := hid (Blk.cells (Blk.new w6 32 (fcells x)))
      have bA : Below w6.heap.size w6 (w6.alloc (.cells (fcells x).toArray 32)) := (Below.refl _ _).alloc (Nat.le_refl _) _
      have hl7 : Hid ((l ++ [x]).length = n + 1) := by unfold Hid; rw [List.length_append, hl.out]; rfl
      obtain ⟨Y, hY⟩ : ∃ Y, specAll (l ++ [x]) = Y := ⟨_, rfl⟩
      obtain ⟨y, hy⟩ : ∃ y, Y.length = y := ⟨_, rfl⟩
      have hyz : y ≤ z + 1 := by rw [← hy, ← hY, ← Hz.out, ← HZ.out]; exact specAll_one l x
      have hin : Hid (∀ q ∈ Z, q ∈ Y) := by unfold Hid; rw [← HZ.out, ← hY]; exact fun q h => specAll_more h
      have hlx : Hid (forks l ++ fcells x = forks (l ++ [x])) := forks_snoc l x
      have HY := hid hY
      have Hy := hid hy
      generalize l ++ [x] = lx at HY hl7 hlx
      obtain ⟨z0, ⟨z1, z2, z3⟩, ⟨z4, z5, z6⟩⟩ := x
      clear hY hy b6 t5 P5 O5 R2 Hu2 hc2 hm2 hs5
      go_wp2_with (at_builtin; refine wpList_app rfl (.tmp 33) (.tmp 36) 23 rfl w4.heap.size Try.underlying23 info_fork rfl (by omega) (by omega) A5 n c5 _ rfl (O6.out.alloc _) (some ⟨w6.heap.size, 0, none⟩) 1 1 (fcells ⟨z0, ⟨z1, z2, z3⟩, ⟨z4, z5, z6⟩⟩) rfl rfl hcx.out (fcells_one _) (n + 1) (forks lx) rfl hlx.out (by omega) (by simp; omega) ?_; intro A7 c7 w7 ho7 hb7)
      have b67 := (bA.mono hs6).trans hb7
      have t7 := t6.trans (b67.mono hs4)
      have P7 := hid (P6.out.belowB b67 hs24)
      refine (implNamed_n hl7 HY Hy _ _ _ (own_cells ho7) (by omega)).mono ?_; rintro e w8 ⟨A8, c8, rfl, o8, b8⟩
      have P8 := hid (P7.out.below b8)
      have S8 := hid o8
      have t8 := below_step t7 b8
      clear o8 b8 P7 t7
      go_wp2_with fail
      go_loopw [9] (fun i wr => ∃ k : Nat, k ≤ z ∧ i = .int .i64 k ∧ Below w8.heap.size w8 wr) (fun i _ => z - (intOf i).toNat)
      case atStart => exact ⟨0, Nat.zero_le _, rfl, Below.refl _ _⟩
      case round =>
        obtain ⟨k, hk, rfl, hb⟩ := hrel
        by_cases hlt : k < z
        · obtain ⟨q, hq⟩ : ∃ q, Z[k]? = some q := ⟨Z[k]'(by rw [Hz.out]; exact hlt), List.getElem?_eq_getElem _⟩
          have Hv : Hid (decide (q ∈ Y) = true) := by unfold Hid; simp [hin.out q (List.mem_of_getElem? hq)]
          obtain ⟨g, off2, hA2, y0⟩ := (P8.out.below hb).cells.int_of hq
          subst hA2
          clear hq
          go_wp2_with fail
          refine (hasInt_n Hy Hv _ _ _ (S8.out.below hb).cells (by omega)).mono ?_; rintro e w6 ⟨rfl, rfl⟩
          go_wp2
          go_roundw
          case rel => exact ⟨k + 1, by omega, by go_num, hb⟩
          case measure => simp [intOf]; omega
        · have hle : decide ((y : Int) ≤ (z : Int) + 1) = true := by simp; omega
          go_wp2
          go_ret
          exact ⟨rfl, below_step t8 hb⟩

end Go.Proofs.Ytpnahccmdebifaa
