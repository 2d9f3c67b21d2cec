/- laws.FnAsk: the walk. -/
import Derived.Test.YtjfpemneinclfaaLW0
import Derived.Deep.RegionHeld3
namespace Go.Proofs.Ytjfpemneinclfaa
open Go.RowKit

set_option maxHeartbeats 2000000 in
theorem ask_walk (A : Option Addr) (c : Nat) (us : List Int) (w : World) (hr : Cells w A (bytes us)) (hu : ∀ u ∈ us, 0 ≤ u ∧ u ≤ 255) (hc : us.length ≤ c) :
    Calls Try.prog 6 #[.slice A us.length c] w (RetB w true) := by
  have Hu := hid hu
  clear hu
  by_cases h20 : 1048576 < us.length
  · go_enter Try.func6, Try.ntmps6
    go_wp2
    go_ret
    exact ⟨rfl, Below.refl _ _⟩
  · have hm : us.length ≤ 17592186044416 := by omega
    have hd : decide ((1048576 : Int) < (us.length : Int)) = false := by simp; omega
    clear h20
    go_enter Try.func6, Try.ntmps6
    go_wp2_with fail
    refine (drawAsk_any _ _ _ _ hr Hu.out hc hm).mono ?_
    rintro e w1 ⟨A1, c1, l, x, y, en, rfl, hl, o1, b1⟩
    clear hr hc hm hd
    have ba : Below w1.heap.size w1 (w1.alloc (.cells #[.int .i64 x, .int .i64 y] 34)) := (Below.refl _ _).alloc (Nat.le_refl _) _
    have ka := hid (Blk.new w1 34 [.int .i64 x, .int .i64 y])
    have ta := below_step b1 ba
    have Oa := hid (o1.below ba)
    have hcp : l.length ≤ c1 := own_cap o1.row
    obtain ⟨L, ok, hG⟩ : ∃ L ok, askG l (x, y) en = (L, ok) := ⟨_, _, rfl⟩
    have hLn := askG_len l (x, y) en
    rw [hG] at hLn
    have HG := hid hG
    obtain ⟨n, hn⟩ : ∃ n, L.length = n := ⟨_, rfl⟩
    have hn16 : n ≤ 16 := by simp only at hLn; omega
    have Hn := hid hn
    obtain ⟨m, hm0⟩ : ∃ m, l.length = m := ⟨_, rfl⟩
    have Hm := hid hm0
    rw [hm0] at hl hcp
    clear hG hLn hn b1
    go_wp2_with fail
    generalize w1.alloc (.cells #[.int .i64 x, .int .i64 y] 34) = wa at ba ka ta Oa ⊢
    have ca0 := ka.out.cell 0
    have ca1 := ka.out.cell 1
    simp only [List.getElem?_cons_zero, List.getElem?_cons_succ] at ca0 ca1
    rw [hm0] at Oa
    clear hm0 o1 ba ka
    refine (implAsk_g HG Hm Hn (by omega) _ _ _ Oa.out.cells hcp).mono ?_; rintro e w2 ⟨A2, c2, rfl, o2, b2⟩
    have ce0 := cell_later b2 ca0
    have ce1 := cell_later b2 ca1
    go_wp2_with fail
    refine (specAsk_g HG Hm Hn (by omega) _ _ _ (Oa.out.below b2).cells hcp).mono ?_; rintro e w3 ⟨A3, c3, rfl, o3, b3⟩
    have cf0 := cell_later b3 ce0
    have cf1 := cell_later b3 ce1
    have O2 := hid (o2.below b3)
    have O3 := hid o3
    have t3 := below_step (below_step ta b2) b3
    have O1 := hid ((Oa.out.below b2).below b3)
    have hcp2 : n ≤ c2 := own_cap o2.row
    clear ca0 ca1 ce0 ce1 o2 o3 b2 b3 ta Oa
    cases ok
    · go_wp2_with fail
      refine (sameAsks_g Hn (by omega) _ _ _ _ _ O2.out.cells O3.out.cells).mono ?_; rintro e w4 ⟨rfl, b4⟩
      go_wp2_with fail
      refine (sameAsks_g Hn (by omega) _ _ _ _ _ (O2.out.below b4).cells (O3.out.below b4).cells).mono ?_; rintro e w5 ⟨rfl, b5⟩
      go_wp2_with fail
      go_ret
      exact ⟨rfl, below_step (below_step t3 b4) b5⟩
    · obtain ⟨hv, haB, hnh, hpn, hbn, hL⟩ := askG_ok HG.out
      simp only at hpn hbn
      have HvL := hid (askG_new HG.out)
      rw [← hL] at HvL
      have Hv := hid hv
      have HaB := hid haB
      have Hnh := hid hnh
      have hnm : n = m + 1 := by rw [← Hn.out, hL, ← Hm.out]; simp
      have HL := hid hL
      have Hnm := hid hnm
      clear hv haB hnh hL hnm
      go_wp2_with fail
      refine (sameAsks_g Hn (by omega) _ _ _ _ _ O2.out.cells O3.out.cells).mono ?_; rintro e w4 ⟨rfl, b4⟩
      have cg0 := cell_later b4 cf0
      have cg1 := cell_later b4 cf1
      have t4 := below_step t3 b4
      have Q1 := hid (O1.out.below b4)
      have Q2 := hid (O2.out.below b4)
      have Q3 := hid (O3.out.below b4)
      clear O1 O2 O3 b4 t3 cf0 cf1
      have iA := After.some w4
      have hz : L[m]? = some (x, y) := by rw [HL.out, List.getElem?_append_right (by rw [Hm.out]; exact Nat.le_refl _), Hm.out, Nat.sub_self]; rfl
      obtain ⟨b, off, rfl, hc0, hc1⟩ := Q2.out.cells.ask_of hz
      have HLt : Hid (Cells w4 (some ⟨b, off, none⟩) (asks l)) := by
        have e : L.take m = l := by rw [HL.out, ← Hm.out]; simp
        unfold Hid; rw [← e, ← asks_take]; exact Q2.out.cells.take _
      have q0 := fun p => after_cell cg0 p
      have q1 := fun p => after_cell cg1 p
      have q2 := fun p => after_cell hc0 p
      have q3 := fun p => after_cell hc1 p
      have hS := hid (fun (C D : Nat) (P : After w4) => sameAsks_g Hm (by omega) (some ⟨b, off, none⟩) A1 C D P.w' (HLt.out.below P.h) (Q1.out.below P.h).cells)
      have hV := hid (fun (P : After w4) => implValid_g Hn HvL (by omega) (some ⟨b, off, none⟩) c2 P.w' (Q2.out.below P.h).cells hcp2)
      have hnm := Hnm.out
      have e1 : ((n : Int) == (m : Int) + 1) = true := by rw [beq_iff_eq]; omega
      have k1 : IntKind.i64.wrap ((m : Int) + 1) = (m : Int) + 1 := IntWalk.i64_in _ (by omega)
      have k2 : IntKind.i64.wrap ((n : Int) - 1) = (m : Int) := by rw [show (n : Int) - 1 = m by omega]; exact IntWalk.i64_in _ (by omega)
      have hmn : m < n := by omega
      have hmc : m ≤ c2 := by omega
      clear hbn hpn hc0 hc1 cg0 cg1 hz hnm
      go_wp2_with fail
      refine wp_region_after (by kernel_rfl) (by kernel_rfl) ?_
      repeat (go_big_quiet_step ((first | (go_at_call 32; exact Calls.after_of (hS.out _ _ _)) | (go_at_call 24; exact Calls.after_of (hV.out _)))))
      refine wpQuiet_nil ?_
      rintro _ ⟨⟨w5, b5⟩, rfl⟩
      go_wp2
      go_ret
      exact ⟨rfl, below_step t4 b5⟩

end Go.Proofs.Ytjfpemneinclfaa
