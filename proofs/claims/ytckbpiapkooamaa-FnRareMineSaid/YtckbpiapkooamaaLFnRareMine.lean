/- laws.FnRareMine: the walk. -/
import Derived.Test.YtckbpiapkooamaaR7
import Derived.Test.YtckbpiapkooamaaDrawR2
namespace Go.Proofs.Ytckbpiapkooamaa
open Go.RowKit

theorem full_none (ps : List Bits) : orderG ps (List.replicate 16 true) = [] := by
  refine List.eq_nil_iff_forall_not_mem.2 fun x hx => ?_
  obtain ⟨_, _, b, hb, _, h, _⟩ := orderG_mem hx
  rw [bitAt_in (v := true) (by rw [List.getElem?_replicate, if_pos hb])] at h
  cases h

set_option maxRecDepth 100000 in
set_option maxHeartbeats 4000000 in
theorem rareMine_walk (A : Option Addr) (c : Nat) (us : List Int) (w : World) (hr : Cells w A (bytes us)) (hu : ∀ u ∈ us, 0 ≤ u ∧ u ≤ 255) (hc : us.length ≤ c) :
    Calls Try.prog 9 #[.slice A us.length c] w (RetB w true) := by
  have Hu := hid hu
  clear hu
  by_cases h20 : 1048576 < us.length
  · go_enter Try.func9, Try.ntmps9
    go_wp2
    go_ret
    exact ⟨rfl, Below.refl _ _⟩
  · have hm : us.length ≤ 17592186044416 := by omega
    have hd : decide ((1048576 : Int) < (us.length : Int)) = false := by simp; omega
    clear h20
    go_enter Try.func9, Try.ntmps9
    go_wp2_with fail
    refine (drawOrder_any _ _ _ _ hr Hu.out hc hm).mono ?_
    rintro e w1 ⟨A1, c1, B1, d1, ps, mine, rfl, hml, hmi, hsm⟩
    clear hr hc hm hd
    obtain ⟨m, hm0⟩ : ∃ m, ps.length = m := ⟨_, rfl⟩
    have Hm := hid hm0
    have hm7 : m ≤ 7 := by rw [← hm0]; exact hsm.1
    have Hs := hid hsm.2.1
    have M1 := hid hsm.2.2.1
    have b1 := hsm.2.2.2
    obtain ⟨k0, hk0⟩ : ∃ k0, mine.length = k0 := ⟨_, rfl⟩
    have Hk := hid hk0
    have hk18 : k0 ≤ 18 := by rw [← hk0]; exact hml
    have C1 := hid hmi
    obtain ⟨L, hL⟩ : ∃ L, orderG ps mine = L := ⟨_, rfl⟩
    obtain ⟨n, hn⟩ : ∃ n, L.length = n := ⟨_, rfl⟩
    have hn16 : n ≤ 16 := by rw [← hn, ← hL]; exact orderG_len _ _
    have HL := hid hL
    have Hn := hid hn
    clear hL hn
    go_wp2_with fail
    clear hm0 hk0 hsm hmi hml
    refine (implOrder_g HL Hn Hm Hk _ _ _ _ _ M1.out Hs C1.out (by omega)).mono ?_; rintro e w2 ⟨A2, c2, rfl, o2, b2⟩
    have O2 := hid o2
    have M2 := hid (M1.out.below b2)
    have C2 := hid (C1.out.below b2)
    have hcp2 : n ≤ c2 := own_cap o2.row
    have hcm2 : c2 ≤ 9223372036854775807 := by have := own_capM o2.row; simp only [maxLen] at this; exact this
    have t2 := below_step b1 b2
    clear o2 b1 b2 M1 C1
    go_wp2_with fail
    refine (specOrder_g HL Hn Hm Hk _ _ _ _ _ M2.out Hs C2.out (by omega)).mono ?_; rintro e w3 ⟨A3, c3, rfl, o3, b3⟩
    have O3 := hid o3
    have P2 := hid (O2.out.below b3)
    have M3 := hid (M2.out.below b3)
    have C3 := hid (C2.out.below b3)
    have t3 := below_step t2 b3
    clear o3 b3 O2 M2 C2 t2
    go_wp2_with fail
    refine (sameInts_n Hn (by omega) _ _ _ _ _ P2.out.cells O3.out.cells).mono ?_; rintro e w4 ⟨rfl, b4⟩
    have O4 := hid (O3.out.below b4)
    have P4 := hid (P2.out.below b4)
    have M4 := hid (M3.out.below b4)
    have C4 := hid (C3.out.below b4)
    have t4 := below_step t3 b4
    clear b4 O3 P2 M3 C3 t3
    go_wp2_with fail
    go_loopw [7, 8] (fun out i wr => ∃ (k : Nat) (A' : Option Addr) (c' : Nat), k ≤ 16 ∧ i = .int .i64 k ∧ out = .slice A' k c' ∧ Hid (wr.ownsRow w4.heap.size 4 1 (.slice A' k c') k (bools (List.replicate k true))) ∧ Below w4.heap.size w4 wr) (fun _ i _ => 16 - (intOf i).toNat)
    case atStart => exact ⟨0, _, _, Nat.zero_le _, rfl, rfl, own_empty w4 4 1 (Nat.le_refl _), (Below.refl _ _).alloc (Nat.le_refl _) _⟩
    case round =>
      obtain ⟨k, A', c', hk, rfl, rfl, own, hb⟩ := hrel
      have hsz := hb.size
      by_cases hlt : k < 16
      · go_wp2_with (at_builtin; refine wpList_app rfl (.tmp 35) (.tmp 36) 31 rfl w4.heap.size Try.underlying31 info_bool rfl (by omega) (by omega) A' k c' _ rfl (own.out.alloc _) (some ⟨wr.heap.size, 0, none⟩) 1 1 [.bool true] rfl rfl (cells_one _ _ _) (one_bool _) (k + 1) _ rfl (bools_snoc _ _) (by omega) (by simp; omega) ?_; intro A5 c5 w5 ho5 hb5)
        go_roundw
        case rel => exact ⟨k + 1, A5, c5, by omega, by go_num, rfl, by unfold Hid; rw [List.replicate_succ']; exact ho5, (hb.alloc hsz _).trans hb5⟩
        case measure => simp [intOf]; omega
      · obtain rfl : k = 16 := by omega
        have HG : Hid (orderG ps (List.replicate 16 true) = []) := full_none ps
        clear hlt
        go_wp2_with fail
        refine (implOrder_g HG (hid rfl) Hm (hid rfl) _ _ _ _ _ (M4.out.below hb) Hs (own_cells own.out) (by simp)).mono ?_; rintro e w5 ⟨A5, c5, rfl, -, b5⟩
        go_wp2_with fail
        go_ret
        exact ⟨rfl, below_step (below_step t4 hb) b5⟩

end Go.Proofs.Ytckbpiapkooamaa
