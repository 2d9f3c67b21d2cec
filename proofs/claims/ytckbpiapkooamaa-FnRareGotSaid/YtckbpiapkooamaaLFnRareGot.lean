/- laws.FnRareGot: the walk. -/
import Derived.Test.YtckbpiapkooamaaR7
import Derived.Test.YtckbpiapkooamaaDrawR2
import Derived.Test.YtckbpiapkooamaaApp3
import Derived.Deep.RegionLaw
namespace Go.Proofs.Ytckbpiapkooamaa
open Go.RowKit

theorem orderG_sorted (ps : List Bits) (mine : Bits) : (orderG ps mine).Pairwise (bef (keyC ps)) := by
  unfold orderG
  split
  · exact specTo_sorted _ _ _
  · exact List.Pairwise.nil
theorem orderG_memI {ps : List Bits} {mine : Bits} (h1 : okB ps = true) (h2 : mine.length ≤ 16) {x : Int} : x ∈ orderG ps mine ↔ ∃ b : Nat, b < 16 ∧ x = b ∧ bitAt mine b = false ∧ 0 < cnt ps b := by
  rw [orderG_ok h1 h2, specTo_mem]
  constructor
  · rintro ⟨b, hb, h3, h4, h5, _⟩; exact ⟨b, hb, h3, h4, h5⟩
  · rintro ⟨b, hb, h3, h4, h5⟩; exact ⟨b, hb, h3, h4, h5, cnt_le _ _⟩
/-- mine made longer by n, true at b. -/
def withB (mine : Bits) (n b : Nat) : Bits := (mine ++ List.replicate n false).set b true
theorem withB_length (mine : Bits) (n b : Nat) : (withB mine n b).length = mine.length + n := by simp [withB]
theorem withB_bit (mine : Bits) (n b i : Nat) (hb : b < mine.length + n) : bitAt (withB mine n b) i = (bitAt mine i || i == b) := by
  unfold withB bitAt
  simp only [List.getD_eq_getElem?_getD, List.getElem?_set]
  by_cases e : b = i
  · subst e; simp [hb]
  · rw [if_neg e]
    have e2 : (i == b) = false := by rw [beq_eq_false_iff_ne]; omega
    rw [e2, Bool.or_false, List.getElem?_append]
    split
    · rfl
    · rename_i h
      rw [List.getElem?_eq_none (l := mine) (by omega), List.getElem?_replicate]
      split <;> rfl
theorem got_eq {ps : List Bits} {mine : Bits} {L : List Int} {k b n : Nat} (hL : orderG ps mine = L) (hk : L[k]? = some (b : Int)) (hl : mine.length + n ≤ 16) (hb : b < mine.length + n) :
    orderG ps (withB mine n b) = L.take k ++ L.drop (k + 1) := by
  have hmem : (b : Int) ∈ orderG ps mine := by rw [hL]; exact List.mem_of_getElem? hk
  obtain ⟨h1, h2, _⟩ := orderG_mem hmem
  have hs := orderG_sorted ps mine
  rw [hL] at hs
  have hkl := (List.getElem?_eq_some_iff.1 hk).1
  have hsplit : L = L.take k ++ (b : Int) :: L.drop (k + 1) := by
    have h3 := List.take_append_drop k L
    rw [List.drop_eq_getElem_cons hkl, (List.getElem?_eq_some_iff.1 hk).2] at h3
    exact h3.symm
  have hsub : (L.take k ++ L.drop (k + 1)).Sublist L := by
    rw [← List.eraseIdx_eq_take_drop_succ]; exact List.eraseIdx_sublist L k
  have hp : (L.take k ++ (b : Int) :: L.drop (k + 1)).Pairwise (bef (keyC ps)) := by rw [← hsplit]; exact hs
  have hnot : ∀ x ∈ L.take k ++ L.drop (k + 1), x ≠ (b : Int) := by
    intro x hx e
    subst e
    rw [List.pairwise_append] at hp
    rcases List.mem_append.1 hx with h3 | h3
    · exact bef_irrefl (hp.2.2 _ h3 _ (List.mem_cons_self ..))
    · exact bef_irrefl ((List.pairwise_cons.1 hp.2.1).1 _ h3)
  refine sorted_ext (r := bef (keyC ps)) (fun a => bef_irrefl) (fun a b c => bef_trans) _ _ (orderG_sorted _ _) (hs.sublist hsub) (fun x => ?_)
  rw [orderG_memI h1 (by rw [withB_length]; exact hl)]
  constructor
  · rintro ⟨i, hi, rfl, h3, h4⟩
    rw [withB_bit mine n b i hb, Bool.or_eq_false_iff] at h3
    have hx : (i : Int) ∈ L := by rw [← hL]; exact (orderG_memI h1 h2).2 ⟨i, hi, rfl, h3.1, h4⟩
    rw [hsplit] at hx
    have hne : (i : Int) ≠ b := by intro e; have := h3.2; rw [beq_eq_false_iff_ne] at this; omega
    rcases List.mem_append.1 hx with h5 | h5
    · exact List.mem_append_left _ h5
    · rcases List.mem_cons.1 h5 with h6 | h6
      · exact absurd h6 hne
      · exact List.mem_append_right _ h6
  · intro hx
    have hxL := hsub.subset hx
    rw [← hL] at hxL
    obtain ⟨i, hi, rfl, h3, h4⟩ := (orderG_memI h1 h2).1 hxL
    refine ⟨i, hi, rfl, ?_, h4⟩
    have hne := hnot _ hx
    rw [withB_bit mine n b i hb, h3]
    simp; omega
theorem ints_one (l : List Int) : ∀ u ∈ ints l, u.oneCell' = true := by
  intro u hu
  unfold ints at hu
  obtain ⟨z, _, rfl⟩ := List.mem_map.1 hu
  rfl
theorem ints_app (l m : List Int) : ints (l ++ m) = ints l ++ ints m := by simp [ints]
def sliceLen : Value → Nat
  | .slice _ n _ => n
  | _ => 0
theorem grow_keep {w w' : World} {lo hi : Nat} {e : TypeId} {size n c : Nat} {A : Option Addr} {xs : List Value} (h : Own w lo hi e size A c n xs) {A2 : Option Addr} {n2 c2 : Nat} (hg : w.grownBy w' (Value.slice A2 n2 c2).ownBlock) (hA : ∀ ad, A2 = some ad → ad.block < lo ∨ hi ≤ ad.block) : Own w' lo hi e size A c n xs := by
  refine h.grown hg (fun k hk => ?_)
  rcases A2 with _ | ad
  · simp [Value.ownBlock] at hk
  · simp [Value.ownBlock] at hk; have := hA ad rfl; omega
theorem own_block {w : World} {base : Nat} {e : TypeId} {size n c : Nat} {A : Option Addr} {xs : List Value} (h : w.ownsRow base e size (.slice A n c) n xs) : ∀ ad, A = some ad → base ≤ ad.block ∧ ad.block < w.heap.size := fun ad hA => by subst hA; exact h.lt ad.block rfl
/-- Two rows that lie apart: what RareOrder gave, and the list without its place k. -/
structure Apart (W w : World) (A7 : Option Addr) (c7 n7 : Nat) (L7 : List Int) (A8 : Option Addr) (c8 n8 : Nat) (L8 : List Int) (lo hi base : Nat) : Prop where
  own : Own w lo hi 3 1 A7 c7 n7 (ints L7)
  row : w.ownsRow base 3 1 (.slice A8 n8 c8) n8 (ints L8)
  le : W.heap.size ≤ base
  hb : base ≤ w.heap.size
  far : ∀ ad, A8 = some ad → ad.block < lo ∨ hi ≤ ad.block
  top : hi ≤ w.heap.size
  below : Below W.heap.size W w
theorem Apart.grown {W w w' : World} {A7 : Option Addr} {c7 n7 : Nat} {L7 : List Int} {A8 : Option Addr} {c8 n8 : Nat} {L8 : List Int} {lo hi base : Nat} (h : Apart W w A7 c7 n7 L7 A8 c8 n8 L8 lo hi base) {A9 : Option Addr} {c9 n9 : Nat} {L9 : List Int}
    (hr : w'.ownsRow base 3 1 (.slice A9 n9 c9) n9 (ints L9)) (hg : w.grownBy w' (Value.slice A8 n8 c8).ownBlock) (hl : ∀ ad, A9 = some ad → (∃ ad', A8 = some ad' ∧ ad'.block = ad.block) ∨ ad.block = w.heap.size) : Apart W w' A7 c7 n7 L7 A9 c9 n9 L9 lo hi base := by
  have hb : Below base w w' := below_grown hg h.hb (fun k hk => (h.row.lt k hk).1)
  refine ⟨grow_keep h.own hg h.far, hr, h.le, by have := hb.size; have := h.hb; omega, fun ad e => ?_, by have := hb.size; have := h.top; omega, h.below.trans (hb.mono h.le)⟩
  rcases hl ad e with ⟨ad', h1, h2⟩ | h1
  · have := h.far ad' h1; omega
  · have := h.top; omega
theorem apart0 {W w7 : World} {A7 : Option Addr} {c7 n7 : Nat} {L7 : List Int} (o7 : Own w7 W.heap.size w7.heap.size 3 1 A7 c7 n7 (ints L7)) (b7 : Below W.drew.heap.size W.drew w7) :
    Apart W (w7.alloc (.cells #[] 3)) A7 c7 n7 L7 (some ⟨w7.heap.size, 0, none⟩) 0 0 [] W.heap.size w7.heap.size w7.heap.size :=
  ⟨o7.below ((Below.refl _ _).alloc (Nat.le_refl _) _), own_empty w7 _ 1 (Nat.le_refl _), b7.size, by simp, fun ad e => by injection e with e; subst e; exact .inr (Nat.le_refl _), by simp, (below_step (Below.refl W.heap.size W).drew b7).alloc b7.size _⟩
theorem apart1 {W w7 : World} {A7 : Option Addr} {c7 n7 : Nat} {L7 : List Int} (o7 : Own w7 (W.alloc (.cells #[] 3)).drew.heap.size w7.heap.size 3 1 A7 c7 n7 (ints L7)) (b7 : Below (W.alloc (.cells #[] 3)).drew.heap.size (W.alloc (.cells #[] 3)).drew w7) :
    Apart W w7 A7 c7 n7 L7 (some ⟨W.heap.size, 0, none⟩) 0 0 [] (W.heap.size + 1) w7.heap.size W.heap.size := by
  have h1 : (W.alloc (.cells #[] 3)).drew.ownsRow W.heap.size 3 1 (.slice (some ⟨W.heap.size, 0, none⟩) 0 0) 0 [] := own_empty W 3 1 (Nat.le_refl _)
  have hz := b7.size
  simp at hz
  refine ⟨o7.weak (by simp) (Nat.le_refl _), own_below h1 b7, Nat.le_refl _, by omega, fun ad e => by injection e with e; subst e; exact .inl (Nat.lt_succ_self _), Nat.le_refl _, below_step ((Below.refl W.heap.size W).alloc (Nat.le_refl _) _).drew b7⟩

set_option maxRecDepth 100000 in
set_option maxHeartbeats 4000000 in
theorem rareGot_walk (A : Option Addr) (c : Nat) (us : List Int) (B : Option Addr) (d : Nat) (vs : List Int) (w : World) (hr : Cells w A (bytes us)) (hu : ∀ u ∈ us, 0 ≤ u ∧ u ≤ 255) (hc : us.length ≤ c) :
    Calls Try.prog 8 #[.slice A us.length c, .slice B vs.length d] w (RetB w true) := by
  have Hu := hid hu
  clear hu
  by_cases h20 : 1048576 < us.length
  · go_enter Try.func8, Try.ntmps8
    go_wp2
    go_ret
    exact ⟨rfl, Below.refl _ _⟩
  · have hm : us.length ≤ 17592186044416 := by omega
    have hd : decide ((1048576 : Int) < (us.length : Int)) = false := by simp; omega
    clear h20
    by_cases h21 : 1048576 < vs.length
    · have hd2 : decide ((1048576 : Int) < (vs.length : Int)) = true := by simp; omega
      go_enter Try.func8, Try.ntmps8
      go_wp2
      go_ret
      exact ⟨rfl, Below.refl _ _⟩
    have hd2 : decide ((1048576 : Int) < (vs.length : Int)) = false := by simp; omega
    go_enter Try.func8, Try.ntmps8
    go_wp2_with fail
    refine (drawOrder_any _ _ _ _ hr Hu.out hc hm).mono ?_
    rintro e w1 ⟨A1, c1, B1, d1, ps, mine, rfl, hml, hmi, hsm⟩
    clear hr hc hm hd
    obtain ⟨m, hm0⟩ : ∃ m, ps.length = m := ⟨_, rfl⟩
    have Hm := hid hm0
    have hm7 : m ≤ 7 := by rw [← hm0]; exact hsm.1
    have Hs := hid hsm.2.1
    have M1 := hid hsm.2.2.1
    have b1 := hsm.2.2.2
    obtain ⟨k0, hk0⟩ : ∃ k0, mine.length = k0 := ⟨_, rfl⟩
    have Hk := hid hk0
    have hk18 : k0 ≤ 18 := by rw [← hk0]; exact hml
    have C1 := hid hmi
    obtain ⟨L, hL⟩ : ∃ L, orderG ps mine = L := ⟨_, rfl⟩
    obtain ⟨n, hn⟩ : ∃ n, L.length = n := ⟨_, rfl⟩
    have hn16 : n ≤ 16 := by rw [← hn, ← hL]; exact orderG_len _ _
    have HL := hid hL
    have Hn := hid hn
    clear hL hn
    go_wp2_with fail
    clear hm0 hk0 hsm hmi hml
    refine (implOrder_g HL Hn Hm Hk _ _ _ _ _ M1.out Hs C1.out (by omega)).mono ?_; rintro e w2 ⟨A2, c2, rfl, o2, b2⟩
    have O2 := hid o2
    have M2 := hid (M1.out.below b2)
    have C2 := hid (C1.out.below b2)
    have hcp2 : n ≤ c2 := own_cap o2.row
    have hcm2 : c2 ≤ 9223372036854775807 := by have := own_capM o2.row; simp only [maxLen] at this; exact this
    have t2 := below_step b1 b2
    clear o2 b1 b2 M1 C1
    go_wp2_with fail
    refine (specOrder_g HL Hn Hm Hk _ _ _ _ _ M2.out Hs C2.out (by omega)).mono ?_; rintro e w3 ⟨A3, c3, rfl, o3, b3⟩
    have O3 := hid o3
    have P2 := hid (O2.out.below b3)
    have M3 := hid (M2.out.below b3)
    have C3 := hid (C2.out.below b3)
    have t3 := below_step t2 b3
    clear o3 b3 O2 M2 C2 t2
    go_wp2_with fail
    refine (sameInts_n Hn (by omega) _ _ _ _ _ P2.out.cells O3.out.cells).mono ?_; rintro e w4 ⟨rfl, b4⟩
    have O4 := hid (O3.out.below b4)
    have P4 := hid (P2.out.below b4)
    have M4 := hid (M3.out.below b4)
    have C4 := hid (C3.out.below b4)
    have t4 := below_step t3 b4
    clear b4 O3 P2 M3 C3 t3
    by_cases hn0 : n = 0
    · have e0 : ((n : Int) == 0) = true := by rw [beq_iff_eq]; omega
      have e00 : (n == 0) = true := by rw [beq_iff_eq]; exact hn0
      clear hn0
      go_wp2_with fail
      refine (sameInts_n Hn (by omega) _ _ _ _ _ P4.out.cells O4.out.cells).mono ?_; rintro e w5 ⟨rfl, b5⟩
      go_wp2_with fail
      go_ret
      exact ⟨rfl, below_step t4 b5⟩
    · have e0 : ((n : Int) == 0) = false := by rw [beq_eq_false_iff_ne]; omega
      obtain ⟨k, hk, e1, e2⟩ : ∃ k : Nat, k < n ∧ (vs.length : Int).tmod (n : Int) = k ∧ (vs.length : Int) % (n : Int) = k := ⟨vs.length % n, Nat.mod_lt _ (by omega), Int.ofNat_tmod _ _, by omega⟩
      have hn1 : 0 < n := by omega
      clear hn0
      obtain ⟨z, hz⟩ : ∃ z, L[k]? = some z := ⟨L[k]'(by rw [Hn.out]; exact hk), List.getElem?_eq_getElem _⟩
      obtain ⟨hok, hk16, b, hb16, rfl, -, -⟩ := orderG_mem (ps := ps) (mine := mine) (x := z) (by rw [HL.out]; exact List.mem_of_getElem? hz)
      rw [Hk.out] at hk16
      obtain ⟨g, off, rfl, hcz⟩ := P4.out.cells.int_of hz
      have Hz := hid hz
      clear hz hok
      go_wp2_with (at_builtin; refine wpList_app rfl (.tmp 47) (.tmp 48) 31 rfl w4.heap.size Try.underlying31 info_bool rfl (by omega) (by omega) _ 0 0 [] rfl (own_empty w4 _ 1 (Nat.le_refl _)) B1 k0 d1 (bools mine) rfl (by rw [bools_length, Hk.out, Nat.mul_one]) (C4.out.below ((Below.refl _ _).alloc (Nat.le_refl _) _)) (bools_one _) k0 (bools mine) (by omega) rfl (by omega) (by simp) ?_; intro A6 c6 w6 ho6 hb6)
      have t6 : Below w4.heap.size w4 w6 := ((Below.refl _ _).alloc (Nat.le_refl _) _).trans hb6
      have Ho6 := hid ho6
      clear ho6 hb6
      go_loopw [10] (fun x wr => ∃ (j : Nat) (A' : Option Addr) (c' : Nat), k0 ≤ j ∧ (j ≤ k0 ∨ j ≤ b + 1) ∧ x = .slice A' j c' ∧ Hid (wr.ownsRow w4.heap.size 4 1 (.slice A' j c') j (bools (mine ++ List.replicate (j - k0) false))) ∧ Below w4.heap.size w4 wr) (fun x _ => 17 - sliceLen x)
      case atStart => exact ⟨k0, A6, c6, Nat.le_refl _, .inl (Nat.le_refl _), rfl, by simpa [Hid] using Ho6.out, t6⟩
      case round =>
        clear Ho6 t6
        obtain ⟨j, A', c', hj0, hj1, rfl, own, hb⟩ := hrel
        have hcw := cell_later hb hcz
        have hsz := hb.size
        have hj16 : j ≤ 16 := by omega
        by_cases hlt : j ≤ b
        · go_wp2_with (at_builtin; refine wpList_app rfl (.tmp 57) (.tmp 58) 31 rfl w4.heap.size Try.underlying31 info_bool rfl (by omega) (by omega) A' j c' _ rfl (own.out.alloc _) (some ⟨wr.heap.size, 0, none⟩) 1 1 [.bool false] rfl rfl (cells_one _ _ _) (one_bool _) (j + 1) _ rfl (bools_snoc _ _) (by omega) (by simp; omega) ?_; intro A5 c5 w5 ho5 hb5)
          go_roundw
          case rel => exact ⟨j + 1, A5, c5, by omega, by omega, rfl, by unfold Hid; rw [show j + 1 - k0 = j - k0 + 1 by omega, List.replicate_succ', ← List.append_assoc]; exact ho5, (hb.alloc hsz _).trans hb5⟩
          case measure => simp [sliceLen]; omega
        · have hbj : b < j := by omega
          obtain ⟨v, hv⟩ : ∃ v, (mine ++ List.replicate (j - k0) false)[b]? = some v := ⟨(mine ++ List.replicate (j - k0) false)[b]'(by rw [List.length_append, List.length_replicate, Hk.out]; omega), List.getElem?_eq_getElem _⟩
          obtain ⟨g2, hA2, hlo2, hhi2, hc2', hf2⟩ := (Own.of_row own.out).of_get (bools_get hv)
          subst hA2
          have OS := hid ((Own.of_row own.out).set b (.bool true))
          have bs : Below w4.heap.size w4 (wr.setCell ⟨g2, b, none⟩ (.bool true)) := hb.setCell hlo2 _
          clear hv
          go_wp2_with fail
          generalize wr.setCell ⟨g2, b, none⟩ (.bool true) = W at OS bs ⊢
          have HGy : Hid (orderG ps (withB mine (j - k0) b) = L.take k ++ L.drop (k + 1)) := got_eq HL.out Hz.out (by rw [Hk.out]; omega) (by rw [Hk.out]; omega)
          have HnY : Hid ((L.take k ++ L.drop (k + 1)).length = n - 1) := by unfold Hid; rw [List.length_append, List.length_take, List.length_drop, Hn.out]; omega
          have HjY : Hid ((withB mine (j - k0) b).length = j) := by unfold Hid; rw [withB_length, Hk.out]; omega
          have CY : Hid (Cells W (some ⟨g2, 0, none⟩) (bools (withB mine (j - k0) b))) := by unfold Hid withB; rw [← bools_set]; exact OS.out.cells
          have bd : Below W.heap.size W W.drew := (Below.refl _ _).drew
          have bx : Below W.heap.size W (W.alloc (.cells #[] 3)).drew := ((Below.refl _ _).alloc (Nat.le_refl _) _).drew
          have MW := hid ((M4.out.below bs).below bd)
          have CW := hid (CY.out.below bd)
          have MX := hid ((M4.out.below bs).below bx)
          have CX2 := hid (CY.out.below bx)
          have PW := hid (P4.out.below bs).cells
          have k1 : IntKind.i64.wrap ((k : Int) + 1) = ((k + 1 : Nat) : Int) := by push_cast; exact IntWalk.i64_in _ (by omega)
          have HT : Hid (Cells W (some ⟨g, off, none⟩) (ints (L.take k))) := by unfold Hid; have h := PW.out.take k; unfold ints at h ⊢; rw [← List.map_take] at h; exact h
          have HD : Hid (Cells W (some ⟨g, off + (k + 1), none⟩) (ints (L.drop (k + 1)))) := by unfold Hid; have h := PW.out.drop (k + 1); unfold ints at h ⊢; rw [← List.map_drop] at h; exact h
          have HlT : Hid ((ints (L.take k)).length = k * 1) := by unfold Hid; rw [ints_length, List.length_take, Hn.out]; omega
          have HlD : Hid ((ints (L.drop (k + 1))).length = (n - (k + 1)) * 1) := by unfold Hid; rw [ints_length, List.length_drop, Hn.out]; omega
          have hk1 : k + 1 ≤ c2 := by omega
          have hkc : k ≤ c2 := by omega
          have hadd : k + (n - (k + 1)) = n - 1 := by omega
          have HC : Hid (k + 1 = c2 ∨ ¬ k + 1 = c2) := Nat.decEq _ _ |>.em
          have Hadd := hid hadd
          have tW := hid (below_step t4 bs)
          have hk2 : (k : Int) + 1 ≤ (n : Int) := by omega
          have hk3 : (0 : Int) ≤ (k : Int) + 1 := by omega
          have hk4 : (k : Int) ≤ (k : Int) + 1 := by omega
          clear hadd own hb OS bs CY hcw hc2' hf2 hcz
          rcases HC.out with hkc1 | hkc1
          · have hmk : n - (k + 1) = 0 := by omega
            have HDn : Hid (ints (L.drop (k + 1)) = []) := List.eq_nil_of_length_eq_zero (by rw [HlD.out, hmk])
            have HL0 : Hid (ints (L.take k) ++ [] = ints (L.take k ++ L.drop (k + 1))) := by unfold Hid; rw [ints_app, HDn.out]
            have HK0 : Hid (k + 0 = n - 1) := by unfold Hid; omega
            clear hmk
            subst hkc1
            go_region_law (first | (go_simp; (go_at_call 28; ((with_reducible refine (implOrder_g HGy HnY Hm HjY _ _ _ _ _ MW.out Hs CW.out (by omega)).mono ?_); rintro e w7 ⟨A7, c7, rfl, o7, b7⟩; have Z7 := apart0 (W := W) o7 b7; clear o7 b7))) | (go_simp; (go_at_call 28; ((with_reducible refine (implOrder_g HGy HnY Hm HjY _ _ _ _ _ MX.out Hs CX2.out (by omega)).mono ?_); rintro e w7 ⟨A7, c7, rfl, o7, b7⟩; have Y7 := apart1 o7 b7; clear o7 b7))) | (go_simp; (go_at_call 30; (refine (sameInts_n HnY (by omega) _ _ _ _ _ Z9.own.cells (own_cells Z9.row)).mono ?_); rintro e w10 ⟨rfl, b10⟩; have B10 := hid b10; clear b10)) | (refine step_app3 rfl (.tmp 69) (.tmp 72) 35 rfl w7.heap.size Try.underlying35 info_int rfl (by omega) (by omega) (some ⟨w7.heap.size, 0, none⟩) 0 0 [] rfl Z7.row g off k (k + 1) (ints (L.take k)) rfl HlT.out (HT.out.below Z7.below) (ints_one _) k (ints (L.take k)) (by omega) rfl (by omega) Z7.hb ?_; intro A8 c8 w8 ho8 hg8 hl8; obtain ⟨base, hbase⟩ : ∃ base, w7.heap.size = base := ⟨_, rfl⟩; have Z8 := Z7.grown ho8 hg8 hl8; rw [hbase] at Z8; clear hbase) | (refine step_app3 rfl (.tmp 69) (.tmp 72) 35 rfl W.heap.size Try.underlying35 info_int rfl (by omega) (by omega) (some ⟨W.heap.size, 0, none⟩) 0 0 [] rfl Y7.row g off k (k + 1) (ints (L.take k)) rfl HlT.out (HT.out.below Y7.below) (ints_one _) k (ints (L.take k)) (by omega) rfl (by omega) Y7.hb ?_; intro A8 c8 w8 ho8 hg8 hl8; obtain ⟨base, hbase⟩ : ∃ base, W.heap.size = base := ⟨_, rfl⟩; have Z8 := Y7.grown ho8 hg8 hl8; rw [hbase] at Z8; clear hbase) | (refine step_app3 rfl (.tmp 73) (.tmp 77) 35 rfl base Try.underlying35 info_int rfl (by omega) (by omega) A8 k c8 (ints (L.take k)) rfl Z8.row g off 0 _ [] rfl rfl (.inl rfl) (by simp) (n - 1) (ints (L.take k ++ L.drop (k + 1))) HK0.out HL0.out (by omega) Z8.hb ?_; intro A9 c9 w9 ho9 hg9 hl9; have Z9 := Z8.grown ho9 hg9 hl9))
            all_goals
              go_wp2_with fail
              go_ret
              exact ⟨rfl, below_step tW.out (below_step (Z9.below) B10.out)⟩
          · have hne : (k + 1 == c2) = false := by rw [beq_eq_false_iff_ne]; exact hkc1
            have hne2 : ¬ c2 = k + 1 := fun h => hkc1 h.symm
            go_region_law (first | (go_simp; (go_at_call 28; ((with_reducible refine (implOrder_g HGy HnY Hm HjY _ _ _ _ _ MW.out Hs CW.out (by omega)).mono ?_); rintro e w7 ⟨A7, c7, rfl, o7, b7⟩; have Z7 := apart0 (W := W) o7 b7; clear o7 b7))) | (go_simp; (go_at_call 28; ((with_reducible refine (implOrder_g HGy HnY Hm HjY _ _ _ _ _ MX.out Hs CX2.out (by omega)).mono ?_); rintro e w7 ⟨A7, c7, rfl, o7, b7⟩; have Y7 := apart1 o7 b7; clear o7 b7))) | (go_simp; (go_at_call 30; (refine (sameInts_n HnY (by omega) _ _ _ _ _ Z9.own.cells (own_cells Z9.row)).mono ?_); rintro e w10 ⟨rfl, b10⟩; have B10 := hid b10; clear b10)) | (refine step_app3 rfl (.tmp 69) (.tmp 72) 35 rfl w7.heap.size Try.underlying35 info_int rfl (by omega) (by omega) (some ⟨w7.heap.size, 0, none⟩) 0 0 [] rfl Z7.row g off k c2 (ints (L.take k)) rfl HlT.out (HT.out.below Z7.below) (ints_one _) k (ints (L.take k)) (by omega) rfl (by omega) Z7.hb ?_; intro A8 c8 w8 ho8 hg8 hl8; obtain ⟨base, hbase⟩ : ∃ base, w7.heap.size = base := ⟨_, rfl⟩; have Z8 := Z7.grown ho8 hg8 hl8; rw [hbase] at Z8; clear hbase) | (refine step_app3 rfl (.tmp 69) (.tmp 72) 35 rfl W.heap.size Try.underlying35 info_int rfl (by omega) (by omega) (some ⟨W.heap.size, 0, none⟩) 0 0 [] rfl Y7.row g off k c2 (ints (L.take k)) rfl HlT.out (HT.out.below Y7.below) (ints_one _) k (ints (L.take k)) (by omega) rfl (by omega) Y7.hb ?_; intro A8 c8 w8 ho8 hg8 hl8; obtain ⟨base, hbase⟩ : ∃ base, W.heap.size = base := ⟨_, rfl⟩; have Z8 := Y7.grown ho8 hg8 hl8; rw [hbase] at Z8; clear hbase) | (refine step_app3 rfl (.tmp 73) (.tmp 77) 35 rfl base Try.underlying35 info_int rfl (by omega) (by omega) A8 k c8 (ints (L.take k)) rfl Z8.row g (off + (k + 1)) (n - (k + 1)) _ (ints (L.drop (k + 1))) rfl HlD.out (HD.out.below Z8.below) (ints_one _) (n - 1) (ints (L.take k ++ L.drop (k + 1))) Hadd.out (ints_app _ _).symm (by omega) Z8.hb ?_; intro A9 c9 w9 ho9 hg9 hl9; have Z9 := Z8.grown ho9 hg9 hl9))
            all_goals
              go_wp2_with fail
              go_ret
              exact ⟨rfl, below_step tW.out (below_step (Z9.below) B10.out)⟩

end Go.Proofs.Ytckbpiapkooamaa