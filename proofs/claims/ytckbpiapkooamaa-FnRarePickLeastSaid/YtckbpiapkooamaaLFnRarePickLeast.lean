/- laws.FnRarePickLeast: the walk. -/
import Derived.Test.YtckbpiapkooamaaR7
import Derived.Test.YtckbpiapkooamaaDrawR2
namespace Go.Proofs.Ytckbpiapkooamaa
open Go.RowKit

theorem orderG_sorted (ps : List Bits) (mine : Bits) : (orderG ps mine).Pairwise (bef (keyC ps)) := by
  unfold orderG
  split
  · exact specTo_sorted _ _ _
  · exact List.Pairwise.nil
theorem pair_at {r : Int → Int → Prop} {L : List Int} (h : L.Pairwise r) {k : Nat} {x y : Int} (hx : L[k]? = some x) (hy : L[k + 1]? = some y) : r x y := by
  have h1 := (List.getElem?_eq_some_iff.1 hx)
  have h2 := (List.getElem?_eq_some_iff.1 hy)
  have := List.pairwise_iff_getElem.1 h k (k + 1) h1.1 h2.1 (by omega)
  rw [h1.2, h2.2] at this
  exact this
theorem countG_mem {ps : List Bits} {mine : Bits} {x : Int} (h : x ∈ orderG ps mine) : ∃ b : Nat, x = b ∧ b < 16 ∧ countG ps x = cnt ps b ∧ bitAt mine b = false ∧ 0 < cnt ps b := by
  obtain ⟨h1, _, b, hb, rfl, h2, h3⟩ := orderG_mem h
  exact ⟨b, rfl, hb, countG_ok h1 (by simp [inB]; omega), h2, h3⟩
theorem firstIn_pos {ps : List Bits} {mine bs : Bits} {r : Int} (h : firstIn bs (orderG ps mine) = r) (hr : ¬ r < 0) : ∃ b : Nat, r = b ∧ (b : Int) ∈ orderG ps mine ∧ bitAt bs b = true := by
  have key : ∀ L : List Int, firstIn bs L = r → r ∈ L ∧ bitAt bs r.toNat = true := by
    intro L
    induction L with
    | nil => intro h1; simp only [firstIn] at h1; omega
    | cons a L ih =>
      intro h1
      simp only [firstIn] at h1
      split at h1
      · rename_i h2; subst h1; exact ⟨by simp, h2⟩
      · obtain ⟨h3, h4⟩ := ih h1; exact ⟨by simp [h3], h4⟩
  obtain ⟨h1, h2⟩ := key _ h
  obtain ⟨b, rfl, -⟩ := countG_mem h1
  exact ⟨b, rfl, h1, by simpa using h2⟩
theorem firstIn_least {key : Int → Int} {bs : Bits} {L : List Int} {y z : Int} (h : L.Pairwise (bef key)) (hy : y ∈ L) (hb : bitAt bs y.toNat = true) (hz : firstIn bs L = z) : key z ≤ key y := by
  induction L with
  | nil => simp at hy
  | cons a L ih =>
    rw [List.pairwise_cons] at h
    simp only [firstIn] at hz
    split at hz
    · subst hz
      rcases List.mem_cons.1 hy with h1 | h1
      · subst h1; exact Int.le_refl _
      · rcases h.1 y h1 with h2 | h2 <;> omega
    · rename_i hna
      rcases List.mem_cons.1 hy with h1 | h1
      · subst h1; exact (hna hb).elim
      · exact ih h.2 h1 hz

set_option maxRecDepth 100000 in
set_option maxHeartbeats 4000000 in
theorem rarePickLeast_walk (A : Option Addr) (c : Nat) (us : List Int) (w : World) (hr : Cells w A (bytes us)) (hu : ∀ u ∈ us, 0 ≤ u ∧ u ≤ 255) (hc : us.length ≤ c) :
    Calls Try.prog 14 #[.slice A us.length c] w (RetB w true) := by
  have Hu := hid hu
  clear hu
  by_cases h20 : 1048576 < us.length
  · go_enter Try.func14, Try.ntmps14
    go_wp2
    go_ret
    exact ⟨rfl, Below.refl _ _⟩
  · have hm : us.length ≤ 17592186044416 := by omega
    have hd : decide ((1048576 : Int) < (us.length : Int)) = false := by simp; omega
    clear h20
    go_enter Try.func14, Try.ntmps14
    go_wp2_with fail
    refine (drawPick_any _ _ _ _ hr Hu.out hc hm).mono ?_
    rintro e w1 ⟨A1, c1, B1, d1, ps, mine, x, rfl, hx0, hx1, hml, hmi, hsm⟩
    clear hr hc hm hd
    obtain ⟨m, hm0⟩ : ∃ m, ps.length = m := ⟨_, rfl⟩
    have Hm := hid hm0
    have hm7 : m ≤ 7 := by rw [← hm0]; exact hsm.1
    have Hs := hid hsm.2.1
    have M1 := hid hsm.2.2.1
    have b1 := hsm.2.2.2
    obtain ⟨k0, hk0⟩ : ∃ k0, mine.length = k0 := ⟨_, rfl⟩
    have Hk := hid hk0
    have hk18 : k0 ≤ 18 := by rw [← hk0]; exact hml
    have C1 := hid hmi
    obtain ⟨r, hr0⟩ : ∃ r, pickG ps mine x = r := ⟨_, rfl⟩
    have HR := hid hr0
    have Hr0 := hid hr0
    obtain ⟨L, hL⟩ : ∃ L, orderG ps mine = L := ⟨_, rfl⟩
    obtain ⟨n, hn⟩ : ∃ n, L.length = n := ⟨_, rfl⟩
    have hn16 : n ≤ 16 := by rw [← hn, ← hL]; exact orderG_len _ _
    have HL := hid hL
    have Hn := hid hn
    clear hL hn hr0
    go_wp2_with fail
    clear hm0 hk0 hsm hmi hml
    refine (implPick_n Hm Hk Hs _ _ _ _ _ _ HR _ M1.out C1.out (by omega)).mono ?_; rintro e w2 ⟨rfl, b2⟩
    have M2 := hid (M1.out.below b2)
    have C2 := hid (C1.out.below b2)
    have t2 := below_step b1 b2
    clear M1 C1 b1 b2
    go_wp2_with fail
    refine (specPick_n Hm Hk Hs _ _ _ _ _ _ HR _ M2.out C2.out (by omega)).mono ?_; rintro e w3 ⟨rfl, b3⟩
    have M3 := hid (M2.out.below b3)
    have C3 := hid (C2.out.below b3)
    have t3 := below_step t2 b3
    clear M2 C2 t2 b3
    by_cases hrn : r < 0
    · go_wp2_with fail
      go_ret
      exact ⟨rfl, t3⟩
    · have hi : inB x 0 ((ps.length : Int) - 1) = true := by
        cases h : inB x 0 ((ps.length : Int) - 1)
        · have := Hr0.out; rw [pickG_bad h] at this; omega
        · rfl
      obtain ⟨q, rfl, hq⟩ := inB_nat hi
      have hqm : q < m := by rw [Hm.out] at hq; omega
      obtain ⟨g, off, A', c', bs, rfl, hz, hcell, hrow⟩ := M3.out.at_ (k := q) (by rw [Hm.out]; exact hqm)
      have hfin := Hr0.out
      rw [pickG_ok hi, show rowAt ps q = bs from rowAt_of hz.out] at hfin
      obtain ⟨b, rfl, hbL, hbit⟩ := firstIn_pos hfin hrn
      have hok := (orderG_mem hbL).1
      have hb16 : b < 16 := by obtain ⟨b', h1, h2, _⟩ := countG_mem hbL; omega
      have hbl16 : bs.length ≤ 16 := (okB_len hok).2 bs (List.mem_of_getElem? hz.out)
      obtain ⟨cb, hcb⟩ : ∃ cb, cnt ps b = cb := ⟨_, rfl⟩
      have HCB := hid hcb
      have hleast : Hid (∀ j, bitAt bs j = true → bitAt mine j = false → cb ≤ cnt ps j) := by
        intro j hj hmj
        rw [← hcb]
        have hjl : j < 16 := by
          rcases Nat.lt_or_ge j bs.length with h | h
          · omega
          · rw [bitAt_out h] at hj; cases hj
        have hcj : 0 < cnt ps j := by unfold cnt; exact List.countP_pos_iff.2 ⟨bs, List.mem_of_getElem? hz.out, hj⟩
        have hk18b : mine.length ≤ 16 := (orderG_mem hbL).2.1
        have hmemj : (j : Int) ∈ orderG ps mine := by
          rw [orderG_ok hok hk18b, specTo_mem]
          exact ⟨j, hjl, rfl, hmj, hcj, cnt_le _ _⟩
        have := firstIn_least (orderG_sorted ps mine) hmemj (by simpa using hj) hfin
        simpa [keyC] using this
      have Hbit := hid hbit
      have Hrow := hid hrow
      have hblt : b < bs.length := by
        rcases Nat.lt_or_ge b bs.length with h | h
        · exact h
        · rw [bitAt_out h] at hbit; cases hbit
      obtain ⟨gb, offb, rfl, hcbit⟩ := hrow.bool_of (k := b) (b := true) (by
        have h1 := List.getElem?_eq_getElem hblt
        have h2 := bitAt_in h1
        rw [hbit] at h2
        rw [h1, ← h2])
      clear hi hrow hq hfin hbL hok hbit hcb
      go_wp2_with fail
      go_loop [8] (fun i => ∃ k : Nat, k ≤ bs.length ∧ i = .int .i64 k) (fun i => bs.length - (intOf i).toNat)
      case atStart => exact ⟨0, Nat.zero_le _, rfl⟩
      case round =>
        obtain ⟨k, hk, rfl⟩ := hrel
        by_cases hlt : k < bs.length
        · obtain ⟨v, hv⟩ : ∃ v, bs[k]? = some v := ⟨bs[k], List.getElem?_eq_getElem hlt⟩
          obtain ⟨_, _, hA, hcv⟩ := Hrow.out.bool_of hv
          injection hA with hA; injection hA with hA1 hA2; subst hA1; subst hA2
          have hvb := bitAt_in hv
          clear hv
          obtain ⟨ck, hck⟩ : ∃ ck, cnt ps k = ck := ⟨_, rfl⟩
          have HCK := hid hck
          by_cases hin : k < k0
          · obtain ⟨u, hu⟩ : ∃ u, mine[k]? = some u := ⟨mine[k]'(by rw [Hk.out]; exact hin), List.getElem?_eq_getElem _⟩
            obtain ⟨gm, offm, rfl, hcu⟩ := C3.out.bool_of hu
            have hub := bitAt_in hu
            clear hu
            cases v
            · clear hvb hub hck
              cases u
              all_goals
                go_wp2_with fail
                go_round
                case rel => exact ⟨k + 1, by omega, by go_num⟩
                case measure => simp [intOf]; omega
            · cases u
              · have hle : cb ≤ ck := by rw [← hck]; exact hleast.out k hvb hub
                have d1 : decide ((ck : Int) < (cb : Int)) = false := by simp; omega
                have d1n : decide (ck < cb) = false := by simp; omega
                clear hvb hub hck
                go_wp2_with (go_at_call 23; first | ((with_reducible refine (holders_n Hm (by omega) _ _ _ _ HCK _ M3.out).mono ?_); rintro e w5 ⟨rfl, rfl⟩) | ((with_reducible refine (holders_n Hm (by omega) _ _ _ _ HCB _ M3.out).mono ?_); rintro e w5 ⟨rfl, rfl⟩))
                go_round
                case rel => exact ⟨k + 1, by omega, by go_num⟩
                case measure => simp [intOf]; omega
              · clear hvb hub hck
                go_wp2_with fail
                go_round
                case rel => exact ⟨k + 1, by omega, by go_num⟩
                case measure => simp [intOf]; omega
          · have hub := bitAt_out (bs := mine) (b := k) (by rw [Hk.out]; omega)
            cases v
            · clear hvb hub hck
              go_wp2_with fail
              go_round
              case rel => exact ⟨k + 1, by omega, by go_num⟩
              case measure => simp [intOf]; omega
            · have hle : cb ≤ ck := by rw [← hck]; exact hleast.out k hvb hub
              have d1 : decide ((ck : Int) < (cb : Int)) = false := by simp; omega
              have d1n : decide (ck < cb) = false := by simp; omega
              clear hvb hub hck
              go_wp2_with (go_at_call 23; first | ((with_reducible refine (holders_n Hm (by omega) _ _ _ _ HCK _ M3.out).mono ?_); rintro e w5 ⟨rfl, rfl⟩) | ((with_reducible refine (holders_n Hm (by omega) _ _ _ _ HCB _ M3.out).mono ?_); rintro e w5 ⟨rfl, rfl⟩))
              go_round
              case rel => exact ⟨k + 1, by omega, by go_num⟩
              case measure => simp [intOf]; omega
        · go_wp2_with fail
          go_ret
          exact ⟨rfl, t3⟩

end Go.Proofs.Ytckbpiapkooamaa
