/- laws.FnRareWhole: the walk. -/
import Derived.Test.YtckbpiapkooamaaR7
import Derived.Test.YtckbpiapkooamaaDrawR2
namespace Go.Proofs.Ytckbpiapkooamaa
open Go.RowKit

theorem wholeN_min (ps : List Bits) {n k : Nat} (h : k < n) : wholeN ps n ≤ cnt ps k := by
  induction n with
  | zero => omega
  | succ n ih =>
    simp only [wholeN]
    by_cases hk : k = n
    · subst hk; omega
    · have := ih (by omega); omega
def foundB (ps : List Bits) (v N k : Nat) : Bool := decide (N = 0) || (List.range k).any fun b => v == cnt ps b
theorem foundB_snoc (ps : List Bits) (v N k : Nat) : foundB ps v N (k + 1) = (foundB ps v N k || v == cnt ps k) := by
  unfold foundB; rw [List.range_succ, List.any_append, Bool.or_assoc]; simp
theorem found_all (ps : List Bits) (n : Nat) : foundB ps (wholeN ps n) n n = true := by
  rcases Nat.eq_zero_or_pos n with h | h
  · subst h; simp [foundB]
  · have key : ∀ n, 0 < n → ∃ b, b < n ∧ wholeN ps n = cnt ps b := by
      intro n
      induction n with
      | zero => intro h; omega
      | succ n ih =>
        intro _
        simp only [wholeN]
        rcases Nat.lt_or_ge (wholeN ps n) (cnt ps n) with h1 | h1
        · rcases Nat.eq_zero_or_pos n with h0 | h0
          · subst h0; have := cnt_le ps 0; simp only [wholeN] at h1; omega
          · obtain ⟨b, hb, e⟩ := ih h0
            exact ⟨b, by omega, by omega⟩
        · exact ⟨n, by omega, by omega⟩
    obtain ⟨b, hb, e⟩ := key n h
    unfold foundB
    rw [Bool.or_eq_true]
    right
    rw [List.any_eq_true]
    exact ⟨b, List.mem_range.2 hb, by simp [e]⟩

set_option maxRecDepth 100000 in
set_option maxHeartbeats 4000000 in
theorem rareWhole_walk (A : Option Addr) (c : Nat) (us : List Int) (w : World) (hr : Cells w A (bytes us)) (hu : ∀ u ∈ us, 0 ≤ u ∧ u ≤ 255) (hc : us.length ≤ c) :
    Calls Try.prog 7 #[.slice A us.length c] w (RetB w true) := by
  have Hu := hid hu
  clear hu
  by_cases h20 : 1048576 < us.length
  · go_enter Try.func7, Try.ntmps7
    go_wp2
    go_ret
    exact ⟨rfl, Below.refl _ _⟩
  · have hm : us.length ≤ 17592186044416 := by omega
    have hd : decide ((1048576 : Int) < (us.length : Int)) = false := by simp; omega
    clear h20
    go_enter Try.func7, Try.ntmps7
    go_wp2_with fail
    refine (drawWhole_any _ _ _ _ hr Hu.out hc hm).mono ?_
    rintro e w1 ⟨A1, c1, ps, x, rfl, hx0, hx1, hsm⟩
    clear hr hc hm hd
    obtain ⟨m, hm0⟩ : ∃ m, ps.length = m := ⟨_, rfl⟩
    have Hm := hid hm0
    have hm7 : m ≤ 7 := by rw [← hm0]; exact hsm.1
    have Hs := hid hsm.2.1
    have M1 := hid hsm.2.2.1
    have b1 := hsm.2.2.2
    obtain ⟨r, hr0⟩ : ∃ r, wholeG ps x = r := ⟨_, rfl⟩
    have HR := hid hr0
    go_wp2_with fail
    clear hm0 hsm
    refine (implWhole_n Hm Hs _ _ _ _ HR _ M1.out).mono ?_; rintro e w2 ⟨rfl, rfl⟩
    go_wp2_with fail
    refine (specWhole_n Hm Hs _ _ _ _ HR _ M1.out).mono ?_; rintro e w3 ⟨rfl, rfl⟩
    by_cases hn : r < 0
    · clear hr0
      go_wp2_with fail
      go_ret
      exact ⟨rfl, b1⟩
    · have Hr0 := hid hr0
      clear hr0
      have hk : Hid (∃ b : Nat, x = b ∧ b ≤ 16 ∧ r = (wholeN ps b : Int)) := by
        have h := Hr0.out
        unfold wholeG at h
        split at h
        · rename_i h1
          rw [Bool.and_eq_true] at h1
          obtain ⟨b, rfl, h2⟩ := inB_nat h1.2
          exact ⟨b, rfl, by omega, h.symm⟩
        · omega
      obtain ⟨N, rfl, hN, hrb⟩ := hk.out
      obtain ⟨v, hv⟩ : ∃ v, wholeN ps N = v := ⟨_, rfl⟩
      have hvm : v ≤ m := by rw [← hv, ← Hm.out]; exact wholeN_le _ _
      have HV := hid hv
      rw [hv] at hrb
      subst hrb
      have H0 : Hid ((N == 0) = true → v = m) := by intro h; rw [← HV.out, ← Hm.out]; simp at h; subst h; rfl
      clear hv hk
      by_cases hN0 : N = 0
      all_goals
        have hs0 : Hid (foundB ps v N 0 = decide (N = 0)) := by simp [foundB, Hid]
        first
          | (have e0 : ((N : Int) == 0) = true := (by rw [hN0]; rfl)
             have e1 : ((v : Int) == (m : Int)) = true := (by rw [beq_iff_eq, H0.out (by rw [hN0]; rfl)])
             have hs1 : Hid (foundB ps v N 0 = true) := (by unfold Hid; rw [hs0.out, hN0]; rfl)
             clear hN0)
          | (have e0 : ((N : Int) == 0) = false := (by rw [beq_eq_false_iff_ne]; omega)
             have hs1 : Hid (foundB ps v N 0 = false) := (by unfold Hid; rw [hs0.out]; simpa using hN0)
             clear hN0)
        go_wp2_with fail
        go_loop [7, 8] (fun f i => ∃ (k : Nat) (b : Bool), k ≤ N ∧ i = .int .i64 k ∧ f = .bool b ∧ Hid (foundB ps v N k = b)) (fun _ i => N - (intOf i).toNat)
        case atStart => exact ⟨0, _, Nat.zero_le _, rfl, rfl, hs1⟩
        case round =>
          obtain ⟨k, b, hk, rfl, rfl, hf⟩ := hrel
          by_cases hlt : k < N
          · obtain ⟨q, hq⟩ : ∃ q, cnt ps k = q := ⟨_, rfl⟩
            have HQ := hid hq
            have hle : v ≤ q := by rw [← hq, ← HV.out]; exact wholeN_min ps hlt
            have hst := hid (foundB_snoc ps v N k)
            rw [hf.out, hq] at hst
            clear hq
            have d1 : decide ((q : Int) < (v : Int)) = false := by simp; omega
            cases b
            · by_cases hqv : v = q
              · have d2 : ((v : Int) == (q : Int)) = true := by rw [beq_iff_eq]; omega
                have hst2 : Hid (foundB ps v N (k + 1) = true) := by unfold Hid; rw [hst.out, hqv]; simp
                clear hqv hst
                go_wp2_with (go_at_call 23; refine (holders_n Hm (by omega) _ _ _ _ HQ _ M1.out).mono ?_; rintro e w5 ⟨rfl, rfl⟩)
                go_round
                case rel => exact ⟨k + 1, _, by omega, by go_num, rfl, hst2⟩
                case measure => simp [intOf]; omega
              · have d2 : ((v : Int) == (q : Int)) = false := by rw [beq_eq_false_iff_ne]; omega
                have hst2 : Hid (foundB ps v N (k + 1) = false) := by unfold Hid; rw [hst.out]; simp; omega
                clear hqv hst
                go_wp2_with (go_at_call 23; refine (holders_n Hm (by omega) _ _ _ _ HQ _ M1.out).mono ?_; rintro e w5 ⟨rfl, rfl⟩)
                go_round
                case rel => exact ⟨k + 1, _, by omega, by go_num, rfl, hst2⟩
                case measure => simp [intOf]; omega
            · have hst2 : Hid (foundB ps v N (k + 1) = true) := by unfold Hid; rw [hst.out]; simp
              clear hst
              go_wp2_with (go_at_call 23; refine (holders_n Hm (by omega) _ _ _ _ HQ _ M1.out).mono ?_; rintro e w5 ⟨rfl, rfl⟩)
              go_round
              case rel => exact ⟨k + 1, _, by omega, by go_num, rfl, hst2⟩
              case measure => simp [intOf]; omega
          · obtain rfl : k = N := by omega
            have hfin := hid (found_all ps k)
            rw [HV.out, hf.out] at hfin
            clear hlt
            go_wp2
            go_ret
            exact ⟨ret_bool hfin.out, b1⟩

end Go.Proofs.Ytckbpiapkooamaa
