/- laws.FnRareCount: the walk. -/
import Derived.Test.YtckbpiapkooamaaR7
import Derived.Test.YtckbpiapkooamaaDrawR2
namespace Go.Proofs.Ytckbpiapkooamaa
open Go.RowKit


set_option maxRecDepth 100000 in
set_option maxHeartbeats 4000000 in
theorem rareCount_walk (A : Option Addr) (c : Nat) (us : List Int) (w : World) (hr : Cells w A (bytes us)) (hu : ∀ u ∈ us, 0 ≤ u ∧ u ≤ 255) (hc : us.length ≤ c) :
    Calls Try.prog 4 #[.slice A us.length c] w (RetB w true) := by
  have Hu := hid hu
  clear hu
  by_cases h20 : 1048576 < us.length
  · go_enter Try.func4, Try.ntmps4
    go_wp2
    go_ret
    exact ⟨rfl, Below.refl _ _⟩
  · have hm : us.length ≤ 17592186044416 := by omega
    have hd : decide ((1048576 : Int) < (us.length : Int)) = false := by simp; omega
    clear h20
    go_enter Try.func4, Try.ntmps4
    go_wp2_with fail
    refine (drawCount_any _ _ _ _ hr Hu.out hc hm).mono ?_
    rintro e w1 ⟨A1, c1, ps, x, rfl, hx0, hx1, hsm⟩
    clear hr hc hm hd
    obtain ⟨m, hm0⟩ : ∃ m, ps.length = m := ⟨_, rfl⟩
    have Hm := hid hm0
    have hm7 : m ≤ 7 := by rw [← hm0]; exact hsm.1
    have Hs := hid hsm.2.1
    have M1 := hid hsm.2.2.1
    have b1 := hsm.2.2.2
    obtain ⟨r, hr0⟩ : ∃ r, countG ps x = r := ⟨_, rfl⟩
    have HR := hid hr0
    go_wp2_with fail
    clear hm0 hsm
    refine (implCount_n Hm Hs _ _ _ _ HR _ M1.out).mono ?_; rintro e w2 ⟨rfl, rfl⟩
    go_wp2_with fail
    refine (specCount_n Hm Hs _ _ _ _ HR _ M1.out).mono ?_; rintro e w3 ⟨rfl, rfl⟩
    by_cases hn : r < 0
    · clear hr0
      go_wp2_with fail
      go_ret
      exact ⟨rfl, b1⟩
    · have Hr0 := hid hr0
      clear hr0
      have hk : Hid (∃ b : Nat, x = b ∧ r = (cnt ps b : Int)) := by
        have h := Hr0.out
        unfold countG at h
        split at h
        · rename_i h1
          rw [Bool.and_eq_true] at h1
          obtain ⟨b, rfl, _⟩ := inB_nat h1.2
          exact ⟨b, rfl, h.symm⟩
        · omega
      obtain ⟨b, rfl, hrb⟩ := hk.out
      subst hrb
      go_wp2_with fail
      refine (holders_n Hm (by omega) _ _ _ _ (hid rfl) _ M1.out).mono ?_; rintro e w4 ⟨rfl, rfl⟩
      go_wp2_with fail
      go_ret
      exact ⟨rfl, b1⟩

end Go.Proofs.Ytckbpiapkooamaa
