/- Roots, covers, digests, heads: what the reference makes of leaves. -/
import Derived.Test.YtpnahccmdebifaaF9
namespace Go.Proofs.Ytpnahccmdebifaa
open Go.RowKit

def rootZ : Nat → List Int → Int
  | 0, zs => zs.headD 0
  | f + 1, zs => if zs.length = 1 then zs.headD 0 else pairZ (rootZ f (zs.take (zs.length / 2))) (rootZ f (zs.drop (zs.length / 2)))
theorem rootZ_bd (f : Nat) : ∀ (zs : List Int), (∀ z ∈ zs, 0 ≤ z ∧ z ≤ 990) → 0 ≤ rootZ f zs ∧ rootZ f zs ≤ 990 := by
  have hd : ∀ (zs : List Int), (∀ z ∈ zs, 0 ≤ z ∧ z ≤ 990) → 0 ≤ zs.headD 0 ∧ zs.headD 0 ≤ 990 := by
    intro zs h
    cases zs with
    | nil => simp
    | cons a l => exact h a (by simp)
  induction f with
  | zero => exact hd
  | succ f ih =>
    intro zs h
    unfold rootZ
    split
    · exact hd zs h
    · exact pairZ_bd _ _
def RetI (w : World) (z : Int) (e : Ending) (w' : World) : Prop := e = .returned (.int .i64 z) ∧ Below w.heap.size w w'

set_option maxHeartbeats 1000000 in
theorem l2Root_any (f : Nat) : ∀ (A : Option Addr) (c n : Nat) (zs : List Int) (w : World), Hid (zs.length = n) → Hid (∀ z ∈ zs, 0 ≤ z ∧ z ≤ 990) → Cells w A (ints zs) → 1 ≤ n → n ≤ f + 1 → n ≤ 1000 → n ≤ c → c ≤ maxLen →
    Calls Try.prog 61 #[.slice A n c] w (RetI w (rootZ f zs)) := by
  induction f with
  | zero =>
    intro A c n zs w hn hz hr h1 hf hm hc hcm
    have hb1 : ((n : Int) == 1) = true := by rw [beq_iff_eq]; omega
    obtain ⟨b, off, x, rfl, hx, hc0⟩ := hr.int_at (k := 0) (by rw [hn.out]; omega)
    rw [Nat.add_zero] at hc0
    have hR : Hid (rootZ 0 zs = x) := by
      have h := hx.out
      cases zs with
      | nil => simp at h
      | cons a l => simp at h; unfold Hid; exact h
    go_enter Try.func61, Try.ntmps61
    go_wp2
    go_ret
    exact ⟨by rw [hR.out]; rfl, Below.refl _ _⟩
  | succ f ih =>
    intro A c n zs w hn hz hr h1 hf hm hc hcm
    by_cases hn1 : n = 1
    · have hb1 : ((n : Int) == 1) = true := by rw [beq_iff_eq]; omega
      have Hn1 := hid hn1
      clear hn1
      obtain ⟨b, off, x, rfl, hx, hc0⟩ := hr.int_at (k := 0) (by rw [hn.out]; omega)
      rw [Nat.add_zero] at hc0
      have hR : Hid (rootZ (f + 1) zs = x) := by
        have h := hx.out
        unfold Hid rootZ
        rw [if_pos (hn.out.trans Hn1.out)]
        cases zs with
        | nil => simp at h
        | cons a l => simp at h; exact h
      go_enter Try.func61, Try.ntmps61
      go_wp2
      go_ret
      exact ⟨by rw [hR.out]; rfl, Below.refl _ _⟩
    · have hb1 : ((n : Int) == 1) = false := by rw [beq_eq_false_iff_ne]; omega
      obtain ⟨b, off, x, hA, hx, hc0⟩ := hr.int_at (k := 0) (by rw [hn.out]; omega)
      subst hA
      clear hx hc0
      obtain ⟨h, hh⟩ : ∃ h, n / 2 = h := ⟨_, rfl⟩
      have e1 : (n : Int).tdiv 2 = (h : Int) := by rw [← hh]; exact Int.ofNat_tdiv _ _
      have h2 : 1 ≤ h := by omega
      have h3 : h + 1 ≤ n := by omega
      have hf1 : h ≤ f + 1 := by omega
      have hf2 : n - h ≤ f + 1 := by omega
      have hR : Hid (rootZ (f + 1) zs = pairZ (rootZ f (zs.take h)) (rootZ f (zs.drop h))) := by
        unfold Hid; rw [← hh, ← hn.out]
        conv => lhs; unfold rootZ
        rw [if_neg (by rw [hn.out]; exact hn1)]
      clear hh hn1
      have hzt : Hid (∀ z ∈ zs.take h, 0 ≤ z ∧ z ≤ 990) := fun z hz2 => hz.out z (List.mem_of_mem_take hz2)
      have hzd : Hid (∀ z ∈ zs.drop h, 0 ≤ z ∧ z ≤ 990) := fun z hz2 => hz.out z (List.mem_of_mem_drop hz2)
      have hnt : Hid ((zs.take h).length = h) := by unfold Hid; rw [List.length_take, hn.out]; omega
      have hnd : Hid ((zs.drop h).length = n - h) := by unfold Hid; rw [List.length_drop, hn.out]
      have ct : Cells w (some ⟨b, off, none⟩) (ints (zs.take h)) := by have k := hr.take h; unfold ints at k ⊢; rw [← List.map_take] at k; exact k
      have cd : Cells w (some ⟨b, off + h, none⟩) (ints (zs.drop h)) := by have k := hr.drop h; unfold ints at k ⊢; rw [← List.map_drop] at k; exact k
      obtain ⟨t0, t1⟩ := rootZ_bd f _ hzt.out
      obtain ⟨d0, d1⟩ := rootZ_bd f _ hzd.out
      have H1 := hid (fun (p : After w) => Calls.after_of (p := p) (ih _ c _ _ p.w' hnt hzt (ct.below p.h) h2 hf1 (by omega) (by omega) hcm))
      have H2 := hid (fun (p : After w) => Calls.after_of (p := p) (ih _ (c - h) _ _ p.w' hnd hzd (cd.below p.h) (by omega) hf2 (by omega) (by omega) (by omega)))
      have H3 := hid (fun (p : After w) => Calls.after_of_same (p := p) (l1Pair_any (rootZ f (zs.take h)) (rootZ f (zs.drop h)) p.w' t0 (by omega) d0 (by omega)))
      generalize rootZ f (zs.take h) = T at *
      generalize rootZ f (zs.drop h) = D at *
      clear ct cd hr
      have hhc : h + 1 ≤ c := by omega
      have hne : (h == c) = false := by rw [beq_eq_false_iff_ne]; omega
      have iA := After.some w
      clear ih hf hf1 hf2 hzt hzd hnt hnd hz hn t0 t1 d0 d1
      go_enter Try.func61, Try.ntmps61
      go_wp2_with fail
      refine wp_region_after (by kernel_rfl) (by kernel_rfl) ?_
      repeat (go_big_quiet_step (first | (go_at_call 61; first | (with_reducible exact H1.out _) | (with_reducible exact H2.out _)) | (go_at_call 53; with_reducible exact H3.out _)))

      refine wpQuiet_nil ?_
      rintro _ ⟨⟨w5, b5⟩, rfl⟩
      go_wp2
      go_ret
      exact ⟨by rw [hR.out]; rfl, b5⟩

end Go.Proofs.Ytpnahccmdebifaa
