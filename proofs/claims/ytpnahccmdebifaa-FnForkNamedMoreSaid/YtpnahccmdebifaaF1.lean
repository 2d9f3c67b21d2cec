/- Keys, digests, heads, forks: what is right. -/
import Derived.Test.YtpnahccmdebifaaC1
import Derived.Test.YtpnahccmdebifaaBase2
import Derived.Test.YtpnahccmdebifaaAfter
namespace Go.Proofs.Ytpnahccmdebifaa
open Go.RowKit

structure HeadT where
  len : Int
  dig : Int
  sign : Int
structure ForkT where
  pub : Int
  a : HeadT
  b : HeadT
abbrev hv (h : HeadT) : Value := .agg #[.int .i64 h.len, .int .i64 h.dig, .int .i64 h.sign]
abbrev fv (x : ForkT) : Value := .agg #[.int .i64 x.pub, .int .i64 x.a.len, .int .i64 x.a.dig, .int .i64 x.a.sign, .int .i64 x.b.len, .int .i64 x.b.dig, .int .i64 x.b.sign]
def hcells (h : HeadT) : List Value := [.int .i64 h.len, .int .i64 h.dig, .int .i64 h.sign]
def fcells (x : ForkT) : List Value := [.int .i64 x.pub, .int .i64 x.a.len, .int .i64 x.a.dig, .int .i64 x.a.sign, .int .i64 x.b.len, .int .i64 x.b.dig, .int .i64 x.b.sign]

theorem isKey_any (n : Int) (w : World) : Calls Try.prog 28 #[.int .i64 n] w fun e w' => e = .returned (.bool (inB n 1 996)) ∧ w = w' := by
  go_enter Try.func28, Try.ntmps28
  go_wp2_with (go_at_call 29; refine (within_any _ _ _ _).mono ?_; rintro e w' ⟨rfl, rfl⟩)
  go_ret
  exact ⟨rfl, rfl⟩
theorem isDigest_any (n : Int) (w : World) : Calls Try.prog 30 #[.int .i64 n] w fun e w' => e = .returned (.bool (inB n 0 990)) ∧ w = w' := by
  go_enter Try.func30, Try.ntmps30
  go_wp2_with (go_at_call 29; refine (within_any _ _ _ _).mono ?_; rintro e w' ⟨rfl, rfl⟩)
  go_ret
  exact ⟨rfl, rfl⟩
theorem l3Key_any (n : Int) (w : World) : Calls Try.prog 33 #[.int .i64 n] w fun e w' => e = .returned (.bool (inB n 1 996)) ∧ w = w' := by
  go_enter Try.func33, Try.ntmps33
  go_wp2_with (go_at_call 48; refine (l6In_any _ _ _ _).mono ?_; rintro e w' ⟨rfl, rfl⟩)
  go_ret
  exact ⟨rfl, rfl⟩
theorem l1Digest_any (n : Int) (w : World) : Calls Try.prog 49 #[.int .i64 n] w fun e w' => e = .returned (.bool (inB n 0 990)) ∧ w = w' := by
  go_enter Try.func49, Try.ntmps49
  go_wp2_with (go_at_call 48; refine (l6In_any _ _ _ _).mono ?_; rintro e w' ⟨rfl, rfl⟩)
  go_ret
  exact ⟨rfl, rfl⟩

/-- The digest of two numbers. -/
def pairZ (a b : Int) : Int := (31 * a + 17 * b + 5) % 991
theorem pairZ_bd (a b : Int) : 0 ≤ pairZ a b ∧ pairZ a b ≤ 990 := by unfold pairZ; omega
theorem inB_true {n lo hi : Int} (h1 : lo ≤ n) (h2 : n ≤ hi) : inB n lo hi = true := by simp [inB]; omega
theorem inB_parts {n lo hi : Int} (h : inB n lo hi = true) : lo ≤ n ∧ n ≤ hi := by simpa [inB] using h

theorem l1Pair_any (a b : Int) (w : World) (a0 : 0 ≤ a) (a1 : a ≤ 1000) (b0 : 0 ≤ b) (b1 : b ≤ 1000) :
    Calls Try.prog 53 #[.int .i64 a, .int .i64 b] w fun e w' => e = .returned (.int .i64 (pairZ a b)) ∧ w = w' := by
  go_enter Try.func53, Try.ntmps53
  go_wp2
  go_ret
  exact ⟨rfl, rfl⟩
theorem digestPair_any (a b : Int) (w : World) (a0 : 0 ≤ a) (a1 : a ≤ 990) (b0 : 0 ≤ b) (b1 : b ≤ 990) :
    Calls Try.prog 50 #[.int .i64 a, .int .i64 b] w fun e w' => e = .returned (.int .i64 (pairZ a b)) ∧ w = w' := by
  have h1 := isDigest_any a w
  have h2 := isDigest_any b w
  rw [inB_true a0 a1] at h1
  rw [inB_true b0 b1] at h2
  have H1 := hid h1
  have H2 := hid h2
  clear h1 h2
  go_enter Try.func50, Try.ntmps50
  go_wp2_with fail
  refine H1.out.mono ?_; rintro e w' ⟨rfl, rfl⟩
  go_wp2_with fail
  refine H2.out.mono ?_; rintro e w' ⟨rfl, rfl⟩
  go_wp2
  go_ret
  exact ⟨rfl, rfl⟩
theorem l3Message_any (a b : Int) (w : World) (a0 : 0 ≤ a) (a1 : a ≤ 1000) (b0 : 0 ≤ b) (b1 : b ≤ 1000) :
    Calls Try.prog 36 #[.int .i64 a, .int .i64 b] w fun e w' => e = .returned (.int .i64 (pairZ a b + 1)) ∧ w = w' := by
  have hb := pairZ_bd a b
  go_enter Try.func36, Try.ntmps36
  go_wp2_with fail
  refine (l1Pair_any a b w a0 a1 b0 b1).mono ?_; rintro e w' ⟨rfl, rfl⟩
  obtain ⟨hb0, hb1⟩ := hb
  go_wp2
  go_ret
  exact ⟨rfl, rfl⟩
theorem Blk.three {w : World} {g : Nat} {t : TypeId} {a b c : Value} (h : Blk w g t [a, b, c]) : w.cell? ⟨g, 0, none⟩ = some a ∧ w.cell? ⟨g, 1, none⟩ = some b ∧ w.cell? ⟨g, 2, none⟩ = some c :=
  ⟨by have := h.cell 0; simpa using this, by have := h.cell 1; simpa using this, by have := h.cell 2; simpa using this⟩
theorem message_any (h : HeadT) (w : World) (a0 : 0 ≤ h.len) (a1 : h.len ≤ 990) (b0 : 0 ≤ h.dig) (b1 : h.dig ≤ 990) :
    Calls Try.prog 31 #[hv h] w fun e w' => e = .returned (.int .i64 (pairZ h.len h.dig + 1)) ∧ Below w.heap.size w w' := by
  obtain ⟨len, dig, sign⟩ := h
  have hb := pairZ_bd len dig
  have b2 : Below w.heap.size w (w.alloc (.cells #[.int .i64 len, .int .i64 dig, .int .i64 sign] 30)) := (Below.refl _ _).alloc (Nat.le_refl _) _
  go_enter Try.func31, Try.ntmps31
  go_wp2_with fail
  refine (digestPair_any len dig _ a0 a1 b0 b1).mono ?_; rintro e w' ⟨rfl, rfl⟩
  obtain ⟨hb0, hb1⟩ := hb
  go_wp2
  go_ret
  exact ⟨rfl, b2⟩

end Go.Proofs.Ytpnahccmdebifaa
