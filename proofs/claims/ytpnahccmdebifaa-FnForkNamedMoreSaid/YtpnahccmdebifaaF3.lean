/- Forks in memory; the reference's ForkNamed. -/
import Derived.Test.YtpnahccmdebifaaF2
import Derived.Test.YtpnahccmdebifaaC4
import Derived.Test.YtpnahccmdebifaaPlain
namespace Go.Proofs.Ytpnahccmdebifaa
open Go.RowKit

def forks (l : List ForkT) : List Value := l.flatMap fcells
theorem forks_cons (x : ForkT) (l : List ForkT) : forks (x :: l) = fcells x ++ forks l := rfl
theorem forks_length (l : List ForkT) : (forks l).length = l.length * 7 := by
  induction l with
  | nil => rfl
  | cons a l ih => rw [forks_cons, List.length_append, ih]; simp [fcells]; omega
theorem forks_app (l m : List ForkT) : forks (l ++ m) = forks l ++ forks m := by unfold forks; rw [List.flatMap_append]
theorem forks_snoc (l : List ForkT) (x : ForkT) : forks l ++ fcells x = forks (l ++ [x]) := by rw [forks_app]; simp [forks]
theorem forks_get {l : List ForkT} {k : Nat} {x : ForkT} (h : l[k]? = some x) (j : Nat) (hj : j < 7) : (forks l)[k * 7 + j]? = (fcells x)[j]? := by
  induction l generalizing k with
  | nil => simp at h
  | cons b l ih =>
    rw [forks_cons]
    rcases k with _ | k
    · simp at h; subst h
      rw [Nat.zero_mul, Nat.zero_add, List.getElem?_append_left (by simp [fcells]; omega)]
    · simp at h
      have e : (fcells b).length = 7 := rfl
      rw [List.getElem?_append_right (by rw [e]; omega), e, show (k + 1) * 7 + j - 7 = k * 7 + j by omega]
      exact ih h
theorem forks_one (l : List ForkT) : ∀ u ∈ forks l, u.oneCell' = true := by
  intro u hu
  unfold forks at hu
  simp only [List.mem_flatMap] at hu
  obtain ⟨a, _, h⟩ := hu
  simp [fcells] at h
  rcases h with rfl | rfl | rfl | rfl | rfl | rfl | rfl <;> rfl
theorem fcells_one (x : ForkT) : ∀ u ∈ fcells x, u.oneCell' = true := by
  intro u h
  simp [fcells] at h
  rcases h with rfl | rfl | rfl | rfl | rfl | rfl | rfl <;> rfl
/-- The cells of one fork, from a place on. -/
structure At7 (w : World) (b o : Nat) (x : ForkT) : Prop where
  c0 : w.cell? ⟨b, o, none⟩ = some (.int .i64 x.pub)
  c1 : w.cell? ⟨b, o + 1, none⟩ = some (.int .i64 x.a.len)
  c2 : w.cell? ⟨b, o + 2, none⟩ = some (.int .i64 x.a.dig)
  c3 : w.cell? ⟨b, o + 3, none⟩ = some (.int .i64 x.a.sign)
  c4 : w.cell? ⟨b, o + 4, none⟩ = some (.int .i64 x.b.len)
  c5 : w.cell? ⟨b, o + 5, none⟩ = some (.int .i64 x.b.dig)
  c6 : w.cell? ⟨b, o + 6, none⟩ = some (.int .i64 x.b.sign)
theorem Cells.fork_of {w : World} {A : Option Addr} {l : List ForkT} (h : Cells w A (forks l)) {k : Nat} {x : ForkT} (hz : l[k]? = some x) : ∃ b off, A = some ⟨b, off, none⟩ ∧ At7 w b (off + k * 7) x := by
  rcases h with h | ⟨b, off, hA, _, hc⟩
  · have : l = [] := List.eq_nil_of_length_eq_zero (by have := forks_length l; rw [h] at this; simp at this; omega)
    subst this; simp at hz
  · have hg := fun j hj v (hv : (fcells x)[j]? = some v) => hc (k * 7 + j) v ((forks_get hz j hj).trans hv)
    exact ⟨b, off, hA, by have := hg 0 (by omega) _ rfl; simpa [Nat.add_assoc] using this, by have := hg 1 (by omega) _ rfl; rwa [← Nat.add_assoc] at this, by have := hg 2 (by omega) _ rfl; rwa [← Nat.add_assoc] at this,
      by have := hg 3 (by omega) _ rfl; rwa [← Nat.add_assoc] at this, by have := hg 4 (by omega) _ rfl; rwa [← Nat.add_assoc] at this, by have := hg 5 (by omega) _ rfl; rwa [← Nat.add_assoc] at this, by have := hg 6 (by omega) _ rfl; rwa [← Nat.add_assoc] at this⟩
theorem info_fork : (Try.prog.info? 32).map (fun i => (i.zero, i.size, i.bytes)) = some (some (.agg #[.int .i64 0, .int .i64 0, .int .i64 0, .int .i64 0, .int .i64 0, .int .i64 0, .int .i64 0]), 7, 56) := by kernel_rfl

set_option maxHeartbeats 400000 in
theorem l1Has_any (A : Option Addr) (c n : Nat) (zs : List Int) (x : Int) (w : World) (hn : Hid (zs.length = n)) (hA : Cells w A (ints zs)) (hm : n ≤ 17592186044416) :
    Calls Try.prog 18 #[.slice A n c, .int .i64 x] w fun e w' => e = .returned (.bool (decide (x ∈ zs))) ∧ w = w' := by
  go_enter Try.func18, Try.ntmps18
  go_wp2
  go_loop [5] (fun i => ∃ k : Nat, k ≤ n ∧ i = .int .i64 k ∧ Hid (∀ z ∈ zs.take k, z ≠ x)) (fun i => n - (intOf i).toNat)
  case atStart => exact ⟨0, Nat.zero_le _, rfl, by simp [Hid]⟩
  case round =>
    obtain ⟨k, hk, rfl, hall⟩ := hrel
    by_cases hlt : k < n
    · obtain ⟨b, off, z, rfl, hz, hc⟩ := hA.int_at (k := k) (by rw [hn.out]; exact hlt)
      by_cases hzx : z = x
      · subst hzx
        go_wp2
        go_ret
        exact ⟨ret_bool (by have := List.mem_of_getElem? hz.out; simp [this]), rfl⟩
      · have hb : (z == x) = false := by rw [beq_eq_false_iff_ne]; exact hzx
        have hne := hid hzx
        clear hzx
        go_wp2
        go_round
        case rel => exact ⟨k + 1, by omega, by go_num, by unfold Hid; rw [take_snoc _ _ _ hz.out]; intro y hy; rcases List.mem_append.1 hy with h | h; exact hall.out y h; simp at h; subst h; exact hne.out⟩
        case measure => simp [intOf]; omega
    · go_wp2
      go_ret
      exact ⟨ret_bool (hasB_no (zs := zs) (x := x) (fun z hz => hall.out z (by rw [List.take_of_length_le (by rw [hn.out]; omega)]; exact hz))).symm, rfl⟩

/-- Whether a right fork of l names z. -/
def namedB (l : List ForkT) (z : Int) : Bool := l.any fun x => x.pub == z && forkB x
/-- What the reference lists of the keys 1 to K. -/
def specN (l : List ForkT) : Nat → List Int
  | 0 => []
  | K + 1 => specN l K ++ if namedB l ((K + 1 : Nat) : Int) = true then [((K + 1 : Nat) : Int)] else []
theorem specN_mem {l : List ForkT} {K : Nat} {z : Int} : z ∈ specN l K ↔ 1 ≤ z ∧ z ≤ K ∧ namedB l z = true := by
  induction K with
  | zero => simp [specN]; omega
  | succ K ih =>
    rw [specN, List.mem_append, ih]
    constructor
    · rintro (⟨h1, h2, h3⟩ | h)
      · exact ⟨h1, by omega, h3⟩
      · split at h
        · rename_i h4; simp at h; subst h; exact ⟨by omega, by omega, h4⟩
        · simp at h
    · rintro ⟨h1, h2, h3⟩
      by_cases e : z = ((K + 1 : Nat) : Int)
      · right; subst e; rw [if_pos h3]; simp
      · left; exact ⟨h1, by omega, h3⟩
theorem specN_sorted (l : List ForkT) (K : Nat) : (specN l K).Pairwise (· < ·) := by
  induction K with
  | zero => exact List.Pairwise.nil
  | succ K ih =>
    rw [specN, List.pairwise_append]
    refine ⟨ih, by split <;> simp, fun a ha b hb => ?_⟩
    have h1 := (specN_mem.1 ha).2.1
    split at hb
    · simp at hb; subst hb; omega
    · simp at hb
theorem specN_len (l : List ForkT) (K : Nat) : (specN l K).length ≤ K := by
  induction K with
  | zero => simp [specN]
  | succ K ih => rw [specN, List.length_append]; split <;> simp <;> omega

end Go.Proofs.Ytpnahccmdebifaa
