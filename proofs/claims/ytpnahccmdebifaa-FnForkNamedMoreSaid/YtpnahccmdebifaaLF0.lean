/- What the laws of chapter 12 share: contracts over hidden equations, plain facts. -/
import Derived.Test.YtpnahccmdebifaaF7
import Derived.Test.YtpnahccmdebifaaFD
import Derived.Test.YtpnahccmdebifaaC4
namespace Go.Proofs.Ytpnahccmdebifaa
open Go.RowKit

def RetZn (w : World) (Z : List Int) (z : Nat) (e : Ending) (w' : World) : Prop :=
  ∃ A c, e = .returned (.slice A z c) ∧ Own w' w.heap.size w'.heap.size 3 1 A c z (ints Z) ∧ Below w.heap.size w w'
theorem retZn {w w' : World} {Z0 Z : List Int} {z : Nat} {e : Ending} (hZ : Z0 = Z) (hz : Z.length = z) (h : RetZ w Z0 e w') : RetZn w Z z e w' := by
  subst hZ; subst hz; exact h
theorem implNamed_n {l : List ForkT} {m : Nat} {Z : List Int} {z : Nat} (hlm : Hid (l.length = m)) (hZ : Hid (specAll l = Z)) (hz : Hid (Z.length = z)) (A : Option Addr) (c : Nat) (w : World) (hr : Cells w A (forks l)) (hm : m ≤ 12) :
    Calls Try.prog 6 #[.slice A m c] w (RetZn w Z z) := (implNamed_any A c m l w hlm hr hm).mono fun _ _ h => retZn hZ.out hz.out h
theorem specNamed_n {l : List ForkT} {m : Nat} {Z : List Int} {z : Nat} (hlm : Hid (l.length = m)) (hZ : Hid (specAll l = Z)) (hz : Hid (Z.length = z)) (A : Option Addr) (c : Nat) (w : World) (hr : Cells w A (forks l)) (hm : m ≤ 12) :
    Calls Try.prog 7 #[.slice A m c] w (RetZn w Z z) := (specNamed_any A c m l w hlm hr (by omega)).mono fun _ _ h => retZn hZ.out hz.out h
theorem sameInts_n {Z : List Int} {z : Nat} (hz : Hid (Z.length = z)) (A B : Option Addr) (c d : Nat) (w : World) (hA : Cells w A (ints Z)) (hB : Cells w B (ints Z)) (hm : z ≤ 17592186044416) :
    Calls Try.prog 8 #[.slice A z c, .slice B z d] w (RetB w true) := by
  have h := hz.out; subst h
  exact sameInts_true A B c d Z w hA hB hm
theorem hasInt_n {Z : List Int} {z : Nat} {x : Int} {v : Bool} (hz : Hid (Z.length = z)) (hv : Hid (decide (x ∈ Z) = v)) (A : Option Addr) (c : Nat) (w : World) (hA : Cells w A (ints Z)) (hm : z ≤ 17592186044416) :
    Calls Try.prog 10 #[.slice A z c, .int .i64 x] w fun e w' => e = .returned (.bool v) ∧ w = w' := by
  have h := hz.out; subst h
  rw [← hv.out]
  exact hasInt_any A c Z x w hA hm

theorem specAll_len (l : List ForkT) : (specAll l).length ≤ l.length := by
  rw [← named_eq]
  refine Nat.le_trans (compTo_len _ _) ?_
  rw [ascL_length]
  exact keysL_len l
theorem specAll_has {l : List ForkT} {k : Nat} {x : ForkT} (hx : l[k]? = some x) (hf : forkB x = true) : x.pub ∈ specAll l := by
  rw [specAll_mem]
  unfold namedB
  rw [List.any_eq_true]
  exact ⟨x, List.mem_of_getElem? hx, by simp [hf]⟩
theorem namedB_take {l : List ForkT} {j : Nat} {x : ForkT} {z : Int} (h : l[j]? = some x) : namedB (l.take (j + 1)) z = (namedB (l.take j) z || (x.pub == z && forkB x)) := namedB_snoc h z
theorem pair_at {r : Int → Int → Prop} {L : List Int} (h : L.Pairwise r) {k : Nat} {x y : Int} (hx : L[k]? = some x) (hy : L[k + 1]? = some y) : r x y := by
  have h1 := (List.getElem?_eq_some_iff.1 hx)
  have h2 := (List.getElem?_eq_some_iff.1 hy)
  have := List.pairwise_iff_getElem.1 h k (k + 1) h1.1 h2.1 (by omega)
  rw [h1.2, h2.2] at this
  exact this

theorem nodup_le {L : List Int} : ∀ {M : List Int}, L.Nodup → (∀ z ∈ L, z ∈ M) → L.length ≤ M.length := by
  induction L with
  | nil => intro M _ _; simp
  | cons a L ih =>
    intro M hn h
    rw [List.nodup_cons] at hn
    have ha : a ∈ M := h a (by simp)
    have h2 := ih (M := M.erase a) hn.2 (fun z hz => by
      have hne : z ≠ a := by rintro rfl; exact hn.1 hz
      exact (List.mem_erase_of_ne hne).2 (h z (by simp [hz])))
    rw [List.length_erase_of_mem ha] at h2
    have h3 := List.length_pos_of_mem ha
    simp only [List.length_cons]
    omega
/-- One key more at most. -/
theorem length_more {L M : List Int} {p : Int} (hL : L.Nodup) (h : ∀ z ∈ L, z = p ∨ z ∈ M) : L.length ≤ M.length + 1 := by
  have h2 := nodup_le (M := p :: M) hL (fun z hz => by
    rcases h z hz with rfl | h3
    · simp
    · simp [h3])
  simpa using h2
theorem namedB_app {l : List ForkT} {x : ForkT} {z : Int} : namedB (l ++ [x]) z = (namedB l z || (x.pub == z && forkB x)) := by
  unfold namedB; rw [List.any_append]; simp
theorem specAll_more {l : List ForkT} {x : ForkT} {z : Int} (h : z ∈ specAll l) : z ∈ specAll (l ++ [x]) := by
  rw [specAll_mem] at h ⊢
  rw [namedB_app, h]; rfl
theorem specAll_one (l : List ForkT) (x : ForkT) : (specAll (l ++ [x])).length ≤ (specAll l).length + 1 := by
  refine length_more (p := x.pub) ((specAll_sorted _).imp fun h => by omega) (fun z hz => ?_)
  rw [specAll_mem, namedB_app, Bool.or_eq_true] at hz
  rcases hz with h | h
  · right; exact specAll_mem.2 h
  · left
    simp only [Bool.and_eq_true, beq_iff_eq] at h
    exact h.1.symm

end Go.Proofs.Ytpnahccmdebifaa
