/- Words for the laws on windows. -/
import Derived.Test.YtjfpemneinclfaaDrawW3
namespace Go.Proofs.Ytjfpemneinclfaa
open Go.RowKit

theorem askG_ok {l : List AskT} {a : AskT} {en : Bool} {L : List AskT} (h : askG l a en = (L, true)) :
    validB l = true ∧ askB a = true ∧ hasA l a = false ∧ peerN l a.1 ≤ 2 ∧ blockN l a.2 < (if en then 2 else 1) ∧ L = l ++ [a] := by
  cases h1 : (validB l && askB a)
  · rw [askG_bad h1] at h; cases h
  · rw [Bool.and_eq_true] at h1
    cases h2 : (hasA l a || decide (3 ≤ peerN l a.1) || decide ((if en then 2 else 1) ≤ blockN l a.2))
    · rw [askG_yes h1.1 h1.2 h2] at h
      simp only [Bool.or_eq_false_iff, decide_eq_false_iff_not] at h2
      injection h with h3
      exact ⟨h1.1, h1.2, h2.1.1, by omega, by omega, h3.symm⟩
    · rw [askG_no h1.1 h1.2 h2] at h; cases h
theorem askG_new {l : List AskT} {a : AskT} {en : Bool} {L : List AskT} (h : askG l a en = (L, true)) : validB (l ++ [a]) = true := by
  obtain ⟨h1, h2, h3, h4, h5, _⟩ := askG_ok h
  obtain ⟨x, y⟩ := a
  refine validB_iff.2 (validP_snoc.2 ⟨validB_iff.1 h1, h2, fun hm => ?_, h4, ?_⟩)
  · rw [hasA_iff.2 hm] at h3; cases h3
  · simp only at h5; split at h5 <;> omega
theorem hasA_snoc (l : List AskT) (a : AskT) : hasA (l ++ [a]) a = true := hasA_iff.2 (by simp)

/-- The answers under names: the list, its length, the bool. -/
def RetAsksN (w : World) (L : List AskT) (n : Nat) (ok : Bool) (e : Ending) (w' : World) : Prop :=
  ∃ A c, e = .returned (.tuple #[.slice A n c, .bool ok]) ∧ Own w' w.heap.size w'.heap.size 34 2 A c n (asks L) ∧ Below w.heap.size w w'
theorem implAsk_g {l L : List AskT} {x y : Int} {en ok : Bool} {m n : Nat} (hG : Hid (askG l (x, y) en = (L, ok))) (hm : Hid (l.length = m)) (hn : Hid (L.length = n)) (h : m ≤ 1048576) (A : Option Addr) (c : Nat) (w : World) (hr : Cells w A (asks l)) (hc : m ≤ c) :
    Calls Try.prog 30 #[.slice A m c, av x y, .bool en] w (RetAsksN w L n ok) := by
  have h1 := hm.out; have h2 := hn.out; subst h1; subst h2
  have := implAsk_any A c l x y en w hr h hc
  rw [hG.out] at this
  exact this
theorem specAsk_g {l L : List AskT} {x y : Int} {en ok : Bool} {m n : Nat} (hG : Hid (askG l (x, y) en = (L, ok))) (hm : Hid (l.length = m)) (hn : Hid (L.length = n)) (h : m ≤ 1048576) (A : Option Addr) (c : Nat) (w : World) (hr : Cells w A (asks l)) (hc : m ≤ c) :
    Calls Try.prog 31 #[.slice A m c, av x y, .bool en] w (RetAsksN w L n ok) := by
  have h1 := hm.out; have h2 := hn.out; subst h1; subst h2
  have := specAsk_any A c l x y en w hr h hc
  rw [hG.out] at this
  exact this
theorem sameAsks_g {l : List AskT} {n : Nat} (hn : Hid (l.length = n)) (h : n ≤ 1048576) (A B : Option Addr) (c d : Nat) (w : World) (hA : Cells w A (asks l)) (hB : Cells w B (asks l)) :
    Calls Try.prog 32 #[.slice A n c, .slice B n d] w (RetB w true) := by
  have h1 := hn.out; subst h1
  exact sameAsks_true A B c d l w hA hB (by omega)
theorem asksFor_g {l : List AskT} {n k : Nat} {q : Int} (hn : Hid (l.length = n)) (hk : Hid (blockN l q = k)) (h : n ≤ 1048576) (A : Option Addr) (c : Nat) (w : World) (hA : Cells w A (asks l)) :
    Calls Try.prog 36 #[.slice A n c, .int .i64 q] w fun e w' => e = .returned (.int .i64 k) ∧ w = w' := by
  have h1 := hn.out; subst h1
  have h2 := hk.out; subst h2
  exact asksFor_any A c l q w hA (by omega)
theorem hasAsk_g {l : List AskT} {n : Nat} {x y : Int} {b : Bool} (hn : Hid (l.length = n)) (hb : Hid (hasA l (x, y) = b)) (h : n ≤ 1048576) (A : Option Addr) (c : Nat) (w : World) (hA : Cells w A (asks l)) :
    Calls Try.prog 39 #[.slice A n c, av x y] w (RetB w b) := by
  have h1 := hn.out; subst h1
  have h2 := hb.out; subst h2
  exact hasAsk_any A c l x y w hA (by omega)
theorem implRoom_g {l : List AskT} {n : Nat} {p k : Int} (hn : Hid (l.length = n)) (hk : Hid (roomG l p = k)) (h : n ≤ 1048576) (A : Option Addr) (c : Nat) (w : World) (hA : Cells w A (asks l)) (hc : n ≤ c) :
    Calls Try.prog 27 #[.slice A n c, .int .i64 p] w (RetI w k) := by
  have h1 := hn.out; subst h1
  have h2 := hk.out; subst h2
  exact implRoom_any A c l p w hA h hc
theorem implValid_g {l : List AskT} {n : Nat} {b : Bool} (hn : Hid (l.length = n)) (hk : Hid (validB l = b)) (h : n ≤ 1048576) (A : Option Addr) (c : Nat) (w : World) (hA : Cells w A (asks l)) (hc : n ≤ c) :
    Calls Try.prog 24 #[.slice A n c] w (RetB w b) := by
  have h1 := hn.out; subst h1
  have h2 := hk.out; subst h2
  exact implValid_any A c l w hA h hc
theorem specValid_g {l : List AskT} {n : Nat} {b : Bool} (hn : Hid (l.length = n)) (hk : Hid (validB l = b)) (h : n ≤ 1048576) (A : Option Addr) (c : Nat) (w : World) (hA : Cells w A (asks l)) (hc : n ≤ c) :
    Calls Try.prog 22 #[.slice A n c] w (RetB w b) := by
  have h1 := hn.out; subst h1
  have h2 := hk.out; subst h2
  exact specValid_any A c l w hA h hc

theorem gotG_len (l : List AskT) (a : AskT) : (gotG l a).1.length ≤ l.length := by
  unfold gotG
  cases h1 : (validB l && askB a)
  · simp
  · cases h2 : hasA l a
    · simp
    · simp only [if_true]; exact List.length_filter_le _ _
theorem dropG_len (l : List AskT) (p : Int) : (dropG l p).1.length ≤ l.length := by
  unfold dropG
  cases h1 : (validB l && inB p 0 5)
  · simp
  · simp only [if_true]; exact List.length_filter_le _ _
theorem gotG_pos {l : List AskT} {a : AskT} {L : List AskT} {r : Int} (h : gotG l a = (L, r)) (hr : ¬ r < 0) :
    validB l = true ∧ askB a = true ∧ hasA l a = true ∧ L = l.filter (notB a.2) ∧ r = (blockN l a.2 : Int) - 1 := by
  cases h1 : (validB l && askB a)
  · rw [gotG_bad h1] at h; injection h with h2 h3; omega
  · rw [Bool.and_eq_true] at h1
    cases h2 : hasA l a
    · rw [gotG_no h1.1 h1.2 h2] at h; injection h with h2 h3; omega
    · rw [gotG_yes h1.1 h1.2 h2] at h; injection h with h3 h4; exact ⟨h1.1, h1.2, rfl, h3.symm, h4.symm⟩
theorem dropG_pos {l : List AskT} {p : Int} {L : List AskT} {r : Int} (h : dropG l p = (L, r)) (hr : ¬ r < 0) :
    validB l = true ∧ inB p 0 5 = true ∧ L = l.filter (notP p) ∧ r = (peerN l p : Int) := by
  cases h1 : (validB l && inB p 0 5)
  · rw [dropG_bad h1] at h; injection h with h2 h3; omega
  · rw [Bool.and_eq_true] at h1
    rw [dropG_ok h1.1 h1.2] at h; injection h with h3 h4; exact ⟨h1.1, h1.2, h3.symm, h4.symm⟩
theorem valid_filter {l : List AskT} (f : AskT → Bool) (h : validB l = true) : validB (l.filter f) = true := validB_iff.2 (validP_sub (validB_iff.1 h) List.filter_sublist)
theorem notB_count (l : List AskT) (y : Int) : blockN (l.filter (notB y)) y = 0 := by
  unfold blockN; rw [List.countP_eq_zero]; intro a ha; have := (List.mem_filter.1 ha).2; simpa [notB] using this
theorem notP_count (l : List AskT) (x : Int) : peerN (l.filter (notP x)) x = 0 := by
  unfold peerN; rw [List.countP_eq_zero]; intro a ha; have := (List.mem_filter.1 ha).2; simpa [notP] using this
theorem notB_has (l : List AskT) (x y : Int) : hasA (l.filter (notB y)) (x, y) = false := by
  refine hasA_no fun z hz e => ?_
  subst e; have := (List.mem_filter.1 hz).2; simp [notB] at this
theorem notP_again (l : List AskT) (x : Int) : (l.filter (notP x)).filter (notP x) = l.filter (notP x) := by rw [List.filter_filter]; simp
theorem peer_less {l : List AskT} {x y : Int} (h : hasA l (x, y) = true) (hv : validB l = true) : peerN (l.filter (notB y)) x ≤ 2 := by
  have h3 := (validB_iff.1 hv).2.2.1 x
  have hm := hasA_iff.1 h
  have : peerN (l.filter (notB y)) x < peerN l x := by
    obtain ⟨s, t, rfl⟩ := List.append_of_mem hm
    unfold peerN
    rw [List.filter_append, List.countP_append, List.countP_append, List.filter_cons]
    have e1 : notB y (x, y) = false := by simp [notB]
    rw [e1]
    have h1 := List.Sublist.countP_le (p := fun a : AskT => a.1 == x) (List.filter_sublist (p := notB y) (l := s))
    have h2 := List.Sublist.countP_le (p := fun a : AskT => a.1 == x) (List.filter_sublist (p := notB y) (l := t))
    simp only [Bool.false_eq_true, if_false, List.countP_cons, beq_self_eq_true, if_true]
    omega
  omega

def RetAsksM (w : World) (L : List AskT) (n : Nat) (r : Int) (e : Ending) (w' : World) : Prop :=
  ∃ A c, e = .returned (.tuple #[.slice A n c, .int .i64 r]) ∧ Own w' w.heap.size w'.heap.size 34 2 A c n (asks L) ∧ Below w.heap.size w w'
section
variable {l L : List AskT} {x y r : Int} {m n : Nat}
theorem implGot_g (hG : Hid (gotG l (x, y) = (L, r))) (hm : Hid (l.length = m)) (hn : Hid (L.length = n)) (h : m ≤ 1048576) (A : Option Addr) (c : Nat) (w : World) (hr : Cells w A (asks l)) (hc : m ≤ c) :
    Calls Try.prog 41 #[.slice A m c, av x y] w (RetAsksM w L n r) := by
  have h1 := hm.out; have h2 := hn.out; subst h1; subst h2
  have := implGot_any A c l x y w hr h hc
  rw [hG.out] at this
  exact this
theorem specGot_g (hG : Hid (gotG l (x, y) = (L, r))) (hm : Hid (l.length = m)) (hn : Hid (L.length = n)) (h : m ≤ 1048576) (A : Option Addr) (c : Nat) (w : World) (hr : Cells w A (asks l)) (hc : m ≤ c) :
    Calls Try.prog 40 #[.slice A m c, av x y] w (RetAsksM w L n r) := by
  have h1 := hm.out; have h2 := hn.out; subst h1; subst h2
  have := specGot_any A c l x y w hr h hc
  rw [hG.out] at this
  exact this
theorem implDrop_g (hG : Hid (dropG l x = (L, r))) (hm : Hid (l.length = m)) (hn : Hid (L.length = n)) (h : m ≤ 1048576) (A : Option Addr) (c : Nat) (w : World) (hr : Cells w A (asks l)) (hc : m ≤ c) :
    Calls Try.prog 38 #[.slice A m c, .int .i64 x] w (RetAsksM w L n r) := by
  have h1 := hm.out; have h2 := hn.out; subst h1; subst h2
  have := implDrop_any A c l x w hr h hc
  rw [hG.out] at this
  exact this
theorem specDrop_g (hG : Hid (dropG l x = (L, r))) (hm : Hid (l.length = m)) (hn : Hid (L.length = n)) (h : m ≤ 1048576) (A : Option Addr) (c : Nat) (w : World) (hr : Cells w A (asks l)) (hc : m ≤ c) :
    Calls Try.prog 37 #[.slice A m c, .int .i64 x] w (RetAsksM w L n r) := by
  have h1 := hm.out; have h2 := hn.out; subst h1; subst h2
  have := specDrop_any A c l x w hr h hc
  rw [hG.out] at this
  exact this
end

end Go.Proofs.Ytjfpemneinclfaa
