/- Insertion sort on lists, as the library's insertion sorts do it: plain Lean, no program. -/
namespace Go.Proofs.Ytpnahccmdebifaa

/-- Sink the element at place j as long as it comes before its left neighbour. -/
def sink (lt : Int → Int → Bool) : List Int → Nat → List Int
  | l, 0 => l
  | l, j + 1 => match l[j]?, l[j + 1]? with
    | some x, some y => if lt y x then sink lt ((l.set (j + 1) x).set j y) j else l
    | _, _ => l
/-- Insertion sort from place i on, with m elements still to go. -/
def isort (lt : Int → Int → Bool) (l : List Int) : Nat → List Int
  | 0 => l
  | n + 1 => sink lt (isort lt l n) n

theorem sink_length (lt : Int → Int → Bool) (l : List Int) (j : Nat) : (sink lt l j).length = l.length := by
  induction j generalizing l with
  | zero => rfl
  | succ j ih =>
    unfold sink
    split
    · split
      · rw [ih]; simp
      · rfl
    · rfl
theorem isort_length (lt : Int → Int → Bool) (l : List Int) (n : Nat) : (isort lt l n).length = l.length := by
  induction n with
  | zero => rfl
  | succ n ih => unfold isort; rw [sink_length, ih]

/-- One round of the inner loop on split lists. -/
theorem sink_split (lt : Int → Int → Bool) (xs : List Int) (y : Int) (rest : List Int) :
    ∃ as bs, xs = as ++ bs ∧ (∀ b ∈ bs, lt y b = true) ∧ (∀ a, as.getLast? = some a → lt y a = false) ∧ sink lt (xs ++ y :: rest) xs.length = as ++ y :: bs ++ rest := by
  generalize hn : xs.length = n
  induction n generalizing xs rest with
  | zero =>
    have : xs = [] := List.eq_nil_of_length_eq_zero hn
    subst this
    exact ⟨[], [], rfl, by simp, by simp, rfl⟩
  | succ n ih =>
    obtain ⟨ys, x, rfl⟩ : ∃ ys x, xs = ys ++ [x] := ⟨xs.dropLast, xs.getLast (by intro h; simp [h] at hn), (List.dropLast_concat_getLast _).symm⟩
    have hl : ys.length = n := by simpa using hn
    have g1 : (ys ++ [x] ++ y :: rest)[n]? = some x := by rw [List.append_assoc, List.getElem?_append_right (by omega)]; simp [hl]
    have g2 : (ys ++ [x] ++ y :: rest)[n + 1]? = some y := by rw [List.append_assoc, List.getElem?_append_right (by omega)]; simp [hl]
    cases hlt : lt y x
    · refine ⟨ys ++ [x], [], by simp, by simp, fun a ha => ?_, ?_⟩
      · simp at ha; subst ha; exact hlt
      · unfold sink; rw [g1, g2]; simp [hlt]
    · have hs : ((ys ++ [x] ++ y :: rest).set (n + 1) x).set n y = ys ++ y :: x :: rest := by
        rw [List.append_assoc, List.set_append_right _ _ (by omega), List.set_append_right _ _ (by omega)]
        have e1 : n + 1 - ys.length = 1 := by omega
        have e2 : n - ys.length = 0 := by omega
        rw [e1, e2]; rfl
      obtain ⟨as, bs, h1, h2, h3, h4⟩ := ih ys (x :: rest) hl
      refine ⟨as, bs ++ [x], by rw [h1, List.append_assoc], fun b hb => ?_, h3, ?_⟩
      · rcases List.mem_append.1 hb with h | h
        · exact h2 b h
        · simp at h; subst h; exact hlt
      · unfold sink; rw [g1, g2]; simp only [hlt, if_true]
        rw [hs, h4]; simp

/-- A strict order by a key, ties by the number. -/
def bef (key : Int → Int) (a b : Int) : Prop := key a < key b ∨ (key a = key b ∧ a < b)
theorem bef_trans {key : Int → Int} {a b c : Int} (h : bef key a b) (k : bef key b c) : bef key a c := by unfold bef at *; omega
theorem bef_irrefl {key : Int → Int} {a : Int} : ¬ bef key a a := by unfold bef; omega
theorem bef_total {key : Int → Int} {a b : Int} (h : a ≠ b) : bef key a b ∨ bef key b a := by unfold bef; omega

def byKey (key : Int → Int) (a b : Int) : Bool := decide (key a < key b)

/-- After n rounds the first n elements are sorted, of the same elements as before, and the others are where they were: for a list that was strictly ascending. -/
theorem isort_inv (key : Int → Int) (l : List Int) (hl : l.Pairwise (· < ·)) (n : Nat) (hn : n ≤ l.length) :
    ∃ s, isort (byKey key) l n = s ++ l.drop n ∧ s.Perm (l.take n) ∧ s.Pairwise (bef key) := by
  induction n with
  | zero => exact ⟨[], by simp [isort], by simp, List.Pairwise.nil⟩
  | succ n ih =>
    obtain ⟨s, h1, h2, h3⟩ := ih (by omega)
    have hlt : n < l.length := by omega
    have hsl : s.length = n := by rw [h2.length_eq, List.length_take]; omega
    have hd : l.drop n = l[n] :: l.drop (n + 1) := List.drop_eq_getElem_cons hlt
    obtain ⟨as, bs, e1, e2, e3, e4⟩ := sink_split (byKey key) s l[n] (l.drop (n + 1))
    have hall : ∀ a ∈ s, a < l[n] := by
      intro a ha
      have ha2 : a ∈ l.take n := h2.mem_iff.1 ha
      have hp : (l.take n ++ l.drop n).Pairwise (· < ·) := by rw [List.take_append_drop]; exact hl
      exact (List.pairwise_append.1 hp).2.2 a ha2 l[n] (by rw [hd]; exact List.mem_cons_self)
    refine ⟨as ++ l[n] :: bs, ?_, ?_, ?_⟩
    · unfold isort; rw [h1, hd]
      rw [hsl] at e4; rw [e4]
    · rw [List.take_succ_eq_append_getElem hlt]
      refine List.perm_middle.trans ?_
      rw [← e1]
      exact ((List.Perm.cons _ h2)).trans (List.perm_append_singleton _ _).symm
    · subst e1
      have hp := List.pairwise_append.1 h3
      refine List.pairwise_append.2 ⟨hp.1, List.pairwise_cons.2 ⟨fun b hb => .inl ?_, hp.2.1⟩, fun a ha b hb => ?_⟩
      · have := e2 b hb; simpa [byKey] using this
      · rcases List.mem_cons.1 hb with rfl | hb
        · have has : as ≠ [] := by intro h; simp [h] at ha
          have hlast := e3 (as.getLast has) (List.getLast?_eq_some_getLast has)
          have hk : key (as.getLast has) ≤ key l[n] := by simpa [byKey] using hlast
          have hak : key a ≤ key (as.getLast has) := by
            have h5 := List.dropLast_concat_getLast has
            rw [← h5] at ha
            rcases List.mem_append.1 ha with h | h
            · have h6 := hp.1; rw [← h5] at h6
              have := (List.pairwise_append.1 h6).2.2 a h (as.getLast has) (by simp)
              unfold bef at this; omega
            · simp at h; rw [h]; omega
          have := hall a (List.mem_append_left _ ha)
          unfold bef; omega
        · exact hp.2.2 a ha b hb

/-- Ascending order: the same, for whatever list. -/
theorem isort_asc (l : List Int) (n : Nat) (hn : n ≤ l.length) :
    ∃ s, isort (fun a b => decide (a < b)) l n = s ++ l.drop n ∧ s.Perm (l.take n) ∧ s.Pairwise (· ≤ ·) := by
  induction n with
  | zero => exact ⟨[], by simp [isort], by simp, List.Pairwise.nil⟩
  | succ n ih =>
    obtain ⟨s, h1, h2, h3⟩ := ih (by omega)
    have hlt : n < l.length := by omega
    have hsl : s.length = n := by rw [h2.length_eq, List.length_take]; omega
    have hd : l.drop n = l[n] :: l.drop (n + 1) := List.drop_eq_getElem_cons hlt
    obtain ⟨as, bs, e1, e2, e3, e4⟩ := sink_split (fun a b => decide (a < b)) s l[n] (l.drop (n + 1))
    refine ⟨as ++ l[n] :: bs, ?_, ?_, ?_⟩
    · unfold isort; rw [h1, hd]
      rw [hsl] at e4; rw [e4]
    · rw [List.take_succ_eq_append_getElem hlt]
      refine List.perm_middle.trans ?_
      rw [← e1]
      exact ((List.Perm.cons _ h2)).trans (List.perm_append_singleton _ _).symm
    · subst e1
      have hp := List.pairwise_append.1 h3
      refine List.pairwise_append.2 ⟨hp.1, List.pairwise_cons.2 ⟨fun b hb => ?_, hp.2.1⟩, fun a ha b hb => ?_⟩
      · have := e2 b hb; simp at this; omega
      · rcases List.mem_cons.1 hb with rfl | hb
        · have has : as ≠ [] := by intro h; simp [h] at ha
          have hlast := e3 (as.getLast has) (List.getLast?_eq_some_getLast has)
          have hk : as.getLast has ≤ l[n] := by simpa using hlast
          have h5 := List.dropLast_concat_getLast has
          rw [← h5] at ha
          rcases List.mem_append.1 ha with h | h
          · have h6 := hp.1; rw [← h5] at h6
            have := (List.pairwise_append.1 h6).2.2 a h (as.getLast has) (by simp)
            omega
          · simp at h; omega
        · exact hp.2.2 a ha b hb

/-- Two lists that are sorted by one strict order and have the same members are equal. -/
theorem sorted_ext {r : Int → Int → Prop} (hirr : ∀ a, ¬ r a a) (htr : ∀ a b c, r a b → r b c → r a c) :
    ∀ (l m : List Int), l.Pairwise r → m.Pairwise r → (∀ x, x ∈ l ↔ x ∈ m) → l = m
  | [], [], _, _, _ => rfl
  | [], b :: m, _, _, h => by have := (h b).2 (by simp); simp at this
  | a :: l, [], _, _, h => by have := (h a).1 (by simp); simp at this
  | a :: l, b :: m, hl, hm, h => by
    have hl' := List.pairwise_cons.1 hl
    have hm' := List.pairwise_cons.1 hm
    have hab : a = b := by
      rcases List.mem_cons.1 ((h a).1 (by simp)) with h1 | h1
      · exact h1
      · rcases List.mem_cons.1 ((h b).2 (by simp)) with h2 | h2
        · exact h2.symm
        · exact (hirr a (htr _ _ _ (hl'.1 b h2) (hm'.1 a h1))).elim
    subst hab
    congr 1
    refine sorted_ext hirr htr l m hl'.2 hm'.2 fun x => ?_
    constructor
    · intro hx
      rcases List.mem_cons.1 ((h x).1 (List.mem_cons_of_mem _ hx)) with h1 | h1
      · subst h1; exact (hirr x (hl'.1 x hx)).elim
      · exact h1
    · intro hx
      rcases List.mem_cons.1 ((h x).2 (List.mem_cons_of_mem _ hx)) with h1 | h1
      · subst h1; exact (hirr x (hm'.1 x hx)).elim
      · exact h1

theorem sink_mem (lt : Int → Int → Bool) (l : List Int) (j : Nat) : ∀ m ∈ sink lt l j, m ∈ l := by
  induction j generalizing l with
  | zero => exact fun m h => h
  | succ j ih =>
    intro m hm
    unfold sink at hm
    split at hm
    · rename_i x y hx hy
      split at hm
      · have h1 := ih _ m hm
        rcases List.mem_or_eq_of_mem_set h1 with h | h
        · rcases List.mem_or_eq_of_mem_set h with h | h
          · exact h
          · subst h; exact List.mem_of_getElem? hx
        · subst h; exact List.mem_of_getElem? hy
      · exact hm
    · exact hm
theorem isort_mem (lt : Int → Int → Bool) (l : List Int) (n : Nat) : ∀ m ∈ isort lt l n, m ∈ l := by
  induction n with
  | zero => exact fun m h => h
  | succ n ih => exact fun m h => ih m (sink_mem lt _ n m h)

theorem swap_eq (l : List Int) (j : Nat) (x y : Int) (hx : l[j]? = some x) (hy : l[j + 1]? = some y) (lt : Int → Int → Bool) (h : lt y x = true) : sink lt l (j + 1) = sink lt ((l.set (j + 1) x).set j y) j := by
  conv => lhs; unfold sink
  rw [hx, hy]; simp [h]
theorem sink_stop (l : List Int) (j : Nat) (x y : Int) (hx : l[j]? = some x) (hy : l[j + 1]? = some y) (lt : Int → Int → Bool) (h : lt y x = false) : sink lt l (j + 1) = l := by
  conv => lhs; unfold sink
  rw [hx, hy]; simp [h]

end Go.Proofs.Ytpnahccmdebifaa
