/- Plain facts on the ranking of peers: no program. -/
import Derived.Test.YtdncdfcldnamiaaRanked
namespace Go.Proofs.Ytdncdfcldnamiaa

instance bef_dec (key : Int → Int) (a b : Int) : Decidable (bef key a b) := by unfold bef; infer_instance

theorem idx_asc (n : Nat) : (idx n).Pairwise (· < ·) := by
  unfold idx
  rw [List.pairwise_map]
  exact List.pairwise_lt_range.imp (fun h => by simp; exact h)

/-- All peers, the best first. -/
def rankL (zs : List Int) : List Int := keyL (giv zs) (idx zs.length)
def topL (zs : List Int) : List Int := (rankL zs).take 3
theorem rankL_length (zs : List Int) : (rankL zs).length = zs.length := by unfold rankL keyL; rw [isort_length, idx_length]
theorem rankL_spec (zs : List Int) : (rankL zs).Perm (idx zs.length) ∧ (rankL zs).Pairwise (bef (giv zs)) := by
  obtain ⟨s, h1, h2, h3⟩ := isort_inv (giv zs) (idx zs.length) (idx_asc _) (idx zs.length).length (Nat.le_refl _)
  have e : rankL zs = s := by unfold rankL keyL; rw [h1, List.drop_length, List.append_nil]
  rw [e]
  rw [List.take_length] at h2
  exact ⟨h2, h3⟩
theorem rankL_mem {zs : List Int} {x : Int} : x ∈ rankL zs ↔ x ∈ idx zs.length := (rankL_spec zs).1.mem_iff

/-- How many come before i. -/
def rk (zs : List Int) (i : Int) : Nat := (idx zs.length).countP fun j => decide (bef (giv zs) j i)
theorem rank_at {key : Int → Int} {S : List Int} (h : S.Pairwise (bef key)) {p : Nat} {i : Int} (hp : S[p]? = some i) : S.countP (fun j => decide (bef key j i)) = p := by
  have hlt : p < S.length := (List.getElem?_eq_some_iff.1 hp).1
  have hi : S[p] = i := by rw [List.getElem?_eq_getElem hlt] at hp; injection hp
  have e : S = S.take p ++ i :: S.drop (p + 1) := by rw [← hi, ← List.drop_eq_getElem_cons hlt, List.take_append_drop]
  have hs : (S.take p ++ i :: S.drop (p + 1)).Pairwise (bef key) := e ▸ h
  have hs2 := List.pairwise_append.1 hs
  have hs3 := List.pairwise_cons.1 hs2.2.1
  rw [e, List.countP_append, List.countP_cons]
  have h1 : (S.take p).countP (fun j => decide (bef key j i)) = p := by
    rw [List.countP_eq_length.2 (fun a ha => by simpa using hs2.2.2 a ha i (by simp)), List.length_take]; omega
  have h2 : (S.drop (p + 1)).countP (fun j => decide (bef key j i)) = 0 := by
    rw [List.countP_eq_zero]
    intro a ha
    have := hs3.1 a ha
    simp only [decide_eq_true_eq]
    exact fun h => bef_irrefl (bef_trans this h)
  rw [h1, h2, if_neg (by simpa using bef_irrefl)]
  omega
theorem top_iff {zs : List Int} {i : Int} (hi : i ∈ idx zs.length) : i ∈ topL zs ↔ rk zs i < 3 := by
  have hS := rankL_spec zs
  have hc : rk zs i = (rankL zs).countP (fun j => decide (bef (giv zs) j i)) := (hS.1.countP_eq _).symm
  obtain ⟨p, hp⟩ := List.getElem?_of_mem (rankL_mem.2 hi)
  rw [hc, rank_at hS.2 hp]
  have hnd : (rankL zs).Nodup := hS.2.imp (fun h e => by subst e; exact bef_irrefl h)
  unfold topL
  constructor
  · intro h
    obtain ⟨q, hq⟩ := List.getElem?_of_mem h
    rw [List.getElem?_take] at hq
    split at hq
    · rename_i hq3
      have := rank_at hS.2 hq
      rw [rank_at hS.2 hp] at this
      omega
    · cases hq
  · intro h
    apply List.mem_of_getElem? (i := p)
    rw [List.getElem?_take, if_pos h, hp]

theorem asc_spec {l : List Int} (hn : l.Nodup) : (ascL l).Perm l ∧ (ascL l).Pairwise (· < ·) := by
  obtain ⟨s, h1, h2, h3⟩ := isort_asc l l.length (Nat.le_refl _)
  have e : ascL l = s := by unfold ascL; show isort (fun a b => decide (a < b)) l l.length = s; rw [h1, List.drop_length, List.append_nil]
  rw [List.take_length] at h2
  rw [e]
  refine ⟨h2, ?_⟩
  have hnd : s.Nodup := h2.symm.nodup hn
  exact List.Pairwise.imp₂ (fun a b (h : a ≤ b) (h' : a ≠ b) => by omega) h3 hnd
theorem asc_ext {l m : List Int} (hl : l.Pairwise (· < ·)) (hm : m.Pairwise (· < ·)) (h : ∀ x, x ∈ l ↔ x ∈ m) : l = m :=
  sorted_ext (fun a h => Int.lt_irrefl a h) (fun _ _ _ h k => Int.lt_trans h k) l m hl hm h

theorem rank_nodup (zs : List Int) : (rankL zs).Nodup := (rankL_spec zs).2.imp (fun h e => by subst e; exact bef_irrefl h)
theorem best_eq (zs : List Int) : bestL zs = (idx zs.length).filter fun i => decide (i ∈ topL zs) := by
  have h : (bestL zs).Perm (topL zs) ∧ (bestL zs).Pairwise (· < ·) := asc_spec ((rank_nodup zs).sublist (List.take_sublist 3 _))
  refine asc_ext h.2 ((idx_asc _).filter _) fun x => ?_
  rw [h.1.mem_iff, List.mem_filter, decide_eq_true_eq]
  constructor
  · intro hx; exact ⟨rankL_mem.1 (List.mem_of_mem_take hx), hx⟩
  · exact fun hx => hx.2
theorem others_eq (zs : List Int) : othersL zs = (idx zs.length).filter fun i => decide (¬ i ∈ topL zs) := by
  have h : (othersL zs).Perm ((rankL zs).drop 3) ∧ (othersL zs).Pairwise (· < ·) := asc_spec ((rank_nodup zs).sublist (List.drop_sublist 3 _))
  refine asc_ext h.2 ((idx_asc _).filter _) fun x => ?_
  rw [h.1.mem_iff, List.mem_filter, decide_eq_true_eq]
  have hnd := rank_nodup zs
  have hsp : rankL zs = (rankL zs).take 3 ++ (rankL zs).drop 3 := (List.take_append_drop 3 _).symm
  constructor
  · intro hx
    refine ⟨rankL_mem.1 (List.mem_of_mem_drop hx), fun ht => ?_⟩
    rw [hsp] at hnd
    exact (List.nodup_append.1 hnd).2.2 x ht x hx rfl
  · rintro ⟨hx, ht⟩
    have hm := rankL_mem.2 hx
    rw [hsp] at hm
    rcases List.mem_append.1 hm with h | h
    · exact (ht h).elim
    · exact h
theorem others_length (zs : List Int) : (othersL zs).length = zs.length - 3 := by
  show (ascL ((rankL zs).drop 3)).length = _
  rw [ascL_length, List.length_drop, rankL_length]
theorem best_length (zs : List Int) : (bestL zs).length = min 3 zs.length := by
  show (ascL ((rankL zs).take 3)).length = _
  rw [ascL_length, List.length_take, rankL_length]

/-- The peer that is served by turns, or -1. -/
def turnV (zs : List Int) (t : Nat) : Int := if othersL zs = [] then -1 else (othersL zs).getD (t % (othersL zs).length) (-1)
/-- All that are served. -/
def servedV (zs : List Int) (t : Nat) : List Int := (idx zs.length).filter fun i => decide (i ∈ topL zs ∨ i = turnV zs t)

theorem turn_none {zs : List Int} {t : Nat} (h : othersL zs = []) : turnV zs t = -1 := by simp [turnV, h]
theorem turn_some {zs : List Int} {t : Nat} (h : othersL zs ≠ []) : (othersL zs)[t % (othersL zs).length]? = some (turnV zs t) := by
  have hl : 0 < (othersL zs).length := List.length_pos_iff.2 h
  have hlt : t % (othersL zs).length < (othersL zs).length := Nat.mod_lt _ hl
  simp [turnV, h, List.getD_eq_getElem?_getD, List.getElem?_eq_getElem hlt]
theorem turn_mem {zs : List Int} {t : Nat} (h : othersL zs ≠ []) : turnV zs t ∈ othersL zs := List.mem_of_getElem? (turn_some h)
theorem turn_out {zs : List Int} {t : Nat} : turnV zs t ∉ topL zs := by
  by_cases h : othersL zs = []
  · rw [turn_none h]
    intro hm
    obtain ⟨k, _, hk⟩ := idx_mem.1 (rankL_mem.1 (List.mem_of_mem_take hm))
    omega
  · have := turn_mem (t := t) h
    rw [others_eq, List.mem_filter, decide_eq_true_eq] at this
    exact this.2
theorem turn_range {zs : List Int} {t : Nat} (h : othersL zs ≠ []) : turnV zs t ∈ idx zs.length := by
  have := turn_mem (t := t) h
  rw [others_eq, List.mem_filter] at this
  exact this.1
theorem turn_nonneg {zs : List Int} {t : Nat} : 0 ≤ turnV zs t ↔ othersL zs ≠ [] := by
  constructor
  · intro h h0; rw [turn_none h0] at h; omega
  · intro h; obtain ⟨k, _, hk⟩ := idx_mem.1 (turn_range (t := t) h); omega

theorem served_none {zs : List Int} {t : Nat} (h : othersL zs = []) : ascL (bestL zs) = servedV zs t := by
  have hb : (bestL zs).Nodup := by rw [best_eq]; exact ((idx_asc _).filter _).imp (fun h => by omega)
  have ha := asc_spec hb
  refine asc_ext ha.2 ((idx_asc _).filter _) fun x => ?_
  rw [ha.1.mem_iff, best_eq, servedV, List.mem_filter, List.mem_filter, decide_eq_true_eq, decide_eq_true_eq, turn_none h]
  constructor
  · exact fun hx => ⟨hx.1, .inl hx.2⟩
  · rintro ⟨hx, h1 | h1⟩
    · exact ⟨hx, h1⟩
    · obtain ⟨k, _, hk⟩ := idx_mem.1 hx; omega
theorem served_some {zs : List Int} {t : Nat} (h : othersL zs ≠ []) : ascL (bestL zs ++ [turnV zs t]) = servedV zs t := by
  have hmem : ∀ x, x ∈ bestL zs ↔ x ∈ idx zs.length ∧ x ∈ topL zs := fun x => by rw [best_eq, List.mem_filter, decide_eq_true_eq]
  have hb : (bestL zs ++ [turnV zs t]).Nodup := by
    rw [List.nodup_append]
    refine ⟨by rw [best_eq]; exact ((idx_asc _).filter _).imp (fun h => by omega), by simp, ?_⟩
    intro a ha b hb e
    simp at hb
    subst hb; subst e
    exact turn_out ((hmem _).1 ha).2
  have ha := asc_spec hb
  refine asc_ext ha.2 ((idx_asc _).filter _) fun x => ?_
  rw [ha.1.mem_iff, servedV, List.mem_filter, decide_eq_true_eq, List.mem_append, hmem]
  constructor
  · rintro (hx | hx)
    · exact ⟨hx.1, .inl hx.2⟩
    · simp at hx; subst hx; exact ⟨turn_range h, .inr rfl⟩
  · rintro ⟨hx, h1 | h1⟩
    · exact .inl ⟨hx, h1⟩
    · exact .inr (by simp [h1])
theorem served_length (zs : List Int) (t : Nat) : (servedV zs t).length = min zs.length 4 := by
  by_cases h : othersL zs = []
  · rw [← served_none h, ascL_length, best_length]
    have := others_length zs; rw [h] at this; simp at this; omega
  · rw [← served_some h, ascL_length, List.length_append, best_length]
    have h1 := others_length zs
    have h2 := List.length_pos_iff.2 h
    simp; omega

/-! ### Choosing the greatest, as the reference does it -/
/-- After i peers looked at: k is the first of the best among those not in out, or -1. -/
def Sel (zs out : List Int) (i : Nat) (k : Int) : Prop :=
  (k = -1 ∧ ∀ j : Nat, j < i → (j : Int) ∈ out) ∨ ∃ q : Nat, k = q ∧ q < i ∧ (q : Int) ∉ out ∧ ∀ j : Nat, j < i → (j : Int) ∉ out → j ≠ q → bef (giv zs) q j
theorem Sel.start (zs out : List Int) : Sel zs out 0 (-1) := .inl ⟨rfl, fun j h => by omega⟩
theorem Sel.pass {zs out : List Int} {i : Nat} {k : Int} (h : Sel zs out i k) (hi : (i : Int) ∈ out) : Sel zs out (i + 1) k := by
  rcases h with ⟨hk, h⟩ | ⟨q, hk, hq, hn, h⟩
  · refine .inl ⟨hk, fun j hj => ?_⟩
    rcases Nat.lt_or_ge j i with hlt | hge
    · exact h j hlt
    · obtain rfl : j = i := by omega
      exact hi
  · refine .inr ⟨q, hk, by omega, hn, fun j hj hjn hne => ?_⟩
    rcases Nat.lt_or_ge j i with hlt | hge
    · exact h j hlt hjn hne
    · obtain rfl : j = i := by omega
      exact (hjn hi).elim
theorem Sel.first {zs out : List Int} {i : Nat} (h : Sel zs out i (-1)) (hi : (i : Int) ∉ out) : Sel zs out (i + 1) i := by
  rcases h with ⟨_, h⟩ | ⟨q, hk, _⟩
  · refine .inr ⟨i, rfl, by omega, hi, fun j hj hjn hne => ?_⟩
    exact (hjn (h j (by omega))).elim
  · omega
theorem Sel.better {zs out : List Int} {i q : Nat} (h : Sel zs out i q) (hi : (i : Int) ∉ out) (hlt : giv zs i < giv zs q) : Sel zs out (i + 1) i := by
  rcases h with ⟨hk, _⟩ | ⟨q', hk, hq, hn, h⟩
  · omega
  · obtain rfl : q = q' := by omega
    refine .inr ⟨i, rfl, by omega, hi, fun j hj hjn hne => ?_⟩
    by_cases hjq : j = q
    · subst hjq; exact .inl hlt
    · exact bef_trans (.inl hlt) (h j (by omega) hjn hjq)
theorem Sel.keep {zs out : List Int} {i q : Nat} (h : Sel zs out i q) (hge : giv zs q ≤ giv zs i) : Sel zs out (i + 1) q := by
  rcases h with ⟨hk, _⟩ | ⟨q', hk, hq, hn, h⟩
  · omega
  · obtain rfl : q = q' := by omega
    refine .inr ⟨q, rfl, by omega, hn, fun j hj hjn hne => ?_⟩
    rcases Nat.lt_or_ge j i with hlt | hge2
    · exact h j hlt hjn hne
    · obtain rfl : j = i := by omega
      unfold bef; omega
theorem Sel.done {zs : List Int} {m : Nat} {k : Int} (hm : m < zs.length) (h : Sel zs ((rankL zs).take m) zs.length k) : (rankL zs)[m]? = some k := by
  have hS := rankL_spec zs
  have hnd := rank_nodup zs
  have hlt : m < (rankL zs).length := by rw [rankL_length]; exact hm
  have e : rankL zs = (rankL zs).take m ++ (rankL zs)[m] :: (rankL zs).drop (m + 1) := by rw [← List.drop_eq_getElem_cons hlt, List.take_append_drop]
  obtain ⟨p, hp, hpe⟩ := idx_mem.1 (rankL_mem.1 (List.getElem_mem hlt))
  have hs : ((rankL zs).take m ++ (rankL zs)[m] :: (rankL zs).drop (m + 1)).Pairwise (bef (giv zs)) := e ▸ hS.2
  have hn2 : ((rankL zs).take m ++ (rankL zs)[m] :: (rankL zs).drop (m + 1)).Nodup := e ▸ hnd
  have hpn : (p : Int) ∉ (rankL zs).take m := by
    intro hx
    exact (List.nodup_append.1 hn2).2.2 _ hx _ (by rw [← hpe]; exact List.mem_cons_self) rfl
  rw [List.getElem?_eq_getElem hlt]
  congr 1
  rcases h with ⟨_, h⟩ | ⟨q, hk, hq, hqn, h⟩
  · exact (hpn (h p hp)).elim
  · rw [hk, hpe]
    by_cases hpq : p = q
    · rw [hpq]
    · have h1 := h p hp hpn hpq
      have hqm : (q : Int) ∈ rankL zs := rankL_mem.2 (idx_mem.2 ⟨q, hq, rfl⟩)
      rw [e] at hqm
      rcases List.mem_append.1 hqm with hx | hx
      · exact (hqn hx).elim
      · rcases List.mem_cons.1 hx with hx | hx
        · rw [hx, hpe] at h1; exact (bef_irrefl h1).elim
        · have h2 := (List.pairwise_cons.1 (List.pairwise_append.1 hs).2.1).1 _ hx
          rw [hpe] at h2
          exact (bef_irrefl (bef_trans h1 h2)).elim

end Go.Proofs.Ytdncdfcldnamiaa
