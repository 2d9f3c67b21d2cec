/- JournalCrash. -/
import Derived.Test.YtihjjnmhionibaaJ4
namespace Go.Proofs.Ytihjjnmhionibaa
open Go.RowKit

/-- What JournalCrash is to answer: the number that is kept. -/
def crashN (l : List RecT) (s k : Int) : Nat := (min (l.length : Int) (s + min k 20)).toNat
def crashG (l : List RecT) (s k : Int) : List RecT × Nat := if (validJ l s && decide (0 ≤ k)) = true then (l.take (crashN l s k), crashN l s k) else ([], 0)
theorem inB_iff (x lo hi : Int) : inB x lo hi = true ↔ lo ≤ x ∧ x ≤ hi := by simp [inB]
theorem crashG_bad {l : List RecT} {s k : Int} (h : (validJ l s && decide (0 ≤ k)) = false) : crashG l s k = ([], 0) := by unfold crashG; rw [h]; rfl
theorem crashG_ok {l : List RecT} {s k : Int} (h : validJ l s = true) (h2 : 0 ≤ k) : crashG l s k = (l.take (crashN l s k), crashN l s k) := by unfold crashG; rw [h]; simp [h2]

theorem cloneRec_n {n : Nat} {L : List RecT} (A : Option Addr) (c : Nat) (w : World) (hL : Hid (L.length = n)) (hr : Cells w A (recs L)) (hm : n ≤ 1048576) :
    Calls Try.prog 58 #[.slice A n c] w (fun e w' => ∃ A' c', e = .returned (.slice A' n c') ∧ Own w' w.heap.size w'.heap.size 35 2 A' c' n (recs L) ∧ Below w.heap.size w w') := by
  have h := hL.out
  subst h
  exact cloneRec_any A c L w hr hm

set_option maxHeartbeats 1000000 in
theorem implCrash_any (A : Option Addr) (c : Nat) (l : List RecT) (s k : Int) (w : World) (hr : Cells w A (recs l)) (hc : l.length ≤ c) (hs : SmallR l) (hk1 : -9223372036854775808 ≤ k) (hk2 : k ≤ 9223372036854775807) :
    Calls Try.prog 30 #[jv A l.length c s, .int .i64 k] w (RetJ w (crashG l s k).1 (crashG l s k).2 (crashG l s k).2) := by
  have hm : l.length ≤ 1048576 := hs.1
  have b0 : Below w.heap.size w ((w.alloc (.cells #[.slice A l.length c, .int .i64 s] 29)).alloc (.cells #[.slice none 0 0, .int .i64 0] 29)) := ((Below.refl _ _).alloc (Nat.le_refl _) _).alloc (by simp) _
  have q0 : Hid (Blk ((w.alloc (.cells #[.slice A l.length c, .int .i64 s] 29)).alloc (.cells #[.slice none 0 0, .int .i64 0] 29)) w.heap.size 29 (JB A l.length c s)) :=
    (Blk.new w 29 (JB A l.length c s)).below ((Below.refl _ _).alloc (Nat.le_refl _) _) (by simp)
  have z0 : Hid (Blk ((w.alloc (.cells #[.slice A l.length c, .int .i64 s] 29)).alloc (.cells #[.slice none 0 0, .int .i64 0] 29)) (w.heap.size + 1) 29 (JB none 0 0 0)) := by
    have h := Blk.new (w.alloc (.cells #[.slice A l.length c, .int .i64 s] 29)) 29 (JB none 0 0 0)
    rw [show (w.alloc (.cells #[.slice A l.length c, .int .i64 s] 29)).heap.size = w.heap.size + 1 by simp] at h
    exact h
  have hr0 := hid (hr.below b0)
  have hV := hid (fun W h => implJValid_any A c l s W h hs)
  clear hr
  cases hv : validJ l s
  · have hG := hid (crashG_bad (l := l) (s := s) (k := k) (by rw [hv]; rfl))
    rw [hv] at hV
    clear hv
    obtain ⟨c0, c1, -, -⟩ := q0.out.two
    go_enter Try.func30, Try.ntmps30
    go_wp2_with fail
    generalize (w.alloc (.cells #[.slice A l.length c, .int .i64 s] 29)).alloc (.cells #[.slice none 0 0, .int .i64 0] 29) = W0 at b0 q0 z0 hr0 c0 c1 ⊢
    refine (hV.out _ hr0.out).mono ?_; rintro e w1 ⟨rfl, b1⟩
    have t1 := below_step b0 b1
    have z1 := hid (z0.out.below b1 z0.out.lt)
    obtain ⟨y0, y1, yf0, yf1⟩ := z1.out.two
    clear c0 c1
    go_wp2_with fail
    rw [hG.out]
    refine bodyPost_ret (v := jv none 0 0 0) (by simp [results, Try.results30, go_sem, y0, y1]) rfl ?_
    exact ⟨none, 0, rfl, own_nil _ _ _ _ _, (t1.setCell (by simp) _).setCell (by simp) _⟩
  · obtain ⟨hle, hin, -⟩ := validJ_parts hv
    rw [inB_iff] at hin
    obtain ⟨hs0, hs1⟩ := hin
    by_cases hk : 0 ≤ k
    · have hG := hid (crashG_ok hv hk)
      rw [hv] at hV
      clear hv
      have hkt : decide (k < 0) = false := by simp; omega
      have hw1 : IntKind.i64.wrap ((l.length : Int) - s) = (l.length : Int) - s := IntWalk.i64_in _ (by omega)
      obtain ⟨c0, c1, -, -⟩ := q0.out.two
      go_enter Try.func30, Try.ntmps30
      go_wp2_with fail
      generalize (w.alloc (.cells #[.slice A l.length c, .int .i64 s] 29)).alloc (.cells #[.slice none 0 0, .int .i64 0] 29) = W0 at b0 q0 z0 hr0 c0 c1 ⊢
      refine (hV.out _ hr0.out).mono ?_; rintro e w1 ⟨rfl, b1⟩
      have t1 := below_step b0 b1
      have z1 := hid (z0.out.below b1 z0.out.lt)
      have hr1 := hid (hr0.out.below b1)
      have d0 := cell_later b1 c0
      have d1 := cell_later b1 c1
      clear c0 c1
      by_cases hkl : k ≤ (l.length : Int) - s
      · obtain ⟨n, hn⟩ : ∃ n : Nat, s + k = (n : Int) := ⟨(s + k).toNat, by omega⟩
        have hnl : n ≤ l.length := by omega
        have hnc : Hid (crashN l s k = n) := by unfold crashN Hid; omega
        have hlt : Hid ((l.take n).length = n) := by unfold Hid; simp; omega
        have hr1t : Hid (Cells w1 A (recs (l.take n))) := by
          have h9 := hr1.out.take (n * 2)
          rw [recs_take] at h9
          exact h9
        go_wp2_with fail
        refine (cloneRec_n _ _ _ hlt hr1t.out (by omega)).mono ?_; rintro e w2 ⟨A2, c2, rfl, o2, b2⟩
        have O2 := hid o2
        have t2 := below_step t1 b2
        have z2 := hid (z1.out.below b2 z1.out.lt)
        obtain ⟨y0, y1, yf0, yf1⟩ := z2.out.two
        have hs1' : w.heap.size + 1 < w1.heap.size := z1.out.lt
        have s1 := t1.size
        clear o2
        go_wp2_with fail
        rw [hG.out, hnc.out]
        refine bodyPost_ret (v := jv A2 n c2 n) (by simp [results, Try.results30, go_sem, y0, y1]) rfl ?_
        exact ⟨A2, c2, rfl, (own_set_ne (own_set_ne O2.out hs1' _ _) hs1' _ _).weak s1 (by simp [World.setCell]), (t2.setCell (by simp) _).setCell (by simp) _⟩
      · have hn : s + ((l.length : Int) - s) = (l.length : Int) := by omega
        have hnc : Hid (crashN l s k = l.length) := by unfold crashN Hid; omega
        have htk : Hid (l.take l.length = l) := List.take_length
        go_wp2_with fail
        refine (cloneRec_any _ _ _ _ hr1.out hm).mono ?_; rintro e w2 ⟨A2, c2, rfl, o2, b2⟩
        have O2 := hid o2
        have t2 := below_step t1 b2
        have z2 := hid (z1.out.below b2 z1.out.lt)
        obtain ⟨y0, y1, yf0, yf1⟩ := z2.out.two
        have hs1' : w.heap.size + 1 < w1.heap.size := z1.out.lt
        have s1 := t1.size
        clear o2
        go_wp2_with fail
        rw [hG.out, hnc.out, htk.out]
        refine bodyPost_ret (v := jv A2 l.length c2 l.length) (by simp [results, Try.results30, go_sem, y0, y1]) rfl ?_
        exact ⟨A2, c2, rfl, (own_set_ne (own_set_ne O2.out hs1' _ _) hs1' _ _).weak s1 (by simp [World.setCell]), (t2.setCell (by simp) _).setCell (by simp) _⟩
    · have hG := hid (crashG_bad (l := l) (s := s) (k := k) (by simp [hk]))
      rw [hv] at hV
      have hkt : decide (k < 0) = true := by simp; omega
      clear hv
      obtain ⟨c0, c1, -, -⟩ := q0.out.two
      go_enter Try.func30, Try.ntmps30
      go_wp2_with fail
      generalize (w.alloc (.cells #[.slice A l.length c, .int .i64 s] 29)).alloc (.cells #[.slice none 0 0, .int .i64 0] 29) = W0 at b0 q0 z0 hr0 c0 c1 ⊢
      refine (hV.out _ hr0.out).mono ?_; rintro e w1 ⟨rfl, b1⟩
      have t1 := below_step b0 b1
      have z1 := hid (z0.out.below b1 z0.out.lt)
      obtain ⟨y0, y1, yf0, yf1⟩ := z1.out.two
      clear c0 c1
      go_wp2_with fail
      rw [hG.out]
      refine bodyPost_ret (v := jv none 0 0 0) (by simp [results, Try.results30, go_sem, y0, y1]) rfl ?_
      exact ⟨none, 0, rfl, own_nil _ _ _ _ _, (t1.setCell (by simp) _).setCell (by simp) _⟩

set_option maxHeartbeats 1000000 in
theorem specCrash_any (A : Option Addr) (c : Nat) (l : List RecT) (s k : Int) (w : World) (hr : Cells w A (recs l)) (hc : l.length ≤ c) (hs : SmallR l) (hk1 : -9223372036854775808 ≤ k) (hk2 : k ≤ 9223372036854775807) :
    Calls Try.prog 32 #[jv A l.length c s, .int .i64 k] w (RetJ w (crashG l s k).1 (crashG l s k).2 (crashG l s k).2) := by
  have hm : l.length ≤ 1048576 := hs.1
  have b0 : Below w.heap.size w ((w.alloc (.cells #[.slice A l.length c, .int .i64 s] 29)).alloc (.cells #[.slice none 0 0, .int .i64 0] 29)) := ((Below.refl _ _).alloc (Nat.le_refl _) _).alloc (by simp) _
  have q0 : Hid (Blk ((w.alloc (.cells #[.slice A l.length c, .int .i64 s] 29)).alloc (.cells #[.slice none 0 0, .int .i64 0] 29)) w.heap.size 29 (JB A l.length c s)) :=
    (Blk.new w 29 (JB A l.length c s)).below ((Below.refl _ _).alloc (Nat.le_refl _) _) (by simp)
  have z0 : Hid (Blk ((w.alloc (.cells #[.slice A l.length c, .int .i64 s] 29)).alloc (.cells #[.slice none 0 0, .int .i64 0] 29)) (w.heap.size + 1) 29 (JB none 0 0 0)) := by
    have h := Blk.new (w.alloc (.cells #[.slice A l.length c, .int .i64 s] 29)) 29 (JB none 0 0 0)
    rw [show (w.alloc (.cells #[.slice A l.length c, .int .i64 s] 29)).heap.size = w.heap.size + 1 by simp] at h
    exact h
  have hr0 := hid (hr.below b0)
  have hV := hid (fun W h => specJValid_any A c l s W h hs)
  clear hr
  cases hv : validJ l s
  · have hG := hid (crashG_bad (l := l) (s := s) (k := k) (by rw [hv]; rfl))
    rw [hv] at hV
    clear hv
    obtain ⟨c0, c1, -, -⟩ := q0.out.two
    go_enter Try.func32, Try.ntmps32
    go_wp2_with fail
    generalize (w.alloc (.cells #[.slice A l.length c, .int .i64 s] 29)).alloc (.cells #[.slice none 0 0, .int .i64 0] 29) = W0 at b0 q0 z0 hr0 c0 c1 ⊢
    refine (hV.out _ hr0.out).mono ?_; rintro e w1 ⟨rfl, b1⟩
    have t1 := below_step b0 b1
    have z1 := hid (z0.out.below b1 z0.out.lt)
    obtain ⟨y0, y1, yf0, yf1⟩ := z1.out.two
    clear c0 c1
    go_wp2_with fail
    rw [hG.out]
    refine bodyPost_ret (v := jv none 0 0 0) (by simp [results, Try.results32, go_sem, y0, y1]) rfl ?_
    exact ⟨none, 0, rfl, own_nil _ _ _ _ _, (t1.setCell (by simp) _).setCell (by simp) _⟩
  · obtain ⟨hle, hin, -⟩ := validJ_parts hv
    rw [inB_iff] at hin
    obtain ⟨hs0, hs1⟩ := hin
    by_cases hk : 0 ≤ k
    · have hG := hid (crashG_ok hv hk)
      rw [hv] at hV
      clear hv
      have hkt : decide (k < 0) = false := by simp; omega
      have hw1 : IntKind.i64.wrap ((l.length : Int) - s) = (l.length : Int) - s := IntWalk.i64_in _ (by omega)
      obtain ⟨c0, c1, -, -⟩ := q0.out.two
      go_enter Try.func32, Try.ntmps32
      go_wp2_with fail
      generalize (w.alloc (.cells #[.slice A l.length c, .int .i64 s] 29)).alloc (.cells #[.slice none 0 0, .int .i64 0] 29) = W0 at b0 q0 z0 hr0 c0 c1 ⊢
      refine (hV.out _ hr0.out).mono ?_; rintro e w1 ⟨rfl, b1⟩
      have t1 := below_step b0 b1
      have z1 := hid (z0.out.below b1 z0.out.lt)
      have hr1 := hid (hr0.out.below b1)
      have d0 := cell_later b1 c0
      have d1 := cell_later b1 c1
      clear c0 c1
      have hlt0 : w.heap.size < w1.heap.size := by have := z1.out.lt; omega
      by_cases hk20 : k ≤ 20
      · by_cases hkl : (l.length : Int) ≤ s + k
        · have hnc : Hid (crashN l s k = l.length) := by unfold crashN Hid; omega
          have htk : Hid (l.take l.length = l) := List.take_length
          go_wp2_with (at_builtin; refine wpList_app rfl (.tmp 23) (.tmp 27) 27 rfl w1.heap.size Try.underlying27 info_rec rfl (by omega) (by omega) _ 0 0 [] rfl (own_empty w1 35 2 (Nat.le_refl _)) A l.length c (recs l) rfl (recs_length _) (hr1.out.below ((Below.refl _ _).alloc (Nat.le_refl _) _)) (recs_one _) l.length (recs l) (by omega) rfl (by omega) (by simp) ?_; intro A2 c2 w2 ho hb; have O2 := hid (Own.of_row ho); have b2 : Below w1.heap.size w1 w2 := ((Below.refl w1.heap.size w1).alloc (Nat.le_refl _) _).trans hb; have z2 := hid (z1.out.below b2 z1.out.lt); obtain ⟨y0, y1, yf0, yf1⟩ := z2.out.two; clear ho hb)
          have t2 := below_step t1 b2
          have hs1' : w.heap.size + 1 < w1.heap.size := z1.out.lt
          have s1 := t1.size
          rw [hG.out, hnc.out, htk.out]
          refine bodyPost_ret (v := jv A2 l.length c2 l.length) (by simp [results, Try.results32, go_sem, y0, y1]) rfl ?_
          exact ⟨A2, c2, rfl, (own_set_ne (own_set_ne O2.out hs1' _ _) hs1' _ _).weak s1 (by simp [World.setCell]), (t2.setCell (by simp) _).setCell (by simp) _⟩
        · obtain ⟨n, hn⟩ : ∃ n : Nat, s + k = (n : Int) := ⟨(s + k).toNat, by omega⟩
          have hnl : n ≤ l.length := by omega
          have hnc : Hid (crashN l s k = n) := by unfold crashN Hid; omega
          have hlt : Hid ((l.take n).length = n) := by unfold Hid; simp; omega
          have hr1t : Hid (Cells w1 A (recs (l.take n))) := by
            have h9 := hr1.out.take (n * 2)
            rw [recs_take] at h9
            exact h9
          have hkl2 : (n : Int) < l.length := by omega
          clear hkl
          go_wp2_with (at_builtin; refine wpList_app rfl (.tmp 23) (.tmp 27) 27 rfl w1.heap.size Try.underlying27 info_rec rfl (by omega) (by omega) _ 0 0 [] rfl (own_empty w1 35 2 (Nat.le_refl _)) A n c (recs (l.take n)) rfl ((recs_length _).trans (by rw [hlt.out])) (hr1t.out.below ((Below.refl _ _).alloc (Nat.le_refl _) _)) (recs_one _) n (recs (l.take n)) (by omega) rfl (by omega) (by simp) ?_; intro A2 c2 w2 ho hb; have O2 := hid (Own.of_row ho); have b2 : Below w1.heap.size w1 w2 := ((Below.refl w1.heap.size w1).alloc (Nat.le_refl _) _).trans hb; have z2 := hid (z1.out.below b2 z1.out.lt); obtain ⟨y0, y1, yf0, yf1⟩ := z2.out.two; clear ho hb)
          have t2 := below_step t1 b2
          have hs1' : w.heap.size + 1 < w1.heap.size := z1.out.lt
          have s1 := t1.size
          rw [hG.out, hnc.out]
          refine bodyPost_ret (v := jv A2 n c2 n) (by simp [results, Try.results32, go_sem, y0, y1]) rfl ?_
          exact ⟨A2, c2, rfl, (own_set_ne (own_set_ne O2.out hs1' _ _) hs1' _ _).weak s1 (by simp [World.setCell]), (t2.setCell (by simp) _).setCell (by simp) _⟩
      · have hnc : Hid (crashN l s k = l.length) := by unfold crashN Hid; omega
        have htk : Hid (l.take l.length = l) := List.take_length
        go_wp2_with (at_builtin; refine wpList_app rfl (.tmp 23) (.tmp 27) 27 rfl w1.heap.size Try.underlying27 info_rec rfl (by omega) (by omega) _ 0 0 [] rfl (own_empty w1 35 2 (Nat.le_refl _)) A l.length c (recs l) rfl (recs_length _) (hr1.out.below ((Below.refl _ _).alloc (Nat.le_refl _) _)) (recs_one _) l.length (recs l) (by omega) rfl (by omega) (by simp) ?_; intro A2 c2 w2 ho hb; have O2 := hid (Own.of_row ho); have b2 : Below w1.heap.size w1 w2 := ((Below.refl w1.heap.size w1).alloc (Nat.le_refl _) _).trans hb; have z2 := hid (z1.out.below b2 z1.out.lt); obtain ⟨y0, y1, yf0, yf1⟩ := z2.out.two; clear ho hb)
        have t2 := below_step t1 b2
        have hs1' : w.heap.size + 1 < w1.heap.size := z1.out.lt
        have s1 := t1.size
        rw [hG.out, hnc.out, htk.out]
        refine bodyPost_ret (v := jv A2 l.length c2 l.length) (by simp [results, Try.results32, go_sem, y0, y1]) rfl ?_
        exact ⟨A2, c2, rfl, (own_set_ne (own_set_ne O2.out hs1' _ _) hs1' _ _).weak s1 (by simp [World.setCell]), (t2.setCell (by simp) _).setCell (by simp) _⟩
    · have hG := hid (crashG_bad (l := l) (s := s) (k := k) (by simp [hk]))
      rw [hv] at hV
      have hkt : decide (k < 0) = true := by simp; omega
      clear hv
      obtain ⟨c0, c1, -, -⟩ := q0.out.two
      go_enter Try.func32, Try.ntmps32
      go_wp2_with fail
      generalize (w.alloc (.cells #[.slice A l.length c, .int .i64 s] 29)).alloc (.cells #[.slice none 0 0, .int .i64 0] 29) = W0 at b0 q0 z0 hr0 c0 c1 ⊢
      refine (hV.out _ hr0.out).mono ?_; rintro e w1 ⟨rfl, b1⟩
      have t1 := below_step b0 b1
      have z1 := hid (z0.out.below b1 z0.out.lt)
      obtain ⟨y0, y1, yf0, yf1⟩ := z1.out.two
      clear c0 c1
      go_wp2_with fail
      rw [hG.out]
      refine bodyPost_ret (v := jv none 0 0 0) (by simp [results, Try.results32, go_sem, y0, y1]) rfl ?_
      exact ⟨none, 0, rfl, own_nil _ _ _ _ _, (t1.setCell (by simp) _).setCell (by simp) _⟩

end Go.Proofs.Ytihjjnmhionibaa
