/- impl.JournalSync; spec.JournalAdd. -/
import Derived.Test.YtihjjnmhionibaaJ2
import Derived.Deep.RegionWith
namespace Go.Proofs.Ytihjjnmhionibaa
open Go.RowKit

set_option maxHeartbeats 1000000 in
theorem implSync_any (A : Option Addr) (c : Nat) (l : List RecT) (s : Int) (w : World) (hr : Cells w A (recs l)) (hs : SmallR l) :
    Calls Try.prog 28 #[jv A l.length c s] w (RetJ w (syncG l s).1 (syncG l s).1.length (syncG l s).2) := by
  have hm : l.length ≤ 1048576 := hs.1
  have b0 : Below w.heap.size w ((w.alloc (.cells #[.slice A l.length c, .int .i64 s] 29)).alloc (.cells #[.slice none 0 0, .int .i64 0] 29)) := ((Below.refl _ _).alloc (Nat.le_refl _) _).alloc (by simp) _
  have q0 : Hid (Blk ((w.alloc (.cells #[.slice A l.length c, .int .i64 s] 29)).alloc (.cells #[.slice none 0 0, .int .i64 0] 29)) w.heap.size 29 (JB A l.length c s)) :=
    (Blk.new w 29 (JB A l.length c s)).below ((Below.refl _ _).alloc (Nat.le_refl _) _) (by simp)
  have z0 : Hid (Blk ((w.alloc (.cells #[.slice A l.length c, .int .i64 s] 29)).alloc (.cells #[.slice none 0 0, .int .i64 0] 29)) (w.heap.size + 1) 29 (JB none 0 0 0)) := by
    have h := Blk.new (w.alloc (.cells #[.slice A l.length c, .int .i64 s] 29)) 29 (JB none 0 0 0)
    rw [show (w.alloc (.cells #[.slice A l.length c, .int .i64 s] 29)).heap.size = w.heap.size + 1 by simp] at h
    exact h
  have hr0 := hid (hr.below b0)
  have hV := hid (fun W h => implJValid_any A c l s W h hs)
  clear hr
  cases hv : validJ l s
  · have hG : syncG l s = ([], 0) := by unfold syncG; rw [hv]; rfl
    rw [hG]
    rw [hv] at hV
    clear hv hG
    obtain ⟨c0, c1, -, -⟩ := q0.out.two
    go_enter Try.func28, Try.ntmps28
    go_wp2_with fail
    generalize (w.alloc (.cells #[.slice A l.length c, .int .i64 s] 29)).alloc (.cells #[.slice none 0 0, .int .i64 0] 29) = W0 at b0 q0 z0 hr0 c0 c1 ⊢
    refine (hV.out _ hr0.out).mono ?_; rintro e w1 ⟨rfl, b1⟩
    have t1 := below_step b0 b1
    have z1 := hid (z0.out.below b1 z0.out.lt)
    obtain ⟨y0, y1, yf0, yf1⟩ := z1.out.two
    clear c0 c1
    go_wp2_with fail
    refine bodyPost_ret (v := jv none 0 0 0) (by simp [results, Try.results28, go_sem, y0, y1]) rfl ?_
    exact ⟨none, 0, rfl, own_nil _ _ _ _ _, (t1.setCell (by simp) _).setCell (by simp) _⟩
  · have hG : syncG l s = (l, (l.length : Int)) := by unfold syncG; rw [hv]; rfl
    rw [hG]
    rw [hv] at hV
    clear hv hG
    obtain ⟨c0, c1, -, -⟩ := q0.out.two
    go_enter Try.func28, Try.ntmps28
    go_wp2_with fail
    generalize (w.alloc (.cells #[.slice A l.length c, .int .i64 s] 29)).alloc (.cells #[.slice none 0 0, .int .i64 0] 29) = W0 at b0 q0 z0 hr0 c0 c1 ⊢
    refine (hV.out _ hr0.out).mono ?_; rintro e w1 ⟨rfl, b1⟩
    have t1 := below_step b0 b1
    have z1 := hid (z0.out.below b1 z0.out.lt)
    have d0 := cell_later b1 c0
    have d1 := cell_later b1 c1
    have hr1 := hid ((hr0.out.below b1).below (Below.refl w1.heap.size w1).drew)
    clear c0 c1
    go_wp2_with fail
    go_region_with (go_at_call 58; refine (cloneRec_any _ _ _ _ hr1.out hm).mono ?_; rintro e w2 ⟨A2, c2, rfl, o2, b2⟩; have O2 := hid o2; have bb := below_step (Below.refl w1.heap.size w1).drew b2; have z2 := hid (z1.out.below bb z1.out.lt); have f0 := cell_later bb d0; have f1 := cell_later bb d1; obtain ⟨y0, y1, yf0, yf1⟩ := z2.out.two; clear o2)
    all_goals
      have t2 := below_step t1 bb
      have hs1 : w.heap.size + 1 < w1.drew.heap.size := z1.out.lt
      have s1 := t1.size
      go_wp2
      refine bodyPost_ret (v := jv A2 l.length c2 l.length) (by simp [results, Try.results28, go_sem, y0, y1]) rfl ?_
      exact ⟨A2, c2, rfl, (own_set_ne (own_set_ne O2.out hs1 _ _) hs1 _ _).weak s1 (by simp [World.setCell]), (t2.setCell (by simp) _).setCell (by simp) _⟩

/-- What JournalAdd is to answer. -/
def addG (l : List RecT) (s : Int) (a : RecT) : List RecT × Int × Bool :=
  if (validJ l s && recB a) = true then (if 20 ≤ l.length then (l, s, false) else (l ++ [a], s, true)) else ([], 0, false)
theorem addG_bad {l : List RecT} {s : Int} {a : RecT} (h : (validJ l s && recB a) = false) : addG l s a = ([], 0, false) := by unfold addG; rw [h]; rfl
theorem addG_full {l : List RecT} {s : Int} {a : RecT} (h : validJ l s = true) (h2 : recB a = true) (h3 : 20 ≤ l.length) : addG l s a = (l, s, false) := by unfold addG; rw [h, h2]; simp [h3]
theorem addG_ok {l : List RecT} {s : Int} {a : RecT} (h : validJ l s = true) (h2 : recB a = true) (h3 : l.length < 20) : addG l s a = (l ++ [a], s, true) := by unfold addG; rw [h, h2]; simp; omega
theorem two_rec (i : Int) (t : ByteArray) : ∀ u ∈ [Value.int .i64 i, .string t], u.oneCell' = true := by simp [Value.oneCell']
theorem cells_rec (w : World) (u v : Value) (t : TypeId) : Cells (w.alloc (.cells #[u, v] t)) (some ⟨w.heap.size, 0, none⟩) [u, v] := (Blk.new w t [u, v]).cells

/-- Where a call with a journal, a record and a result begins: three blocks. -/
structure AddStart (w W0 : World) (A : Option Addr) (c : Nat) (l : List RecT) (s i : Int) (t : ByteArray) : Prop where
  b0 : Below w.heap.size w W0
  q0 : Blk W0 w.heap.size 29 (JB A l.length c s)
  r0 : Blk W0 (w.heap.size + 1) 35 [.int .i64 i, .string t]
  z0 : Blk W0 (w.heap.size + 1 + 1) 29 (JB none 0 0 0)
theorem addStart (w : World) (A : Option Addr) (c : Nat) (l : List RecT) (s i : Int) (t : ByteArray) :
    AddStart w (((w.alloc (.cells #[.slice A l.length c, .int .i64 s] 29)).alloc (.cells #[.int .i64 i, .string t] 35)).alloc (.cells #[.slice none 0 0, .int .i64 0] 29)) A c l s i t := by
  have e1 : (w.alloc (.cells #[.slice A l.length c, .int .i64 s] 29)).heap.size = w.heap.size + 1 := by simp
  have e2 : ((w.alloc (.cells #[.slice A l.length c, .int .i64 s] 29)).alloc (.cells #[.int .i64 i, .string t] 35)).heap.size = w.heap.size + 1 + 1 := by simp
  refine ⟨(((Below.refl _ _).alloc (Nat.le_refl _) _).alloc (by simp) _).alloc (by simp <;> omega) _, ?_, ?_, ?_⟩
  · exact ((Blk.new w 29 (JB A l.length c s)).below ((Below.refl _ _).alloc (Nat.le_refl _) _) (by simp)).below ((Below.refl _ _).alloc (Nat.le_refl _) _) (by simp <;> omega)
  · have h := (Blk.new (w.alloc (.cells #[.slice A l.length c, .int .i64 s] 29)) 35 [.int .i64 i, .string t]).below ((Below.refl _ _).alloc (Nat.le_refl _) (.cells #[.slice none 0 0, .int .i64 0] 29)) (by simp)
    rw [e1] at h
    exact h
  · have h := Blk.new ((w.alloc (.cells #[.slice A l.length c, .int .i64 s] 29)).alloc (.cells #[.int .i64 i, .string t] 35)) 29 (JB none 0 0 0)
    rw [e2] at h
    exact h

set_option maxHeartbeats 2000000 in
theorem specAdd_any (A : Option Addr) (c : Nat) (l : List RecT) (s i : Int) (t : ByteArray) (w : World) (hr : Cells w A (recs l)) (hs : SmallR l) (ht : t.size ≤ 9223372036854775807) :
    Calls Try.prog 25 #[jv A l.length c s, rv i t] w (RetJB w (addG l s (i, t)).1 (addG l s (i, t)).1.length (addG l s (i, t)).2.1 (addG l s (i, t)).2.2) := by
  have hm : l.length ≤ 1048576 := hs.1
  have hV := hid (fun W h => specJValid_any A c l s W h hs)
  have hR := hid (fun W => l13Record_any i t W ht)
  have hst := addStart w A c l s i t
  have hr0 := hid (hr.below hst.b0)
  have Hst := hid hst
  clear hr hst
  cases hv : validJ l s
  · rw [addG_bad (l := l) (s := s) (a := (i, t)) (by rw [hv]; rfl)]
    rw [hv] at hV
    clear hv
    obtain ⟨c0, c1, -, -⟩ := Hst.out.q0.two
    go_enter Try.func25, Try.ntmps25
    go_wp2_with fail
    generalize ((w.alloc (.cells #[.slice A l.length c, .int .i64 s] 29)).alloc (.cells #[.int .i64 i, .string t] 35)).alloc (.cells #[.slice none 0 0, .int .i64 0] 29) = W0 at Hst hr0 c0 c1 ⊢
    refine (hV.out _ hr0.out).mono ?_; rintro e w1 ⟨rfl, b1⟩
    have t1 := below_step Hst.out.b0 b1
    obtain ⟨y0, y1, yf0, yf1⟩ := (Hst.out.z0.below b1 Hst.out.z0.lt).two
    clear c0 c1
    go_wp2_with fail
    refine bodyPost_ret (v := .tuple #[jv none 0 0 0, .bool false]) (by simp [results, Try.results25, go_sem, y0, y1]) rfl ?_
    exact ⟨none, 0, rfl, own_nil _ _ _ _ _, (t1.setCell (by simp <;> omega) _).setCell (by simp <;> omega) _⟩
  · rw [hv] at hV
    cases ha : recB (i, t)
    · rw [addG_bad (l := l) (s := s) (a := (i, t)) (by rw [ha]; simp)]
      rw [ha] at hR
      clear hv ha
      obtain ⟨c0, c1, -, -⟩ := Hst.out.q0.two
      go_enter Try.func25, Try.ntmps25
      go_wp2_with fail
      generalize ((w.alloc (.cells #[.slice A l.length c, .int .i64 s] 29)).alloc (.cells #[.int .i64 i, .string t] 35)).alloc (.cells #[.slice none 0 0, .int .i64 0] 29) = W0 at Hst hr0 c0 c1 ⊢
      refine (hV.out _ hr0.out).mono ?_; rintro e w1 ⟨rfl, b1⟩
      obtain ⟨g0, g1, -, -⟩ := (Hst.out.r0.below b1 Hst.out.r0.lt).two
      clear c0 c1
      go_wp2_with fail
      refine (hR.out _).mono ?_; rintro e w2 ⟨rfl, b2⟩
      have t2 := below_step (below_step Hst.out.b0 b1) b2
      have hz1 := Hst.out.z0.below b1 Hst.out.z0.lt
      obtain ⟨y0, y1, yf0, yf1⟩ := (hz1.below b2 hz1.lt).two
      clear hz1 g0 g1
      go_wp2_with fail
      refine bodyPost_ret (v := .tuple #[jv none 0 0 0, .bool false]) (by simp [results, Try.results25, go_sem, y0, y1]) rfl ?_
      exact ⟨none, 0, rfl, own_nil _ _ _ _ _, (t2.setCell (by simp <;> omega) _).setCell (by simp <;> omega) _⟩
    · rw [ha] at hR
      by_cases h20 : 20 ≤ l.length
      · rw [addG_full hv ha h20]
        clear hv ha
        obtain ⟨c0, c1, -, -⟩ := Hst.out.q0.two
        go_enter Try.func25, Try.ntmps25
        go_wp2_with fail
        generalize ((w.alloc (.cells #[.slice A l.length c, .int .i64 s] 29)).alloc (.cells #[.int .i64 i, .string t] 35)).alloc (.cells #[.slice none 0 0, .int .i64 0] 29) = W0 at Hst hr0 c0 c1 ⊢
        refine (hV.out _ hr0.out).mono ?_; rintro e w1 ⟨rfl, b1⟩
        have d0 := cell_later b1 c0
        have d1 := cell_later b1 c1
        obtain ⟨g0, g1, -, -⟩ := (Hst.out.r0.below b1 Hst.out.r0.lt).two
        clear c0 c1
        go_wp2_with fail
        refine (hR.out _).mono ?_; rintro e w2 ⟨rfl, b2⟩
        have f0 := cell_later b2 d0
        have f1 := cell_later b2 d1
        have t2 := below_step (below_step Hst.out.b0 b1) b2
        have z2 := hid ((Hst.out.z0.below b1 Hst.out.z0.lt).below b2 (Hst.out.z0.below b1 Hst.out.z0.lt).lt)
        clear d0 d1 g0 g1
        go_wp2_with fail
        refine (l13Copy_any _ _ _ _ _ ((hr0.out.below b1).below b2) hm).mono ?_; rintro e w3 ⟨A3, c3, rfl, o3, b3⟩
        have O3 := hid o3
        have t3 := below_step t2 b3
        have z3 := hid (z2.out.below b3 z2.out.lt)
        obtain ⟨y0, y1, yf0, yf1⟩ := z3.out.two
        have k0 := cell_later b3 f0
        have k1 := cell_later b3 f1
        have hlt := z3.out.lt
        have hlt0 : w.heap.size < w3.heap.size := by omega
        have hs2 : w.heap.size + 1 + 1 < w2.heap.size := z2.out.lt
        have s2 := t2.size
        clear o3 f0 f1
        go_wp2_with fail
        obtain ⟨f0, f1, -, -⟩ := (((z3.out.set 0 (.slice A3 l.length c3)).set 1 (.int .i64 s)).below ((Below.refl _ _).alloc (Nat.le_refl _) (.cells #[.slice A3 l.length c3, .int .i64 s] 29)) (by simp [World.setCell]; exact hlt)).two
        refine bodyPost_ret (v := .tuple #[jv A3 l.length c3 s, .bool false]) (by simp [results, Try.results25, go_sem, f0, f1]) rfl ?_
        exact ⟨A3, c3, rfl, ((own_set_ne (own_set_ne O3.out hs2 _ _) hs2 _ _).below ((Below.refl _ _).alloc (Nat.le_refl _) _)).weak s2 (by simp [World.setCell]), ((t3.setCell (by simp <;> omega) _).setCell (by simp <;> omega) _).alloc (by simp [World.setCell]; exact t3.size) _⟩
      · rw [addG_ok hv ha (by omega)]
        show Calls _ _ _ _ (RetJB w (l ++ [(i, t)]) (l ++ [(i, t)]).length s true)
        rw [show (l ++ [(i, t)]).length = l.length + 1 by simp]
        have hm20 : l.length < 20 := by omega
        clear hv ha h20
        obtain ⟨c0, c1, -, -⟩ := Hst.out.q0.two
        go_enter Try.func25, Try.ntmps25
        go_wp2_with fail
        generalize ((w.alloc (.cells #[.slice A l.length c, .int .i64 s] 29)).alloc (.cells #[.int .i64 i, .string t] 35)).alloc (.cells #[.slice none 0 0, .int .i64 0] 29) = W0 at Hst hr0 c0 c1 ⊢
        refine (hV.out _ hr0.out).mono ?_; rintro e w1 ⟨rfl, b1⟩
        have d0 := cell_later b1 c0
        have d1 := cell_later b1 c1
        obtain ⟨g0, g1, -, -⟩ := (Hst.out.r0.below b1 Hst.out.r0.lt).two
        clear c0 c1
        go_wp2_with fail
        refine (hR.out _).mono ?_; rintro e w2 ⟨rfl, b2⟩
        have f0 := cell_later b2 d0
        have f1 := cell_later b2 d1
        have h0 := cell_later b2 g0
        have h1 := cell_later b2 g1
        have t2 := below_step (below_step Hst.out.b0 b1) b2
        have z2 := hid ((Hst.out.z0.below b1 Hst.out.z0.lt).below b2 (Hst.out.z0.below b1 Hst.out.z0.lt).lt)
        clear d0 d1 g0 g1
        go_wp2_with fail
        refine (l13Copy_any _ _ _ _ _ ((hr0.out.below b1).below b2) hm).mono ?_; rintro e w3 ⟨A3, c3, rfl, o3, b3⟩
        have O3 := hid o3
        have t3 := below_step t2 b3
        have z3 := hid (z2.out.below b3 z2.out.lt)
        have k0 := cell_later b3 f0
        have k1 := cell_later b3 f1
        have m0 := cell_later b3 h0
        have m1 := cell_later b3 h1
        have hlt := z3.out.lt
        have hlt0 : w.heap.size < w3.heap.size := by omega
        have hlt1 : w.heap.size + 1 < w3.heap.size := by omega
        have hs2 : w.heap.size + 1 + 1 < w2.heap.size := z2.out.lt
        have s2 := t2.size
        have s23 := b3.size
        clear o3 f0 f1 h0 h1
        go_wp2_with (at_builtin; refine wpList_app2 rfl (.tmp 24) (.tmp 26) 27 rfl w2.heap.size Try.underlying27 info_rec rfl (by omega) (by omega) A3 l.length c3 (recs l) rfl ((O3.out.row.alloc _).alloc _) (w3.heap.size + 1) 0 1 1 [.int .i64 i, .string t] rfl rfl (by have h9 := cells_rec (w3.alloc (.cells #[.slice A3 l.length c3, .int .i64 s] 29)) (.int .i64 i) (.string t) 35; simpa using h9) (two_rec _ _) (l.length + 1) _ rfl (recs_snoc _ _ _) (by omega) (by simp; omega) ?_; intro A5 c5 w5 ho5 hg5 hA5; have bG : Below w2.heap.size w3 w5 := (((Below.refl w2.heap.size w3).alloc s23 (.cells #[.slice A3 l.length c3, .int .i64 s] 29)).alloc (by simp; omega) (.cells #[.int .i64 i, .string t] 35)).trans (below_grown hg5 (by simp; omega) (fun q hq => (O3.out.row.lt q hq).1)); have z5 := hid (z3.out.below bG hs2); have hne : Hid ((Value.slice A3 l.length c3).ownBlock ≠ some w3.heap.size) := (fun e => by rcases A3 with _ | ad <;> first | (simp [Value.ownBlock] at e; done) | (have h9 := O3.out.lt ad rfl; simp [Value.ownBlock] at e; omega)); have k5 : Hid (Blk w5 w3.heap.size 29 (JB A3 l.length c3 s)) := ((hg5.block w3.heap.size (by simp; omega) (fun e => hne.out e.symm)).trans ((Blk.new w3 29 (JB A3 l.length c3 s)).below ((Below.refl _ _).alloc (Nat.le_refl _) (.cells #[.int .i64 i, .string t] 35)) (by simp))); have HA5 : Hid (∀ ad, A5 = some ad → ad.block ≠ w3.heap.size ∧ w2.heap.size ≤ ad.block) := (fun ad had => by have h8 := ho5.lt ad.block (by rw [had]; rfl); refine ⟨?_, h8.1⟩; rcases hA5 ad had with ⟨ad', h1, h2⟩ | h2 <;> first | (have h9 := O3.out.lt ad' h1; omega) | (simp at h2; omega)); have Ho5 := hid ho5; clear ho5 hg5 hA5; obtain ⟨y0, y1, yf0, yf1⟩ := z5.out.two; obtain ⟨n0, n1, nf0, nf1⟩ := k5.out.two)
        refine bodyPost_ret (v := .tuple #[jv A5 (l.length + 1) c5 s, .bool true]) (by simp [results, Try.results25, go_sem, y0, y1]) rfl ?_
        have hne2 : ∀ ad, A5 = some ad → ad.block ≠ w.heap.size + 1 + 1 := fun ad had => by have := (HA5.out ad had).2; omega
        have t5 : Below w.heap.size w w5 := t3.trans (bG.mono s2)
        refine ⟨A5, c5, rfl, ?_, ((t5.setCell (by simp; omega) _).setCell (by simp <;> omega) _).setCell (by simp <;> omega) _⟩
        exact (Own.of_row (row_set (row_set (row_set Ho5.out (fun ad had => (HA5.out ad had).1) _ _) hne2 _ _) hne2 _ _)).weak s2 (Nat.le_refl _)

end Go.Proofs.Ytihjjnmhionibaa
