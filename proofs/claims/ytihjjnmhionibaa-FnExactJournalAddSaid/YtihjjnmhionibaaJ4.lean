/- impl.JournalAdd. -/
import Derived.Test.YtihjjnmhionibaaJ3
namespace Go.Proofs.Ytihjjnmhionibaa
open Go.RowKit

set_option maxHeartbeats 4000000 in
theorem implAdd_any (A : Option Addr) (c : Nat) (l : List RecT) (s i : Int) (t : ByteArray) (w : World) (hr : Cells w A (recs l)) (hs : SmallR l) (ht : t.size ≤ 9223372036854775807) :
    Calls Try.prog 24 #[jv A l.length c s, rv i t] w (RetJB w (addG l s (i, t)).1 (addG l s (i, t)).1.length (addG l s (i, t)).2.1 (addG l s (i, t)).2.2) := by
  have hm : l.length ≤ 1048576 := hs.1
  have hV := hid (fun W h => implJValid_any A c l s W h hs)
  have hR := hid (fun W => recordValid_any i t W ht)
  have hst := addStart w A c l s i t
  have hr0 := hid (hr.below hst.b0)
  have Hst := hid hst
  clear hr hst
  cases hv : validJ l s
  · rw [addG_bad (l := l) (s := s) (a := (i, t)) (by rw [hv]; rfl)]
    rw [hv] at hV
    clear hv
    obtain ⟨c0, c1, -, -⟩ := Hst.out.q0.two
    go_enter Try.func24, Try.ntmps24
    go_wp2_with fail
    generalize ((w.alloc (.cells #[.slice A l.length c, .int .i64 s] 29)).alloc (.cells #[.int .i64 i, .string t] 35)).alloc (.cells #[.slice none 0 0, .int .i64 0] 29) = W0 at Hst hr0 c0 c1 ⊢
    refine (hV.out _ hr0.out).mono ?_; rintro e w1 ⟨rfl, b1⟩
    have t1 := below_step Hst.out.b0 b1
    obtain ⟨y0, y1, yf0, yf1⟩ := (Hst.out.z0.below b1 Hst.out.z0.lt).two
    clear c0 c1
    go_wp2_with fail
    refine bodyPost_ret (v := .tuple #[jv none 0 0 0, .bool false]) (by simp [results, Try.results24, go_sem, y0, y1]) rfl ?_
    exact ⟨none, 0, rfl, own_nil _ _ _ _ _, (t1.setCell (by simp <;> omega) _).setCell (by simp <;> omega) _⟩
  · rw [hv] at hV
    cases ha : recB (i, t)
    · rw [addG_bad (l := l) (s := s) (a := (i, t)) (by rw [ha]; simp)]
      rw [ha] at hR
      clear hv ha
      obtain ⟨c0, c1, -, -⟩ := Hst.out.q0.two
      go_enter Try.func24, Try.ntmps24
      go_wp2_with fail
      generalize ((w.alloc (.cells #[.slice A l.length c, .int .i64 s] 29)).alloc (.cells #[.int .i64 i, .string t] 35)).alloc (.cells #[.slice none 0 0, .int .i64 0] 29) = W0 at Hst hr0 c0 c1 ⊢
      refine (hV.out _ hr0.out).mono ?_; rintro e w1 ⟨rfl, b1⟩
      obtain ⟨g0, g1, -, -⟩ := (Hst.out.r0.below b1 Hst.out.r0.lt).two
      clear c0 c1
      go_wp2_with fail
      refine (hR.out _).mono ?_; rintro e w2 ⟨rfl, b2⟩
      have t2 := below_step (below_step Hst.out.b0 b1) b2
      have hz1 := Hst.out.z0.below b1 Hst.out.z0.lt
      obtain ⟨y0, y1, yf0, yf1⟩ := (hz1.below b2 hz1.lt).two
      clear hz1 g0 g1
      go_wp2_with fail
      refine bodyPost_ret (v := .tuple #[jv none 0 0 0, .bool false]) (by simp [results, Try.results24, go_sem, y0, y1]) rfl ?_
      exact ⟨none, 0, rfl, own_nil _ _ _ _ _, (t2.setCell (by simp <;> omega) _).setCell (by simp <;> omega) _⟩
    · rw [ha] at hR
      have hle := (validJ_parts hv).1
      have hfull := hid (fun h => addG_full (l := l) (s := s) (a := (i, t)) hv ha h)
      have hok := hid (fun h => addG_ok (l := l) (s := s) (a := (i, t)) hv ha h)
      clear hv ha
      obtain ⟨c0, c1, -, -⟩ := Hst.out.q0.two
      go_enter Try.func24, Try.ntmps24
      go_wp2_with fail
      generalize ((w.alloc (.cells #[.slice A l.length c, .int .i64 s] 29)).alloc (.cells #[.int .i64 i, .string t] 35)).alloc (.cells #[.slice none 0 0, .int .i64 0] 29) = W0 at Hst hr0 c0 c1 ⊢
      refine (hV.out _ hr0.out).mono ?_; rintro e w1 ⟨rfl, b1⟩
      have d0 := cell_later b1 c0
      have d1 := cell_later b1 c1
      obtain ⟨g0, g1, -, -⟩ := (Hst.out.r0.below b1 Hst.out.r0.lt).two
      clear c0 c1
      go_wp2_with fail
      refine (hR.out _).mono ?_; rintro e w2 ⟨rfl, b2⟩
      have f0 := cell_later b2 d0
      have f1 := cell_later b2 d1
      have h0 := hid (cell_later b2 g0)
      have h1 := hid (cell_later b2 g1)
      have t2 := below_step (below_step Hst.out.b0 b1) b2
      have z2 := hid ((Hst.out.z0.below b1 Hst.out.z0.lt).below b2 (Hst.out.z0.below b1 Hst.out.z0.lt).lt)
      have hr2 := hid ((hr0.out.below b1).below b2)
      clear d0 d1 g0 g1
      go_wp2_with fail
      go_cut [6] from 16 (fun s6 wx => ∃ A3 c3 g, s6 = .pointer (some ⟨g, 0, none⟩) ∧ w2.heap.size ≤ g ∧ Blk wx g 29 (JB A3 l.length c3 s) ∧ Own wx w2.heap.size wx.heap.size 35 2 A3 c3 l.length (recs l) ∧ (∀ ad, A3 = some ad → ad.block ≠ g) ∧ Below w2.heap.size w2 wx)
      case first =>
        have hs2 : w.heap.size + 1 + 1 < w2.heap.size := z2.out.lt
        have hlt0 : w.heap.size < w2.heap.size := by omega
        have e0 := cell_later ((Below.refl w2.heap.size w2).drew.alloc (Nat.le_refl _) (.cells #[.slice none 0 0, .int .i64 0] 29)) f0
        have e1 := cell_later ((Below.refl w2.heap.size w2).drew.alloc (Nat.le_refl _) (.cells #[.slice none 0 0, .int .i64 0] 29)) f1
        go_region_with (go_at_call 58; refine (cloneRec_any _ _ _ _ ?_ hm).mono ?_; (first | exact hr2.out.below (Below.refl w2.heap.size w2).drew | exact hr2.out.below ((Below.refl w2.heap.size w2).drew.alloc (Nat.le_refl _) _)); rintro e w3 ⟨A3, c3, rfl, o3, b3⟩; have bb : Below w2.heap.size w2 w3 := (by first | exact below_step (Below.refl w2.heap.size w2).drew b3 | exact below_step ((Below.refl w2.heap.size w2).drew.alloc (Nat.le_refl _) _) b3); have p3 : Hid (Below w2.heap.size w2 w3) := bb; have k0 := cell_later bb f0; have k1 := cell_later bb f1; have k0a := cell_later (bb.alloc bb.size (.cells #[.slice none 0 0, .int .i64 0] 29)) f0; have k1a := cell_later (bb.alloc bb.size (.cells #[.slice none 0 0, .int .i64 0] 29)) f1; have O3 := hid o3; have hlt3 : w.heap.size < w3.heap.size := (by have := bb.size; omega); have B3 := hid b3; try (have pb : Blk w3 w2.heap.size 29 (JB none 0 0 0) := (Blk.new w2.drew 29 (JB none 0 0 0)).below B3.out (by simp); have Pb := hid pb; obtain ⟨n0, n1, nf0, nf1⟩ := pb.two); clear o3 b3 bb)
        all_goals
          go_wp2_with fail
          go_meet
          first
          | exact ⟨A3, c3, w3.heap.size, rfl, p3.out.size, Blk.new w3 _ (JB A3 l.length c3 s), (O3.out.below ((Below.refl _ _).alloc (Nat.le_refl _) _)).weak (Nat.le_refl _) (by simp), (fun ad h => by have := O3.out.lt ad h; omega), p3.out.alloc p3.out.size _⟩
          | exact ⟨A3, c3, w2.heap.size, rfl, Nat.le_refl _, (Pb.out.set 0 _).set 1 _, (own_set_ne (own_set_ne O3.out (by simp) _ _) (by simp) _ _).weak (by simp) (by simp [World.setCell]), (fun ad h => by have h9 := (O3.out.row.lt ad.block (by rw [h]; rfl)).1; simp at h9; omega), (p3.out.setCell (Nat.le_refl _) _).setCell (Nat.le_refl _) _⟩
      case rest =>
      obtain ⟨A3, c3, g, rfl, hg, hB, hO, hAg, b3⟩ := hcut
      have O3 := hid hO
      have KB := hid hB
      have HA := hid hAg
      have t3 := below_step t2 b3
      have z3 := hid (z2.out.below b3 z2.out.lt)
      have k0 := cell_later b3 f0
      have k1 := cell_later b3 f1
      have m0 := cell_later b3 h0.out
      have m1 := cell_later b3 h1.out
      have s23 := b3.size
      have hs2 : w.heap.size + 1 + 1 < w2.heap.size := z2.out.lt
      have s2 := t2.size
      have hlt0 : w.heap.size < wc.heap.size := by omega
      have hlt1 : w.heap.size + 1 < wc.heap.size := by omega
      have hgl := hB.lt
      clear hO hB hAg f0 f1
      by_cases h20 : 20 ≤ l.length
      · have e20 : l.length = 20 := by omega
        have E20 : ((l.length : Int) == 20) = true := by rw [e20]; rfl
        obtain ⟨y0, y1, yf0, yf1⟩ := z3.out.two
        obtain ⟨n0, n1, -, -⟩ := KB.out.two
        clear e20
        go_wp2_with fail
        rw [hfull.out h20]
        refine bodyPost_ret (v := .tuple #[jv A3 l.length c3 s, .bool false]) (by simp [results, Try.results24, go_sem, y0, y1]) rfl ?_
        exact ⟨A3, c3, rfl, (own_set_ne (own_set_ne O3.out hs2 _ _) hs2 _ _).weak s2 (by simp [World.setCell]), (t3.setCell (by simp <;> omega) _).setCell (by simp <;> omega) _⟩
      · have E20 : ((l.length : Int) == 20) = false := by simp; omega
        obtain ⟨n0, n1, -, -⟩ := KB.out.two
        go_wp2_with (at_builtin; refine wpList_app2 rfl (.tmp 28) (.tmp 30) 27 rfl w2.heap.size Try.underlying27 info_rec rfl (by omega) (by omega) A3 l.length c3 (recs l) rfl (O3.out.row.alloc _) wc.heap.size 0 1 1 [.int .i64 i, .string t] rfl rfl (cells_rec wc (.int .i64 i) (.string t) 35) (two_rec _ _) (l.length + 1) _ rfl (recs_snoc _ _ _) (by omega) (by simp; omega) ?_; intro A5 c5 w5 ho5 hg5 hA5; have bG : Below w2.heap.size wc w5 := ((Below.refl w2.heap.size wc).alloc s23 (.cells #[.int .i64 i, .string t] 35)).trans (below_grown hg5 (by simp; omega) (fun q hq => (O3.out.row.lt q hq).1)); have z5 := hid (z3.out.below bG hs2); have hne : Hid ((Value.slice A3 l.length c3).ownBlock ≠ some g) := (fun e => by rcases A3 with _ | ad <;> first | (simp [Value.ownBlock] at e; done) | (have h9 := HA.out ad rfl; simp [Value.ownBlock] at e; omega)); have k5 : Hid (Blk w5 g 29 (JB A3 l.length c3 s)) := ((hg5.block g (by simp; omega) (fun e => hne.out e.symm)).trans (KB.out.below ((Below.refl _ _).alloc (Nat.le_refl _) (.cells #[.int .i64 i, .string t] 35)) hgl)); have HA5 : Hid (∀ ad, A5 = some ad → ad.block ≠ g ∧ w2.heap.size ≤ ad.block) := (fun ad had => by have h8 := ho5.lt ad.block (by rw [had]; rfl); refine ⟨?_, h8.1⟩; rcases hA5 ad had with ⟨ad', h1, h2⟩ | h2 <;> first | (have h9 := HA.out ad' h1; omega) | (simp at h2; omega)); have Ho5 := hid ho5; clear ho5 hg5 hA5; obtain ⟨y0, y1, yf0, yf1⟩ := z5.out.two; obtain ⟨n50, n51, nf0, nf1⟩ := k5.out.two)
        rw [hok.out (by omega)]
        refine bodyPost_ret (v := .tuple #[jv A5 (l.length + 1) c5 s, .bool true]) (by simp [results, Try.results24, go_sem, y0, y1]) rfl ?_
        have hne2 : ∀ ad, A5 = some ad → ad.block ≠ w.heap.size + 1 + 1 := fun ad had => by have := (HA5.out ad had).2; omega
        have t5 : Below w.heap.size w w5 := t3.trans (bG.mono s2)
        show RetJB w (l ++ [(i, t)]) (l ++ [(i, t)]).length s true _ _
        rw [show (l ++ [(i, t)]).length = l.length + 1 by simp]
        refine ⟨A5, c5, rfl, ?_, ((t5.setCell (show w.heap.size ≤ g by omega) _).setCell (by simp <;> omega) _).setCell (by simp <;> omega) _⟩
        exact (Own.of_row (row_set (row_set (row_set Ho5.out (fun ad had => (HA5.out ad had).1) _ _) hne2 _ _) hne2 _ _)).weak s2 (Nat.le_refl _)

end Go.Proofs.Ytihjjnmhionibaa
