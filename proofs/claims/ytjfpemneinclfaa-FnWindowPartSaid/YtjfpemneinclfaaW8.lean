/- impl.WindowAsk. -/
import Derived.Test.YtjfpemneinclfaaW7
import Derived.Deep.RegionLaw
namespace Go.Proofs.Ytjfpemneinclfaa
open Go.RowKit

theorem own_nil (w : World) (base hi : Nat) (e : TypeId) (size : Nat) : Own w base hi e size none 0 0 [] := ⟨⟨by simp, .inl ⟨rfl, rfl⟩⟩, fun _ h => by cases h⟩

set_option maxHeartbeats 1000000 in
theorem implAsk_any (A : Option Addr) (c : Nat) (l : List AskT) (x y : Int) (en : Bool) (w : World) (hr : Cells w A (asks l)) (hm : l.length ≤ 1048576) (hlc : l.length ≤ c) :
    Calls Try.prog 30 #[.slice A l.length c, av x y, .bool en] w (RetAsksB w (askG l (x, y) en)) := by
  have b0 : Below w.heap.size w (w.alloc (.cells #[.int .i64 x, .int .i64 y] 34)) := (Below.refl _ _).alloc (Nat.le_refl _) _
  have hr0 := hr.below b0
  have hN := peerN_len l x
  have hM := blockN_len l y
  have hq := Blk.new w 34 [.int .i64 x, .int .i64 y]
  have hq0 := hq.cell 0
  have hq1 := hq.cell 1
  simp only [List.getElem?_cons_zero, List.getElem?_cons_succ] at hq0 hq1
  clear hq
  have hV := hid (implValid_any A c l _ hr0 hm hlc)
  have hask := hid (fun W => askValid_any x y W)
  cases hv : validB l
  · have hfin := hid (askG_bad (l := l) (a := (x, y)) (e := en) (by rw [hv]; rfl))
    rw [hv] at hV
    clear hv
    go_enter Try.func30, Try.ntmps30
    go_wp2_with (go_at_call 24; refine hV.out.mono ?_; rintro e w1 ⟨rfl, b1⟩)
    go_ret2
    rw [hfin.out]
    exact ⟨none, 0, rfl, own_nil _ _ _ _ _, below_step b0 b1⟩
  · rw [hv] at hV
    cases ha : askB (x, y)
    · have hfin := hid (askG_bad (l := l) (a := (x, y)) (e := en) (by rw [ha]; simp))
      rw [ha] at hask
      clear hv ha
      go_enter Try.func30, Try.ntmps30
      go_wp2_with fail
      refine hV.out.mono ?_; rintro e w1 ⟨rfl, b1⟩
      have g0 := cell_later b1 hq0
      have g1 := cell_later b1 hq1
      go_wp2_with fail
      refine (hask.out _).mono ?_; rintro e w2 ⟨rfl, b2⟩
      go_wp2_with fail
      go_ret2
      rw [hfin.out]
      exact ⟨none, 0, rfl, own_nil _ _ _ _ _, below_step (below_step b0 b1) b2⟩
    · rw [ha] at hask
      have hhas := hid (fun W hr => contains_any A c l x y W hr (by omega))
      have hpe := hid (fun W hr => toPeer_any A c l x W hr (by omega))
      have hbl := hid (fun W hr => forBlock_any A c l y W hr (by omega))
      have hcl := hid (fun W hr => cloneAsk_any A c l W hr hm)
      have key := hid (fun h3 => askG_no (l := l) (a := (x, y)) (e := en) hv ha h3)
      have key2 := hid (fun h3 => askG_yes (l := l) (a := (x, y)) (e := en) hv ha h3)
      have B1 := hid (fun (w1 w2 : World) (h1 : Below (w.alloc (.cells #[.int .i64 x, .int .i64 y] 34)).heap.size (w.alloc (.cells #[.int .i64 x, .int .i64 y] 34)) w1) (h2 : Below w1.heap.size w1 w2) => below_step (below_step b0 h1) h2)
      clear hv ha
      have hlen := hid (show (l ++ [(x, y)]).length = l.length + 1 by simp)
      cases hh : hasA l (x, y)
      · rw [hh] at hhas
        by_cases h3 : 3 ≤ peerN l x
        · have d3 : decide ((3 : Int) ≤ (peerN l x : Int)) = true := by simp; omega
          have hfin := hid (key.out (by simp [h3]))
          clear hh h3
          cases en
          all_goals
            go_enter Try.func30, Try.ntmps30
            go_wp2_with fail
            refine hV.out.mono ?_; rintro e w1 ⟨rfl, b1⟩
            have g0 := cell_later b1 hq0
            have g1 := cell_later b1 hq1
            go_wp2_with fail
            refine (hask.out _).mono ?_; rintro e w2 ⟨rfl, b2⟩
            have t2 := B1.out _ _ b1 b2
            have f0 := cell_later b2 g0
            have f1 := cell_later b2 g1
            go_wp2_with fail
            refine (hhas.out _ (hr.below t2)).mono ?_; rintro e w4 ⟨rfl, b4⟩
            have e0 := cell_later b4 f0
            have e1 := cell_later b4 f1
            have t4 := below_step t2 b4
            go_wp2_with fail
            refine (hpe.out _ (hr.below t4)).mono ?_; rintro e w5 ⟨rfl, b5⟩
            have t5 := below_step t4 b5
            go_wp2_with fail
            refine (hcl.out _ (hr.below t5)).mono ?_; rintro e w6 ⟨A6, c6, rfl, o6, b6⟩
            go_wp2_with fail
            go_ret2
            rw [hfin.out]
            exact ⟨_, _, rfl, o6.weak t5.size (Nat.le_refl _), below_step t5 b6⟩
        · have d3 : decide ((3 : Int) ≤ (peerN l x : Int)) = false := by simp; omega
          by_cases h2 : (if en then 2 else 1) ≤ blockN l y
          · have hfin := hid (key.out (by simp [h2]))
            cases en
            · have d2 : decide ((1 : Int) ≤ (blockN l y : Int)) = true := by simp at h2; simp; omega
              clear hh h3 h2
              go_enter Try.func30, Try.ntmps30
              go_wp2_with fail
              refine hV.out.mono ?_; rintro e w1 ⟨rfl, b1⟩
              have g0 := cell_later b1 hq0
              have g1 := cell_later b1 hq1
              go_wp2_with fail
              refine (hask.out _).mono ?_; rintro e w2 ⟨rfl, b2⟩
              have t2 := B1.out _ _ b1 b2
              have f0 := cell_later b2 g0
              have f1 := cell_later b2 g1
              go_wp2_with fail
              refine (hhas.out _ (hr.below t2)).mono ?_; rintro e w4 ⟨rfl, b4⟩
              have e0 := cell_later b4 f0
              have e1 := cell_later b4 f1
              have t4 := below_step t2 b4
              go_wp2_with fail
              refine (hpe.out _ (hr.below t4)).mono ?_; rintro e w5 ⟨rfl, b5⟩
              have t5 := below_step t4 b5
              have k0 := cell_later b5 e0
              have k1 := cell_later b5 e1
              go_wp2_with fail
              refine (hbl.out _ (hr.below t5)).mono ?_; rintro e w6 ⟨rfl, b6⟩
              have t6 := below_step t5 b6
              go_wp2_with fail
              refine (hcl.out _ (hr.below t6)).mono ?_; rintro e w7 ⟨A6, c6, rfl, o6, b7⟩
              go_wp2_with fail
              go_ret2
              rw [hfin.out]
              exact ⟨_, _, rfl, o6.weak t6.size (Nat.le_refl _), below_step t6 b7⟩
            · have d2 : decide ((2 : Int) ≤ (blockN l y : Int)) = true := by simp at h2; simp; omega
              clear hh h3 h2
              go_enter Try.func30, Try.ntmps30
              go_wp2_with fail
              refine hV.out.mono ?_; rintro e w1 ⟨rfl, b1⟩
              have g0 := cell_later b1 hq0
              have g1 := cell_later b1 hq1
              go_wp2_with fail
              refine (hask.out _).mono ?_; rintro e w2 ⟨rfl, b2⟩
              have t2 := B1.out _ _ b1 b2
              have f0 := cell_later b2 g0
              have f1 := cell_later b2 g1
              go_wp2_with fail
              refine (hhas.out _ (hr.below t2)).mono ?_; rintro e w4 ⟨rfl, b4⟩
              have e0 := cell_later b4 f0
              have e1 := cell_later b4 f1
              have t4 := below_step t2 b4
              go_wp2_with fail
              refine (hpe.out _ (hr.below t4)).mono ?_; rintro e w5 ⟨rfl, b5⟩
              have t5 := below_step t4 b5
              have k0 := cell_later b5 e0
              have k1 := cell_later b5 e1
              go_wp2_with fail
              refine (hbl.out _ (hr.below t5)).mono ?_; rintro e w6 ⟨rfl, b6⟩
              have t6 := below_step t5 b6
              go_wp2_with fail
              refine (hcl.out _ (hr.below t6)).mono ?_; rintro e w7 ⟨A6, c6, rfl, o6, b7⟩
              go_wp2_with fail
              go_ret2
              rw [hfin.out]
              exact ⟨_, _, rfl, o6.weak t6.size (Nat.le_refl _), below_step t6 b7⟩
          · have hfin := hid (key2.out (by simp [hh]; exact ⟨by omega, by omega⟩))
            have hcl2 : Hid (∀ W W' : World, Below w.heap.size w W → Below W.heap.size W W' → Calls Try.prog 59 #[.slice A l.length c] W' (RetAsks W' l)) := fun W W' h1 h2 => hcl.out _ (hr.below (below_step h1 h2))
            cases en
            · have d2 : decide ((1 : Int) ≤ (blockN l y : Int)) = false := by simp at h2; simp; omega
              clear hh h3 h2
              go_enter Try.func30, Try.ntmps30
              go_wp2_with fail
              refine hV.out.mono ?_; rintro e w1 ⟨rfl, b1⟩
              have g0 := cell_later b1 hq0
              have g1 := cell_later b1 hq1
              go_wp2_with fail
              refine (hask.out _).mono ?_; rintro e w2 ⟨rfl, b2⟩
              have t2 := B1.out _ _ b1 b2
              have f0 := cell_later b2 g0
              have f1 := cell_later b2 g1
              go_wp2_with fail
              refine (hhas.out _ (hr.below t2)).mono ?_; rintro e w4 ⟨rfl, b4⟩
              have e0 := cell_later b4 f0
              have e1 := cell_later b4 f1
              have t4 := below_step t2 b4
              go_wp2_with fail
              refine (hpe.out _ (hr.below t4)).mono ?_; rintro e w5 ⟨rfl, b5⟩
              have t5 := below_step t4 b5
              have k0 := cell_later b5 e0
              have k1 := cell_later b5 e1
              go_wp2_with fail
              refine (hbl.out _ (hr.below t5)).mono ?_; rintro e w6 ⟨rfl, b6⟩
              have t6 := below_step t5 b6
              have m0 := cell_later b6 k0
              have m1 := cell_later b6 k1
              clear b0 hr hr0 hq0 hq1 hV hask hhas hpe hbl hcl key key2 B1 b1 g0 g1 b2 t2 f0 f1 b4 e0 e1 t4 b5 t5 k0 k1 b6
              go_wp2_with fail
              go_region_law (first | (refine step_app rfl (.tmp 39) (.tmp 41) 25 rfl w6.heap.size Try.underlying25 info_ask rfl (by omega) (by omega) A6 l.length c6 (asks l) rfl (own_mono (o6.row.alloc _) ?_) w7.heap.size 0 1 1 [.int .i64 x, .int .i64 y] rfl rfl (cells_two _ _ _ _) (two_int _ _) (l.length + 1) (asks (l ++ [(x, y)])) rfl (asks_snoc l (x, y)) (by omega) ?_ ?_; (simp); (have hs7 := b7.size; simp at hs7 ⊢; omega); intro A8 c8 w8 ho8 hb8) | (refine step_app rfl (.tmp 39) (.tmp 41) 25 rfl w6.heap.size Try.underlying25 info_ask rfl (by omega) (by omega) A6 l.length c6 (asks l) rfl (own_mono o6.row ?_) w6.heap.size 0 1 1 [.int .i64 x, .int .i64 y] rfl rfl ((cells_two w6.drew _ _ 34).below b7) (two_int _ _) (l.length + 1) (asks (l ++ [(x, y)])) rfl (asks_snoc l (x, y)) (by omega) ?_ ?_; (simp); (have hs7 := b7.size; simp at hs7 ⊢; omega); intro A8 c8 w8 ho8 hb8) | (go_simp; go_wp2_with (go_at_call 59; ((with_reducible refine (hcl2.out w6 _ t6 ?_).mono ?_); (first | exact (Below.refl _ _).drew | exact ((Below.refl _ _).drew).alloc (Nat.le_refl _) _); rintro e w7 ⟨A6, c6, rfl, o6, b7⟩; have bb : Below w6.heap.size w6 w7 := (by first | exact below_step (Below.refl w6.heap.size w6).drew b7 | exact below_step ((Below.refl w6.heap.size w6).drew.alloc (Nat.le_refl _) _) b7); have t7 := below_step t6 bb; have n0 := cell_later bb m0; have n1 := cell_later bb m1))))
              all_goals
                go_wp2
                go_ret2
                rw [hfin.out]
                have s6 := t6.size
                have t8 : Below w.heap.size w w8 := by first | exact t7.trans (hb8.mono s6) | exact (t7.alloc t7.size _).trans (hb8.mono s6)
                refine ⟨_, _, by rw [show ((l ++ [(x, y)], true) : List AskT × Bool).1.length = l.length + 1 from hlen.out]; rfl, ?_, t8⟩
                rw [show ((l ++ [(x, y)], true) : List AskT × Bool).1.length = l.length + 1 from hlen.out]
                exact (Own.of_row ho8).weak s6 (Nat.le_refl _)
            · have d2 : decide ((2 : Int) ≤ (blockN l y : Int)) = false := by simp at h2; simp; omega
              clear hh h3 h2
              go_enter Try.func30, Try.ntmps30
              go_wp2_with fail
              refine hV.out.mono ?_; rintro e w1 ⟨rfl, b1⟩
              have g0 := cell_later b1 hq0
              have g1 := cell_later b1 hq1
              go_wp2_with fail
              refine (hask.out _).mono ?_; rintro e w2 ⟨rfl, b2⟩
              have t2 := B1.out _ _ b1 b2
              have f0 := cell_later b2 g0
              have f1 := cell_later b2 g1
              go_wp2_with fail
              refine (hhas.out _ (hr.below t2)).mono ?_; rintro e w4 ⟨rfl, b4⟩
              have e0 := cell_later b4 f0
              have e1 := cell_later b4 f1
              have t4 := below_step t2 b4
              go_wp2_with fail
              refine (hpe.out _ (hr.below t4)).mono ?_; rintro e w5 ⟨rfl, b5⟩
              have t5 := below_step t4 b5
              have k0 := cell_later b5 e0
              have k1 := cell_later b5 e1
              go_wp2_with fail
              refine (hbl.out _ (hr.below t5)).mono ?_; rintro e w6 ⟨rfl, b6⟩
              have t6 := below_step t5 b6
              have m0 := cell_later b6 k0
              have m1 := cell_later b6 k1
              clear b0 hr hr0 hq0 hq1 hV hask hhas hpe hbl hcl key key2 B1 b1 g0 g1 b2 t2 f0 f1 b4 e0 e1 t4 b5 t5 k0 k1 b6
              go_wp2_with fail
              go_region_law (first | (refine step_app rfl (.tmp 39) (.tmp 41) 25 rfl w6.heap.size Try.underlying25 info_ask rfl (by omega) (by omega) A6 l.length c6 (asks l) rfl (own_mono (o6.row.alloc _) ?_) w7.heap.size 0 1 1 [.int .i64 x, .int .i64 y] rfl rfl (cells_two _ _ _ _) (two_int _ _) (l.length + 1) (asks (l ++ [(x, y)])) rfl (asks_snoc l (x, y)) (by omega) ?_ ?_; (simp); (have hs7 := b7.size; simp at hs7 ⊢; omega); intro A8 c8 w8 ho8 hb8) | (refine step_app rfl (.tmp 39) (.tmp 41) 25 rfl w6.heap.size Try.underlying25 info_ask rfl (by omega) (by omega) A6 l.length c6 (asks l) rfl (own_mono o6.row ?_) w6.heap.size 0 1 1 [.int .i64 x, .int .i64 y] rfl rfl ((cells_two w6.drew _ _ 34).below b7) (two_int _ _) (l.length + 1) (asks (l ++ [(x, y)])) rfl (asks_snoc l (x, y)) (by omega) ?_ ?_; (simp); (have hs7 := b7.size; simp at hs7 ⊢; omega); intro A8 c8 w8 ho8 hb8) | (go_simp; go_wp2_with (go_at_call 59; ((with_reducible refine (hcl2.out w6 _ t6 ?_).mono ?_); (first | exact (Below.refl _ _).drew | exact ((Below.refl _ _).drew).alloc (Nat.le_refl _) _); rintro e w7 ⟨A6, c6, rfl, o6, b7⟩; have bb : Below w6.heap.size w6 w7 := (by first | exact below_step (Below.refl w6.heap.size w6).drew b7 | exact below_step ((Below.refl w6.heap.size w6).drew.alloc (Nat.le_refl _) _) b7); have t7 := below_step t6 bb; have n0 := cell_later bb m0; have n1 := cell_later bb m1))))
              all_goals
                go_wp2
                go_ret2
                rw [hfin.out]
                have s6 := t6.size
                have t8 : Below w.heap.size w w8 := by first | exact t7.trans (hb8.mono s6) | exact (t7.alloc t7.size _).trans (hb8.mono s6)
                refine ⟨_, _, by rw [show ((l ++ [(x, y)], true) : List AskT × Bool).1.length = l.length + 1 from hlen.out]; rfl, ?_, t8⟩
                rw [show ((l ++ [(x, y)], true) : List AskT × Bool).1.length = l.length + 1 from hlen.out]
                exact (Own.of_row ho8).weak s6 (Nat.le_refl _)
      · rw [hh] at hhas
        have hfin := hid (key.out (by simp [hh]))
        clear hh
        cases en
        all_goals
          go_enter Try.func30, Try.ntmps30
          go_wp2_with fail
          refine hV.out.mono ?_; rintro e w1 ⟨rfl, b1⟩
          have g0 := cell_later b1 hq0
          have g1 := cell_later b1 hq1
          go_wp2_with fail
          refine (hask.out _).mono ?_; rintro e w2 ⟨rfl, b2⟩
          have t2 := B1.out _ _ b1 b2
          have f0 := cell_later b2 g0
          have f1 := cell_later b2 g1
          go_wp2_with fail
          refine (hhas.out _ (hr.below t2)).mono ?_; rintro e w4 ⟨rfl, b4⟩
          have t4 := below_step t2 b4
          go_wp2_with fail
          refine (hcl.out _ (hr.below t4)).mono ?_; rintro e w6 ⟨A6, c6, rfl, o6, b6⟩
          go_wp2_with fail
          go_ret2
          rw [hfin.out]
          exact ⟨_, _, rfl, o6.weak t4.size (Nat.le_refl _), below_step t4 b6⟩

end Go.Proofs.Ytjfpemneinclfaa
