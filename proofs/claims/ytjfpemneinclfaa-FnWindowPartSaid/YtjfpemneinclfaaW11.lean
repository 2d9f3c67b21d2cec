/- impl.WindowDrop, impl.WindowGot. -/
import Derived.Test.YtjfpemneinclfaaW10
namespace Go.Proofs.Ytjfpemneinclfaa
open Go.RowKit

theorem notP_eq (x : Int) : (fun a : AskT => !(a.1 == x)) = notP x := rfl
theorem drop_count (l : List AskT) (x : Int) : (l.length : Int) - ((l.filter (notP x)).length : Int) = (peerN l x : Int) := by
  have := part_count (fun a : AskT => a.1 == x) l
  rw [notP_eq] at this
  unfold peerN; omega
theorem got_count (l : List AskT) (y : Int) : (l.length : Int) - ((l.filter (notB y)).length : Int) = (blockN l y : Int) := by
  have := part_count (fun a : AskT => a.2 == y) l
  have e : (fun a : AskT => !(a.2 == y)) = notB y := rfl
  rw [e] at this
  unfold blockN; omega

set_option maxHeartbeats 1000000 in
theorem implDrop_any (A : Option Addr) (c : Nat) (l : List AskT) (x : Int) (w : World) (hr : Cells w A (asks l)) (hm : l.length ≤ 1048576) (hlc : l.length ≤ c) :
    Calls Try.prog 38 #[.slice A l.length c, .int .i64 x] w (RetAsksI w (dropG l x)) := by
  have b0 : Below w.heap.size w (w.alloc (.cells #[.int .i64 x] 3)) := (Below.refl _ _).alloc (Nat.le_refl _) _
  have hr0 := hr.below b0
  have hq := Blk.new w 3 [.int .i64 x]
  have hq0 := hq.cell 0
  simp only [List.getElem?_cons_zero] at hq0
  clear hq
  have hV := hid (implValid_any A c l _ hr0 hm hlc)
  cases hv : validB l
  · have hfin := hid (dropG_bad (l := l) (p := x) (by rw [hv]; rfl))
    rw [hv] at hV
    clear hv
    go_enter Try.func38, Try.ntmps38
    go_wp2_with (go_at_call 24; refine hV.out.mono ?_; rintro e w1 ⟨rfl, b1⟩)
    go_ret2
    exact retAsksI_of hfin.out rfl rfl (own_nil _ _ _ _ _) (below_step b0 b1)
  · rw [hv] at hV
    cases ha : inB x 0 5
    · have hfin := hid (dropG_bad (l := l) (p := x) (by rw [ha]; simp))
      clear hv
      go_enter Try.func38, Try.ntmps38
      go_wp2_with fail
      refine hV.out.mono ?_; rintro e w1 ⟨rfl, b1⟩
      have g0 := cell_later b1 hq0
      go_wp2_with (go_at_call 54; refine (isPeer_any _ _).mono ?_; rintro e w' ⟨rfl, rfl⟩)
      go_ret2
      exact retAsksI_of hfin.out rfl rfl (own_nil _ _ _ _ _) (below_step b0 b1)
    · have hfin := hid (dropG_ok hv ha)
      have hcnt := hid (drop_count l x)
      have hfl : (l.filter (notP x)).length ≤ l.length := List.length_filter_le _ _
      clear hv
      go_enter Try.func38, Try.ntmps38
      go_wp2_with fail
      refine hV.out.mono ?_; rintro e w1 ⟨rfl, b1⟩
      have g0 := cell_later b1 hq0
      go_wp2_with fail
      refine (isPeer_any _ _).mono ?_; rintro e w' ⟨rfl, rfl⟩
      have t1 := below_step b0 b1
      have s1 : w.heap.size < w1.heap.size := by have := b1.size; simp at this; omega
      go_wp2_with fail
      refine (cloneAsk_any _ _ _ _ (hr.below t1) hm).mono ?_; rintro e w2 ⟨A2, c2, rfl, o2, b2⟩
      have m0 := hid (cell_later b2 g0)
      have hpr : PredWindowDrop (fun a => a.1 == x) w.heap.size w1.heap.size w2.heap.size w2 := fun W p q hch => dropF_any p q x w.heap.size W (cell_chg hch s1 (Nat.lt_of_lt_of_le s1 b2.size) m0.out)
      have hdl := hid (delWindowDrop_any (fun a => a.1 == x) w.heap.size A2 c2 w1.heap.size w2.heap.size l w2 o2 hm hpr)
      rw [notP_eq] at hdl
      have O2 := hid o2
      clear o2 g0 hq0 hr0
      go_wp2_with fail
      refine hdl.out.mono ?_; rintro e w3 ⟨rfl, o3, ch3⟩
      have t3 := below_chg (below_step t1 b2) ch3 t1.size
      have O3 := hid o3
      clear o3
      go_wp2_with fail
      go_ret2
      exact retAsksI_of hfin.out hcnt.out rfl (O3.out.weak t1.size ch3.size) t3

set_option maxHeartbeats 1000000 in
theorem implGot_any (A : Option Addr) (c : Nat) (l : List AskT) (x y : Int) (w : World) (hr : Cells w A (asks l)) (hm : l.length ≤ 1048576) (hlc : l.length ≤ c) :
    Calls Try.prog 41 #[.slice A l.length c, av x y] w (RetAsksI w (gotG l (x, y))) := by
  have b0 : Below w.heap.size w (w.alloc (.cells #[.int .i64 x, .int .i64 y] 34)) := (Below.refl _ _).alloc (Nat.le_refl _) _
  have hr0 := hr.below b0
  have hq := Blk.new w 34 [.int .i64 x, .int .i64 y]
  have hq0 := hq.cell 0
  have hq1 := hq.cell 1
  simp only [List.getElem?_cons_zero, List.getElem?_cons_succ] at hq0 hq1
  clear hq
  have hV := hid (implValid_any A c l _ hr0 hm hlc)
  have hask := hid (fun W => askValid_any x y W)
  cases hv : validB l
  · have hfin := hid (gotG_bad (l := l) (a := (x, y)) (by rw [hv]; rfl))
    rw [hv] at hV
    clear hv
    go_enter Try.func41, Try.ntmps41
    go_wp2_with (go_at_call 24; refine hV.out.mono ?_; rintro e w1 ⟨rfl, b1⟩)
    go_ret2
    exact retAsksI_of hfin.out rfl rfl (own_nil _ _ _ _ _) (below_step b0 b1)
  · rw [hv] at hV
    cases ha : askB (x, y)
    · have hfin := hid (gotG_bad (l := l) (a := (x, y)) (by rw [ha]; simp))
      rw [ha] at hask
      clear hv ha
      go_enter Try.func41, Try.ntmps41
      go_wp2_with fail
      refine hV.out.mono ?_; rintro e w1 ⟨rfl, b1⟩
      have g0 := cell_later b1 hq0
      have g1 := cell_later b1 hq1
      go_wp2_with fail
      refine (hask.out _).mono ?_; rintro e w2 ⟨rfl, b2⟩
      go_wp2_with fail
      go_ret2
      exact retAsksI_of hfin.out rfl rfl (own_nil _ _ _ _ _) (below_step (below_step b0 b1) b2)
    · rw [ha] at hask
      have hhas := hid (fun W hr => contains_any A c l x y W hr (by omega))
      cases hh : hasA l (x, y)
      · rw [hh] at hhas
        have hfin := hid (gotG_no hv ha hh)
        clear hv ha hh
        go_enter Try.func41, Try.ntmps41
        go_wp2_with fail
        refine hV.out.mono ?_; rintro e w1 ⟨rfl, b1⟩
        have g0 := cell_later b1 hq0
        have g1 := cell_later b1 hq1
        go_wp2_with fail
        refine (hask.out _).mono ?_; rintro e w2 ⟨rfl, b2⟩
        have f0 := cell_later b2 g0
        have f1 := cell_later b2 g1
        have t2 := below_step (below_step b0 b1) b2
        go_wp2_with fail
        refine (hhas.out _ (hr.below t2)).mono ?_; rintro e w3 ⟨rfl, b3⟩
        have t3 := below_step t2 b3
        go_wp2_with fail
        refine (cloneAsk_any _ _ _ _ (hr.below t3) hm).mono ?_; rintro e w4 ⟨A2, c2, rfl, o2, b4⟩
        go_wp2_with fail
        go_ret2
        exact retAsksI_of hfin.out rfl rfl (o2.weak t3.size (Nat.le_refl _)) (below_step t3 b4)
      · rw [hh] at hhas
        have hfin := hid (gotG_yes hv ha hh)
        have hcnt := hid (got_count l y)
        have hfl : (l.filter (notB y)).length ≤ l.length := List.length_filter_le _ _
        clear hv ha hh
        go_enter Try.func41, Try.ntmps41
        go_wp2_with fail
        refine hV.out.mono ?_; rintro e w1 ⟨rfl, b1⟩
        have g0 := cell_later b1 hq0
        have g1 := cell_later b1 hq1
        go_wp2_with fail
        refine (hask.out _).mono ?_; rintro e w2 ⟨rfl, b2⟩
        have f0 := cell_later b2 g0
        have f1 := cell_later b2 g1
        have t2 := below_step (below_step b0 b1) b2
        go_wp2_with fail
        refine (hhas.out _ (hr.below t2)).mono ?_; rintro e w3 ⟨rfl, b3⟩
        have t3 := below_step t2 b3
        have e1 := cell_later b3 f1
        have s3 : w.heap.size < w3.heap.size := by have h1 := b1.size; have h2 := b2.size; have h3 := b3.size; simp at h1; omega
        go_wp2_with fail
        refine (cloneAsk_any _ _ _ _ (hr.below t3) hm).mono ?_; rintro e w4 ⟨A2, c2, rfl, o2, b4⟩
        have m1 := hid (cell_later b4 e1)
        have hpr : PredWindowGot (fun a => a.2 == y) w.heap.size w3.heap.size w4.heap.size w4 := fun W p q hch => gotF_any p q y w.heap.size W (cell_chg hch s3 (Nat.lt_of_lt_of_le s3 b4.size) m1.out)
        have hdl := hid (delWindowGot_any (fun a => a.2 == y) w.heap.size A2 c2 w3.heap.size w4.heap.size l w4 o2 hm hpr)
        rw [show (fun a : AskT => !(a.2 == y)) = notB y from rfl] at hdl
        have O2 := hid o2
        clear o2 hr0 hq0 hq1 g0 g1 f0 f1 e1
        go_wp2_with fail
        refine hdl.out.mono ?_; rintro e w5 ⟨rfl, o5, ch5⟩
        have t5 := below_chg (below_step t3 b4) ch5 t3.size
        have O5 := hid o5
        clear o5
        go_wp2_with fail
        go_ret2
        exact retAsksI_of hfin.out (by have h1 := hcnt.out; omega) rfl (O5.out.weak t3.size ch5.size) t5

end Go.Proofs.Ytjfpemneinclfaa
