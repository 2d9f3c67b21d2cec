/- WindowRoom, WindowAsk. -/
import Derived.Test.YtjfpemneinclfaaW6
namespace Go.Proofs.Ytjfpemneinclfaa
open Go.RowKit

def RetI (w : World) (n : Int) (e : Ending) (w' : World) : Prop := e = .returned (.int .i64 n) ∧ Below w.heap.size w w'
noncomputable def roomG (l : List AskT) (p : Int) : Int := if (validB l && inB p 0 5) = true then 3 - peerN l p else -1
theorem roomG_bad {l : List AskT} {p : Int} (h : (validB l && inB p 0 5) = false) : roomG l p = -1 := by unfold roomG; rw [h]; rfl
theorem roomG_ok {l : List AskT} {p : Int} (h : validB l = true) (h2 : inB p 0 5 = true) : roomG l p = 3 - peerN l p := by unfold roomG; rw [h, h2]; rfl

set_option maxHeartbeats 400000 in
theorem specRoom_any (A : Option Addr) (c : Nat) (l : List AskT) (p : Int) (w : World) (hr : Cells w A (asks l)) (hm : l.length ≤ 1048576) (hlc : l.length ≤ c) :
    Calls Try.prog 26 #[.slice A l.length c, .int .i64 p] w (RetI w (roomG l p)) := by
  have hN := peerN_len l p
  cases hv : validB l
  · have hfin := hid (roomG_bad (l := l) (p := p) (by rw [hv]; rfl))
    have hV := hid (specValid_any A c l w hr hm hlc)
    rw [hv] at hV
    clear hv
    go_enter Try.func26, Try.ntmps26
    go_wp2_with (go_at_call 22; refine hV.out.mono ?_; rintro e w1 ⟨rfl, b1⟩)
    go_ret
    exact ⟨ret_int hfin.out.symm, b1⟩
  · have hV := hid (specValid_any A c l w hr hm hlc)
    rw [hv] at hV
    cases hi : inB p 0 5
    · have hfin := hid (roomG_bad (l := l) (p := p) (by rw [hi]; simp))
      clear hv
      go_enter Try.func26, Try.ntmps26
      go_wp2_with (first | (go_at_call 22; refine hV.out.mono ?_; rintro e w1 ⟨rfl, b1⟩) | (go_at_call 53; refine (l6In_any _ _ _ _).mono ?_; rintro e w' ⟨rfl, rfl⟩))
      go_ret
      exact ⟨ret_int hfin.out.symm, b1⟩
    · have hfin := hid (roomG_ok hv hi)
      clear hv
      go_enter Try.func26, Try.ntmps26
      go_wp2_with (first | (go_at_call 22; refine hV.out.mono ?_; rintro e w1 ⟨rfl, b1⟩) | (go_at_call 53; refine (l6In_any _ _ _ _).mono ?_; rintro e w' ⟨rfl, rfl⟩) | (go_at_call 46; refine (l21Peer_any _ _ _ _ _ (hr.below b1) (by omega)).mono ?_; rintro e w' ⟨rfl, rfl⟩))
      go_ret
      exact ⟨ret_int hfin.out.symm, b1⟩

set_option maxHeartbeats 400000 in
theorem implRoom_any (A : Option Addr) (c : Nat) (l : List AskT) (p : Int) (w : World) (hr : Cells w A (asks l)) (hm : l.length ≤ 1048576) (hlc : l.length ≤ c) :
    Calls Try.prog 27 #[.slice A l.length c, .int .i64 p] w (RetI w (roomG l p)) := by
  have hN := peerN_len l p
  cases hv : validB l
  · have hfin := hid (roomG_bad (l := l) (p := p) (by rw [hv]; rfl))
    have hV := hid (implValid_any A c l w hr hm hlc)
    rw [hv] at hV
    clear hv
    go_enter Try.func27, Try.ntmps27
    go_wp2_with (go_at_call 24; refine hV.out.mono ?_; rintro e w1 ⟨rfl, b1⟩)
    go_ret
    exact ⟨ret_int hfin.out.symm, b1⟩
  · have hV := hid (implValid_any A c l w hr hm hlc)
    rw [hv] at hV
    cases hi : inB p 0 5
    · have hfin := hid (roomG_bad (l := l) (p := p) (by rw [hi]; simp))
      clear hv
      go_enter Try.func27, Try.ntmps27
      go_wp2_with (first | (go_at_call 24; refine hV.out.mono ?_; rintro e w1 ⟨rfl, b1⟩) | (go_at_call 54; refine (isPeer_any _ _).mono ?_; rintro e w' ⟨rfl, rfl⟩))
      go_ret
      exact ⟨ret_int hfin.out.symm, b1⟩
    · have hfin := hid (roomG_ok hv hi)
      clear hv
      go_enter Try.func27, Try.ntmps27
      go_wp2_with (first | (go_at_call 24; refine hV.out.mono ?_; rintro e w1 ⟨rfl, b1⟩) | (go_at_call 54; refine (isPeer_any _ _).mono ?_; rintro e w' ⟨rfl, rfl⟩) | (go_at_call 50; refine (toPeer_any _ _ _ _ _ (hr.below b1) (by omega)).mono ?_; rintro e w2 ⟨rfl, b2⟩))
      go_ret
      exact ⟨ret_int hfin.out.symm, below_step b1 b2⟩

theorem cells_two (w : World) (u v : Value) (t : TypeId) : Cells (w.alloc (.cells #[u, v] t)) (some ⟨w.heap.size, 0, none⟩) [u, v] := (Blk.new w t [u, v]).cells
theorem two_int (x y : Int) : ∀ u ∈ [Value.int .i64 x, Value.int .i64 y], u.oneCell' = true := by simp [Value.oneCell']

/-- What WindowAsk is to answer. -/
noncomputable def askG (l : List AskT) (a : AskT) (e : Bool) : List AskT × Bool :=
  if (validB l && askB a) = true then (if (hasA l a || decide (3 ≤ peerN l a.1) || decide ((if e then 2 else 1) ≤ blockN l a.2)) = true then (l, false) else (l ++ [a], true)) else ([], false)
theorem askG_bad {l : List AskT} {a : AskT} {e : Bool} (h : (validB l && askB a) = false) : askG l a e = ([], false) := by unfold askG; rw [h]; rfl
theorem askG_no {l : List AskT} {a : AskT} {e : Bool} (h : validB l = true) (h2 : askB a = true) (h3 : (hasA l a || decide (3 ≤ peerN l a.1) || decide ((if e then 2 else 1) ≤ blockN l a.2)) = true) : askG l a e = (l, false) := by unfold askG; rw [h, h2, h3]; rfl
theorem askG_yes {l : List AskT} {a : AskT} {e : Bool} (h : validB l = true) (h2 : askB a = true) (h3 : (hasA l a || decide (3 ≤ peerN l a.1) || decide ((if e then 2 else 1) ≤ blockN l a.2)) = false) : askG l a e = (l ++ [a], true) := by unfold askG; rw [h, h2, h3]; rfl

def RetAsksB (w : World) (r : List AskT × Bool) (e : Ending) (w' : World) : Prop :=
  ∃ A c, e = .returned (.tuple #[.slice A r.1.length c, .bool r.2]) ∧ Own w' w.heap.size w'.heap.size 34 2 A c r.1.length (asks r.1) ∧ Below w.heap.size w w'

set_option maxHeartbeats 1000000 in
theorem specAsk_any (A : Option Addr) (c : Nat) (l : List AskT) (x y : Int) (en : Bool) (w : World) (hr : Cells w A (asks l)) (hm : l.length ≤ 1048576) (hlc : l.length ≤ c) :
    Calls Try.prog 31 #[.slice A l.length c, av x y, .bool en] w (RetAsksB w (askG l (x, y) en)) := by
  have b0 : Below w.heap.size w (w.alloc (.cells #[.int .i64 x, .int .i64 y] 34)) := (Below.refl _ _).alloc (Nat.le_refl _) _
  have hr0 := hr.below b0
  have hN := peerN_len l x
  have hM := blockN_len l y
  have hq := Blk.new w 34 [.int .i64 x, .int .i64 y]
  have hq0 := hq.cell 0
  have hq1 := hq.cell 1
  simp only [List.getElem?_cons_zero, List.getElem?_cons_succ] at hq0 hq1
  clear hq
  have hV := hid (specValid_any A c l _ hr0 hm hlc)
  have hask := hid (fun W => l21Ask_any x y W)
  cases hv : validB l
  · have hfin := hid (askG_bad (l := l) (a := (x, y)) (e := en) (by rw [hv]; rfl))
    rw [hv] at hV
    clear hv
    go_enter Try.func31, Try.ntmps31
    go_wp2_with (go_at_call 22; refine hV.out.mono ?_; rintro e w1 ⟨rfl, b1⟩)
    go_ret2
    rw [hfin.out]
    have t1 := below_step b0 b1
    exact ⟨_, _, rfl, Own.of_row (own_empty _ _ _ t1.size), t1.alloc t1.size _⟩
  · rw [hv] at hV
    cases ha : askB (x, y)
    · have hfin := hid (askG_bad (l := l) (a := (x, y)) (e := en) (by rw [ha]; simp))
      rw [ha] at hask
      clear hv ha
      go_enter Try.func31, Try.ntmps31
      go_wp2_with fail
      refine hV.out.mono ?_; rintro e w1 ⟨rfl, b1⟩
      have g0 := cell_later b1 hq0
      have g1 := cell_later b1 hq1
      go_wp2_with fail
      refine (hask.out _).mono ?_; rintro e w2 ⟨rfl, b2⟩
      go_wp2_with fail
      go_ret2
      rw [hfin.out]
      have t2 := below_step (below_step b0 b1) b2
      exact ⟨_, _, rfl, Own.of_row (own_empty _ _ _ t2.size), t2.alloc t2.size _⟩
    · rw [ha] at hask
      have hhas := hid (fun W hr => l21Has_any A c l x y W hr (by omega))
      have key := hid (fun h3 => askG_no (l := l) (a := (x, y)) (e := en) hv ha h3)
      have key2 := hid (fun h3 => askG_yes (l := l) (a := (x, y)) (e := en) hv ha h3)
      have B1 : ∀ w1 w2 : World, Below (w.alloc (.cells #[.int .i64 x, .int .i64 y] 34)).heap.size (w.alloc (.cells #[.int .i64 x, .int .i64 y] 34)) w1 → Below w1.heap.size w1 w2 → Below w.heap.size w w2 := fun w1 w2 h1 h2 => below_step (below_step b0 h1) h2
      clear hv ha
      have hlen := hid (show (l ++ [(x, y)]).length = l.length + 1 by simp)
      cases hh : hasA l (x, y)
      · rw [hh] at hhas
        by_cases h3 : 3 ≤ peerN l x
        · have d3 : decide ((3 : Int) ≤ (peerN l x : Int)) = true := by simp; omega
          have hfin := hid (key.out (by simp [h3]))
          clear hh h3
          cases en
          all_goals
            go_enter Try.func31, Try.ntmps31
            go_wp2_with fail
            refine hV.out.mono ?_; rintro e w1 ⟨rfl, b1⟩
            have g0 := cell_later b1 hq0
            have g1 := cell_later b1 hq1
            go_wp2_with fail
            refine (hask.out _).mono ?_; rintro e w2 ⟨rfl, b2⟩
            have t2 := B1 _ _ b1 b2
            go_wp2_with (at_builtin; refine wpList_app rfl (.tmp 19) (.tmp 20) 25 rfl w2.heap.size Try.underlying25 info_ask rfl (by omega) (by omega) _ 0 0 [] rfl (own_empty w2 _ 2 (Nat.le_refl _)) A l.length c (asks l) rfl (asks_length _) ((hr.below t2).below ((Below.refl _ _).alloc (Nat.le_refl _) _)) (asks_one _) l.length (asks l) (by omega) rfl (by omega) (by simp) ?_; intro A3 c3 w3 ho3 hb3; have b3 : Below w2.heap.size w2 w3 := ((Below.refl _ _).alloc (Nat.le_refl _) _).trans hb3; have t3 := below_step t2 b3; have f0 := cell_later b3 (cell_later b2 g0); have f1 := cell_later b3 (cell_later b2 g1); have o3 := hid (Own.of_row ho3); clear ho3 hb3)
            refine (hhas.out _ (hr.below t3)).mono ?_; rintro e w4 ⟨rfl, b4⟩
            have e0 := cell_later b4 f0
            have e1 := cell_later b4 f1
            have t4 := below_step t3 b4
            go_wp2_with fail
            refine (l21Peer_any _ _ _ _ _ (hr.below t4) (by omega)).mono ?_; rintro e w5 ⟨rfl, rfl⟩
            go_wp2_with fail
            go_ret2
            rw [hfin.out]
            exact ⟨_, _, rfl, (o3.out.below b4).weak t2.size b4.size, t4⟩
        · have d3 : decide ((3 : Int) ≤ (peerN l x : Int)) = false := by simp; omega
          cases en
          · by_cases h2 : 1 ≤ blockN l y
            · have d2 : decide ((1 : Int) ≤ (blockN l y : Int)) = true := by simp; omega
              have hfin := hid (key.out (by simp [h2]))
              clear hh h3 h2
              go_enter Try.func31, Try.ntmps31
              go_wp2_with fail
              refine hV.out.mono ?_; rintro e w1 ⟨rfl, b1⟩
              have g0 := cell_later b1 hq0
              have g1 := cell_later b1 hq1
              go_wp2_with fail
              refine (hask.out _).mono ?_; rintro e w2 ⟨rfl, b2⟩
              have t2 := B1 _ _ b1 b2
              go_wp2_with (at_builtin; refine wpList_app rfl (.tmp 19) (.tmp 20) 25 rfl w2.heap.size Try.underlying25 info_ask rfl (by omega) (by omega) _ 0 0 [] rfl (own_empty w2 _ 2 (Nat.le_refl _)) A l.length c (asks l) rfl (asks_length _) ((hr.below t2).below ((Below.refl _ _).alloc (Nat.le_refl _) _)) (asks_one _) l.length (asks l) (by omega) rfl (by omega) (by simp) ?_; intro A3 c3 w3 ho3 hb3; have b3 : Below w2.heap.size w2 w3 := ((Below.refl _ _).alloc (Nat.le_refl _) _).trans hb3; have t3 := below_step t2 b3; have f0 := cell_later b3 (cell_later b2 g0); have f1 := cell_later b3 (cell_later b2 g1); have o3 := hid (Own.of_row ho3); clear ho3 hb3)
              refine (hhas.out _ (hr.below t3)).mono ?_; rintro e w4 ⟨rfl, b4⟩
              have e0 := cell_later b4 f0
              have e1 := cell_later b4 f1
              have t4 := below_step t3 b4
              go_wp2_with fail
              refine (l21Peer_any _ _ _ _ _ (hr.below t4) (by omega)).mono ?_; rintro e w5 ⟨rfl, rfl⟩
              go_wp2_with fail
              refine (l21Block_any _ _ _ _ _ (hr.below t4) (by omega)).mono ?_; rintro e w5 ⟨rfl, rfl⟩
              go_wp2_with fail
              go_ret2
              rw [hfin.out]
              exact ⟨_, _, rfl, (o3.out.below b4).weak t2.size b4.size, t4⟩
            · have d2 : decide ((1 : Int) ≤ (blockN l y : Int)) = false := by simp; omega
              have hfin := hid (key2.out (by simp [hh]; omega))
              clear hh h3 h2
              go_enter Try.func31, Try.ntmps31
              go_wp2_with fail
              refine hV.out.mono ?_; rintro e w1 ⟨rfl, b1⟩
              have g0 := cell_later b1 hq0
              have g1 := cell_later b1 hq1
              go_wp2_with fail
              refine (hask.out _).mono ?_; rintro e w2 ⟨rfl, b2⟩
              have t2 := B1 _ _ b1 b2
              go_wp2_with (at_builtin; refine wpList_app rfl (.tmp 19) (.tmp 20) 25 rfl w2.heap.size Try.underlying25 info_ask rfl (by omega) (by omega) _ 0 0 [] rfl (own_empty w2 _ 2 (Nat.le_refl _)) A l.length c (asks l) rfl (asks_length _) ((hr.below t2).below ((Below.refl _ _).alloc (Nat.le_refl _) _)) (asks_one _) l.length (asks l) (by omega) rfl (by omega) (by simp) ?_; intro A3 c3 w3 ho3 hb3; have b3 : Below w2.heap.size w2 w3 := ((Below.refl _ _).alloc (Nat.le_refl _) _).trans hb3; have t3 := below_step t2 b3; have f0 := cell_later b3 (cell_later b2 g0); have f1 := cell_later b3 (cell_later b2 g1); have o3 := hid (Own.of_row ho3); clear ho3 hb3)
              refine (hhas.out _ (hr.below t3)).mono ?_; rintro e w4 ⟨rfl, b4⟩
              have e0 := cell_later b4 f0
              have e1 := cell_later b4 f1
              have t4 := below_step t3 b4
              go_wp2_with fail
              refine (l21Peer_any _ _ _ _ _ (hr.below t4) (by omega)).mono ?_; rintro e w5 ⟨rfl, rfl⟩
              go_wp2_with fail
              refine (l21Block_any _ _ _ _ _ (hr.below t4) (by omega)).mono ?_; rintro e w5 ⟨rfl, rfl⟩
              have s24 : w2.heap.size ≤ w4.heap.size := Nat.le_trans b3.size b4.size
              go_wp2_with (at_builtin; refine wpList_app rfl (.tmp 42) (.tmp 44) 25 rfl w2.heap.size Try.underlying25 info_ask rfl (by omega) (by omega) A3 l.length c3 (asks l) rfl ((o3.out.below b4).row.alloc _) (some ⟨w4.heap.size, 0, none⟩) 1 1 [.int .i64 x, .int .i64 y] rfl rfl (cells_two _ _ _ _) (two_int _ _) (l.length + 1) (asks (l ++ [(x, y)])) rfl (asks_snoc l (x, y)) (by omega) (by simp; omega) ?_; intro A6 c6 w6 ho6 hb6; have o6 := hid (Own.of_row ho6); have t6 := (t4.alloc t4.size _).trans (hb6.mono t2.size); clear ho6 hb6)
              go_ret2
              rw [hfin.out]
              refine ⟨_, _, by rw [show ((l ++ [(x, y)], true) : List AskT × Bool).1.length = l.length + 1 from hlen.out]; rfl, ?_, t6⟩
              rw [show ((l ++ [(x, y)], true) : List AskT × Bool).1.length = l.length + 1 from hlen.out]
              exact o6.out.weak t2.size (Nat.le_refl _)
          · by_cases h2 : 2 ≤ blockN l y
            · have d2 : decide ((2 : Int) ≤ (blockN l y : Int)) = true := by simp; omega
              have hfin := hid (key.out (by simp [h2]))
              clear hh h3 h2
              go_enter Try.func31, Try.ntmps31
              go_wp2_with fail
              refine hV.out.mono ?_; rintro e w1 ⟨rfl, b1⟩
              have g0 := cell_later b1 hq0
              have g1 := cell_later b1 hq1
              go_wp2_with fail
              refine (hask.out _).mono ?_; rintro e w2 ⟨rfl, b2⟩
              have t2 := B1 _ _ b1 b2
              go_wp2_with (at_builtin; refine wpList_app rfl (.tmp 19) (.tmp 20) 25 rfl w2.heap.size Try.underlying25 info_ask rfl (by omega) (by omega) _ 0 0 [] rfl (own_empty w2 _ 2 (Nat.le_refl _)) A l.length c (asks l) rfl (asks_length _) ((hr.below t2).below ((Below.refl _ _).alloc (Nat.le_refl _) _)) (asks_one _) l.length (asks l) (by omega) rfl (by omega) (by simp) ?_; intro A3 c3 w3 ho3 hb3; have b3 : Below w2.heap.size w2 w3 := ((Below.refl _ _).alloc (Nat.le_refl _) _).trans hb3; have t3 := below_step t2 b3; have f0 := cell_later b3 (cell_later b2 g0); have f1 := cell_later b3 (cell_later b2 g1); have o3 := hid (Own.of_row ho3); clear ho3 hb3)
              refine (hhas.out _ (hr.below t3)).mono ?_; rintro e w4 ⟨rfl, b4⟩
              have e0 := cell_later b4 f0
              have e1 := cell_later b4 f1
              have t4 := below_step t3 b4
              go_wp2_with fail
              refine (l21Peer_any _ _ _ _ _ (hr.below t4) (by omega)).mono ?_; rintro e w5 ⟨rfl, rfl⟩
              go_wp2_with fail
              refine (l21Block_any _ _ _ _ _ (hr.below t4) (by omega)).mono ?_; rintro e w5 ⟨rfl, rfl⟩
              go_wp2_with fail
              go_ret2
              rw [hfin.out]
              exact ⟨_, _, rfl, (o3.out.below b4).weak t2.size b4.size, t4⟩
            · have d2 : decide ((2 : Int) ≤ (blockN l y : Int)) = false := by simp; omega
              have hfin := hid (key2.out (by simp [hh]; omega))
              clear hh h3 h2
              go_enter Try.func31, Try.ntmps31
              go_wp2_with fail
              refine hV.out.mono ?_; rintro e w1 ⟨rfl, b1⟩
              have g0 := cell_later b1 hq0
              have g1 := cell_later b1 hq1
              go_wp2_with fail
              refine (hask.out _).mono ?_; rintro e w2 ⟨rfl, b2⟩
              have t2 := B1 _ _ b1 b2
              go_wp2_with (at_builtin; refine wpList_app rfl (.tmp 19) (.tmp 20) 25 rfl w2.heap.size Try.underlying25 info_ask rfl (by omega) (by omega) _ 0 0 [] rfl (own_empty w2 _ 2 (Nat.le_refl _)) A l.length c (asks l) rfl (asks_length _) ((hr.below t2).below ((Below.refl _ _).alloc (Nat.le_refl _) _)) (asks_one _) l.length (asks l) (by omega) rfl (by omega) (by simp) ?_; intro A3 c3 w3 ho3 hb3; have b3 : Below w2.heap.size w2 w3 := ((Below.refl _ _).alloc (Nat.le_refl _) _).trans hb3; have t3 := below_step t2 b3; have f0 := cell_later b3 (cell_later b2 g0); have f1 := cell_later b3 (cell_later b2 g1); have o3 := hid (Own.of_row ho3); clear ho3 hb3)
              refine (hhas.out _ (hr.below t3)).mono ?_; rintro e w4 ⟨rfl, b4⟩
              have e0 := cell_later b4 f0
              have e1 := cell_later b4 f1
              have t4 := below_step t3 b4
              go_wp2_with fail
              refine (l21Peer_any _ _ _ _ _ (hr.below t4) (by omega)).mono ?_; rintro e w5 ⟨rfl, rfl⟩
              go_wp2_with fail
              refine (l21Block_any _ _ _ _ _ (hr.below t4) (by omega)).mono ?_; rintro e w5 ⟨rfl, rfl⟩
              have s24 : w2.heap.size ≤ w4.heap.size := Nat.le_trans b3.size b4.size
              go_wp2_with (at_builtin; refine wpList_app rfl (.tmp 42) (.tmp 44) 25 rfl w2.heap.size Try.underlying25 info_ask rfl (by omega) (by omega) A3 l.length c3 (asks l) rfl ((o3.out.below b4).row.alloc _) (some ⟨w4.heap.size, 0, none⟩) 1 1 [.int .i64 x, .int .i64 y] rfl rfl (cells_two _ _ _ _) (two_int _ _) (l.length + 1) (asks (l ++ [(x, y)])) rfl (asks_snoc l (x, y)) (by omega) (by simp; omega) ?_; intro A6 c6 w6 ho6 hb6; have o6 := hid (Own.of_row ho6); have t6 := (t4.alloc t4.size _).trans (hb6.mono t2.size); clear ho6 hb6)
              go_ret2
              rw [hfin.out]
              refine ⟨_, _, by rw [show ((l ++ [(x, y)], true) : List AskT × Bool).1.length = l.length + 1 from hlen.out]; rfl, ?_, t6⟩
              rw [show ((l ++ [(x, y)], true) : List AskT × Bool).1.length = l.length + 1 from hlen.out]
              exact o6.out.weak t2.size (Nat.le_refl _)
      · rw [hh] at hhas
        have hfin := hid (key.out (by simp [hh]))
        clear hh
        cases en
        all_goals
          go_enter Try.func31, Try.ntmps31
          go_wp2_with fail
          refine hV.out.mono ?_; rintro e w1 ⟨rfl, b1⟩
          have g0 := cell_later b1 hq0
          have g1 := cell_later b1 hq1
          go_wp2_with fail
          refine (hask.out _).mono ?_; rintro e w2 ⟨rfl, b2⟩
          have t2 := B1 _ _ b1 b2
          go_wp2_with (at_builtin; refine wpList_app rfl (.tmp 19) (.tmp 20) 25 rfl w2.heap.size Try.underlying25 info_ask rfl (by omega) (by omega) _ 0 0 [] rfl (own_empty w2 _ 2 (Nat.le_refl _)) A l.length c (asks l) rfl (asks_length _) ((hr.below t2).below ((Below.refl _ _).alloc (Nat.le_refl _) _)) (asks_one _) l.length (asks l) (by omega) rfl (by omega) (by simp) ?_; intro A3 c3 w3 ho3 hb3; have b3 : Below w2.heap.size w2 w3 := ((Below.refl _ _).alloc (Nat.le_refl _) _).trans hb3; have t3 := below_step t2 b3; have f0 := cell_later b3 (cell_later b2 g0); have f1 := cell_later b3 (cell_later b2 g1); have o3 := hid (Own.of_row ho3); clear ho3 hb3)
          refine (hhas.out _ (hr.below t3)).mono ?_; rintro e w4 ⟨rfl, b4⟩
          have e0 := cell_later b4 f0
          have e1 := cell_later b4 f1
          have t4 := below_step t3 b4
          go_wp2_with fail
          go_ret2
          rw [hfin.out]
          exact ⟨_, _, rfl, (o3.out.below b4).weak t2.size b4.size, t4⟩

end Go.Proofs.Ytjfpemneinclfaa
