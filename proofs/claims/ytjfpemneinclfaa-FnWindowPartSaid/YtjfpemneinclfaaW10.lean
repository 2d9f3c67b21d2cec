/- WindowDrop, WindowGot. -/
import Derived.Test.YtjfpemneinclfaaW9
namespace Go.Proofs.Ytjfpemneinclfaa
open Go.RowKit

theorem cell_chg {lo hi : Nat} {w W : World} {a : Addr} {v : Value} (h : Chg lo hi w W) (hl : a.block < lo) (hs : a.block < w.heap.size) (hc : w.cell? a = some v) : W.cell? a = some v := by
  rw [← hc]; exact World.cell?_of_block (h.block _ hs (.inl hl))
theorem part_count {α} (f : α → Bool) (l : List α) : l.countP f + (l.filter fun a => !f a).length = l.length := by
  induction l with
  | nil => rfl
  | cons a l ih => cases h : f a <;> simp [h] <;> omega

set_option maxHeartbeats 400000 in
theorem dropF_any (p q x : Int) (bx : Nat) (w : World) (hx : w.cell? ⟨bx, 0, none⟩ = some (.int .i64 x)) :
    Calls Try.prog 61 #[av p q, .pointer (some ⟨bx, 0, none⟩)] w (RetB w (p == x)) := by
  have hb : Below w.heap.size w (w.alloc (.cells #[.int .i64 p, .int .i64 q] 34)) := (Below.refl _ _).alloc (Nat.le_refl _) _
  have hx1 := cell_later hb hx
  have hq := Blk.new w 34 [.int .i64 p, .int .i64 q]
  have hq0 := hq.cell 0
  have hq1 := hq.cell 1
  simp only [List.getElem?_cons_zero, List.getElem?_cons_succ] at hq0 hq1
  clear hq
  go_enter Try.func61, Try.ntmps61
  go_wp2
  go_ret
  exact ⟨rfl, hb⟩
set_option maxHeartbeats 400000 in
theorem gotF_any (p q y : Int) (bx : Nat) (w : World) (hx : w.cell? ⟨bx, 1, none⟩ = some (.int .i64 y)) :
    Calls Try.prog 62 #[av p q, .pointer (some ⟨bx, 0, none⟩)] w (RetB w (q == y)) := by
  have hb : Below w.heap.size w (w.alloc (.cells #[.int .i64 p, .int .i64 q] 34)) := (Below.refl _ _).alloc (Nat.le_refl _) _
  have hx1 := cell_later hb hx
  have hq := Blk.new w 34 [.int .i64 p, .int .i64 q]
  have hq0 := hq.cell 0
  have hq1 := hq.cell 1
  simp only [List.getElem?_cons_zero, List.getElem?_cons_succ] at hq0 hq1
  clear hq
  go_enter Try.func62, Try.ntmps62
  go_wp2
  go_ret
  exact ⟨rfl, hb⟩

def notP (p : Int) (a : AskT) : Bool := !(a.1 == p)
def notB (q : Int) (a : AskT) : Bool := !(a.2 == q)
/-- What WindowDrop and WindowGot are to answer. -/
noncomputable def dropG (l : List AskT) (p : Int) : List AskT × Int := if (validB l && inB p 0 5) = true then (l.filter (notP p), peerN l p) else ([], -1)
theorem dropG_bad {l : List AskT} {p : Int} (h : (validB l && inB p 0 5) = false) : dropG l p = ([], -1) := by unfold dropG; rw [h]; rfl
theorem dropG_ok {l : List AskT} {p : Int} (h : validB l = true) (h2 : inB p 0 5 = true) : dropG l p = (l.filter (notP p), (peerN l p : Int)) := by unfold dropG; rw [h, h2]; rfl
noncomputable def gotG (l : List AskT) (a : AskT) : List AskT × Int := if (validB l && askB a) = true then (if hasA l a = true then (l.filter (notB a.2), blockN l a.2 - 1) else (l, -1)) else ([], -1)
theorem gotG_bad {l : List AskT} {a : AskT} (h : (validB l && askB a) = false) : gotG l a = ([], -1) := by unfold gotG; rw [h]; rfl
theorem gotG_no {l : List AskT} {a : AskT} (h : validB l = true) (h2 : askB a = true) (h3 : hasA l a = false) : gotG l a = (l, -1) := by unfold gotG; rw [h, h2, h3]; rfl
theorem gotG_yes {l : List AskT} {a : AskT} (h : validB l = true) (h2 : askB a = true) (h3 : hasA l a = true) : gotG l a = (l.filter (notB a.2), (blockN l a.2 : Int) - 1) := by unfold gotG; rw [h, h2, h3]; rfl

def RetAsksI (w : World) (r : List AskT × Int) (e : Ending) (w' : World) : Prop :=
  ∃ A c, e = .returned (.tuple #[.slice A r.1.length c, .int .i64 r.2]) ∧ Own w' w.heap.size w'.heap.size 34 2 A c r.1.length (asks r.1) ∧ Below w.heap.size w w'
theorem retAsksI_of {w w' : World} {r : List AskT × Int} {L : List AskT} {n k : Int} (hr : r = (L, n)) (hk : k = n) {A : Option Addr} {c m : Nat} (hm : m = L.length) (ho : Own w' w.heap.size w'.heap.size 34 2 A c m (asks L)) (hb : Below w.heap.size w w') :
    RetAsksI w r (.returned (.tuple #[.slice A m c, .int .i64 k])) w' := by
  subst hr; subst hk; subst hm; exact ⟨A, c, rfl, ho, hb⟩
theorem asks_snoc1 {L : List AskT} {p q : Int} : asks L ++ [.int .i64 p, .int .i64 q] = asks (L ++ [(p, q)]) := asks_snoc L (p, q)

set_option maxHeartbeats 1000000 in
theorem specDrop_any (A : Option Addr) (c : Nat) (l : List AskT) (x : Int) (w : World) (hr : Cells w A (asks l)) (hm : l.length ≤ 1048576) (hlc : l.length ≤ c) :
    Calls Try.prog 37 #[.slice A l.length c, .int .i64 x] w (RetAsksI w (dropG l x)) := by
  have hV := hid (specValid_any A c l _ hr hm hlc)
  cases hv : validB l
  · have hfin := hid (dropG_bad (l := l) (p := x) (by rw [hv]; rfl))
    rw [hv] at hV
    clear hv
    go_enter Try.func37, Try.ntmps37
    go_wp2_with (go_at_call 22; refine hV.out.mono ?_; rintro e w1 ⟨rfl, b1⟩)
    go_ret2
    exact retAsksI_of hfin.out rfl rfl (Own.of_row (own_empty _ _ _ b1.size)) (b1.alloc b1.size _)
  · rw [hv] at hV
    cases ha : inB x 0 5
    · have hfin := hid (dropG_bad (l := l) (p := x) (by rw [ha]; simp))
      clear hv
      go_enter Try.func37, Try.ntmps37
      go_wp2_with (first | (go_at_call 22; refine hV.out.mono ?_; rintro e w1 ⟨rfl, b1⟩) | (go_at_call 53; refine (l6In_any _ _ _ _).mono ?_; rintro e w' ⟨rfl, rfl⟩))
      go_ret2
      exact retAsksI_of hfin.out rfl rfl (Own.of_row (own_empty _ _ _ b1.size)) (b1.alloc b1.size _)
    · have hfin := hid (dropG_ok hv ha)
      clear hv
      go_enter Try.func37, Try.ntmps37
      go_wp2_with (first | (go_at_call 22; refine hV.out.mono ?_; rintro e w1 ⟨rfl, b1⟩) | (go_at_call 53; refine (l6In_any _ _ _ _).mono ?_; rintro e w' ⟨rfl, rfl⟩))
      go_loopw [6, 7] (fun out i wr => ∃ (k : Nat) (A' : Option Addr) (c' n' : Nat), k ≤ l.length ∧ i = .int .i64 k ∧ out = .slice A' n' c' ∧ n' ≤ k ∧ Hid (((l.take k).filter (notP x)).length = n') ∧ Hid (wr.ownsRow w1.heap.size 34 2 (.slice A' n' c') n' (asks ((l.take k).filter (notP x)))) ∧ Below w1.heap.size w1 wr) (fun _ i _ => l.length - (intOf i).toNat)
      case atStart => exact ⟨0, _, _, 0, Nat.zero_le _, rfl, rfl, Nat.le_refl _, rfl, own_empty w1 34 2 (Nat.le_refl _), (Below.refl _ _).alloc (Nat.le_refl _) _⟩
      case round =>
        obtain ⟨k, A', c', n', hk, rfl, rfl, hnk, hn, own, hb⟩ := hrel
        have hbel := below_step b1 hb
        have hsz := hb.size
        by_cases hlt : k < l.length
        · obtain ⟨b, off, p, q, rfl, hz, hc, hc1⟩ := (hr.below hbel).ask_at hlt
          by_cases hpx : p = x
          · have hb1 : (p == x) = true := by simpa using hpx
            have hb2 : (p != x) = false := by simpa using hpx
            have hst : Hid ((l.take (k + 1)).filter (notP x) = (l.take k).filter (notP x)) := by
              unfold Hid; rw [filter_snoc _ _ _ _ hz.out]; simp [notP, hb1]
            clear hpx
            go_wp2
            go_roundw
            case rel => exact ⟨k + 1, A', c', n', by omega, by go_num, rfl, by omega, by unfold Hid; rw [hst.out]; exact hn.out, by unfold Hid; rw [hst.out]; exact own.out, hb⟩
            case measure => simp [intOf]; omega
          · have hb1 : (p == x) = false := by simpa using hpx
            have hb2 : (p != x) = true := by simpa using hpx
            have hst : Hid ((l.take (k + 1)).filter (notP x) = (l.take k).filter (notP x) ++ [(p, q)]) := by
              unfold Hid; rw [filter_snoc _ _ _ _ hz.out]; simp [notP, hb1]
            clear hpx
            go_wp2_with (at_builtin; refine wpList_app rfl (.tmp 31) (.tmp 36) 25 rfl w1.heap.size Try.underlying25 info_ask rfl (by omega) (by omega) A' n' c' _ rfl (own.out.alloc _) (some ⟨wr.heap.size, 0, none⟩) 1 1 [.int .i64 p, .int .i64 q] rfl rfl (cells_two _ _ _ _) (two_int _ _) (n' + 1) _ rfl asks_snoc1 (by omega) (by simp; omega) ?_; intro A2 c2 w5 ho5 hb5)
            go_roundw
            case rel => exact ⟨k + 1, A2, c2, n' + 1, by omega, by go_num, rfl, by omega, by unfold Hid; rw [hst.out, List.length_append, hn.out]; rfl, by unfold Hid; rw [hst.out]; exact ho5, (hb.alloc hsz _).trans hb5⟩
            case measure => simp [intOf]; omega
        · obtain rfl : k = l.length := by omega
          have hn2 : Hid ((l.filter (notP x)).length = n') := by have := hn.out; rwa [List.take_length] at this
          have own2 : Hid (wr.ownsRow w1.heap.size 34 2 (.slice A' n' c') n' (asks (l.filter (notP x)))) := by have := own.out; rwa [List.take_length] at this
          clear hlt
          go_wp2_with fail
          refine (l21Peer_any _ _ _ _ _ (hr.below hbel) (by omega)).mono ?_; rintro e w' ⟨rfl, rfl⟩
          go_wp2_with fail
          go_ret2
          exact retAsksI_of hfin.out rfl hn2.out.symm ((Own.of_row own2.out).weak b1.size (Nat.le_refl _)) hbel

set_option maxHeartbeats 1000000 in
theorem specGot_any (A : Option Addr) (c : Nat) (l : List AskT) (x y : Int) (w : World) (hr : Cells w A (asks l)) (hm : l.length ≤ 1048576) (hlc : l.length ≤ c) :
    Calls Try.prog 40 #[.slice A l.length c, av x y] w (RetAsksI w (gotG l (x, y))) := by
  have b0 : Below w.heap.size w (w.alloc (.cells #[.int .i64 x, .int .i64 y] 34)) := (Below.refl _ _).alloc (Nat.le_refl _) _
  have hr0 := hr.below b0
  have hM := blockN_len l y
  have hq := Blk.new w 34 [.int .i64 x, .int .i64 y]
  have hq0 := hq.cell 0
  have hq1 := hq.cell 1
  simp only [List.getElem?_cons_zero, List.getElem?_cons_succ] at hq0 hq1
  clear hq
  have hV := hid (specValid_any A c l _ hr0 hm hlc)
  have hask := hid (fun W => l21Ask_any x y W)
  cases hv : validB l
  · have hfin := hid (gotG_bad (l := l) (a := (x, y)) (by rw [hv]; rfl))
    rw [hv] at hV
    clear hv
    go_enter Try.func40, Try.ntmps40
    go_wp2_with (go_at_call 22; refine hV.out.mono ?_; rintro e w1 ⟨rfl, b1⟩)
    go_ret2
    have t1 := below_step b0 b1
    exact retAsksI_of hfin.out rfl rfl (Own.of_row (own_empty _ _ _ t1.size)) (t1.alloc t1.size _)
  · rw [hv] at hV
    cases ha : askB (x, y)
    · have hfin := hid (gotG_bad (l := l) (a := (x, y)) (by rw [ha]; simp))
      rw [ha] at hask
      clear hv ha
      go_enter Try.func40, Try.ntmps40
      go_wp2_with fail
      refine hV.out.mono ?_; rintro e w1 ⟨rfl, b1⟩
      have g0 := cell_later b1 hq0
      have g1 := cell_later b1 hq1
      go_wp2_with fail
      refine (hask.out _).mono ?_; rintro e w2 ⟨rfl, b2⟩
      go_wp2_with fail
      go_ret2
      have t2 := below_step (below_step b0 b1) b2
      exact retAsksI_of hfin.out rfl rfl (Own.of_row (own_empty _ _ _ t2.size)) (t2.alloc t2.size _)
    · rw [ha] at hask
      have hhas := hid (fun W hr => l21Has_any A c l x y W hr (by omega))
      cases hh : hasA l (x, y)
      · rw [hh] at hhas
        have hfin := hid (gotG_no hv ha hh)
        clear hv ha hh
        go_enter Try.func40, Try.ntmps40
        go_wp2_with fail
        refine hV.out.mono ?_; rintro e w1 ⟨rfl, b1⟩
        have g0 := cell_later b1 hq0
        have g1 := cell_later b1 hq1
        go_wp2_with fail
        refine (hask.out _).mono ?_; rintro e w2 ⟨rfl, b2⟩
        have f0 := cell_later b2 g0
        have f1 := cell_later b2 g1
        have t2 := below_step (below_step b0 b1) b2
        go_wp2_with fail
        refine (hhas.out _ (hr.below t2)).mono ?_; rintro e w3 ⟨rfl, b3⟩
        have t3 := below_step t2 b3
        go_wp2_with (at_builtin; refine wpList_app rfl (.tmp 21) (.tmp 22) 25 rfl w3.heap.size Try.underlying25 info_ask rfl (by omega) (by omega) _ 0 0 [] rfl (own_empty w3 _ 2 (Nat.le_refl _)) A l.length c (asks l) rfl (asks_length _) ((hr.below t3).below ((Below.refl _ _).alloc (Nat.le_refl _) _)) (asks_one _) l.length (asks l) (by omega) rfl (by omega) (by simp) ?_; intro A4 c4 w4 ho4 hb4)
        go_ret2
        exact retAsksI_of hfin.out rfl rfl ((Own.of_row ho4).weak t3.size (Nat.le_refl _)) ((t3.alloc t3.size _).trans (hb4.mono t3.size))
      · rw [hh] at hhas
        have hfin := hid (gotG_yes hv ha hh)
        have hBm : Hid (1 ≤ blockN l y) := by
          unfold Hid; have := hasA_iff.1 hh; exact List.countP_pos_iff.2 ⟨_, this, by simp⟩
        clear hv ha hh
        go_enter Try.func40, Try.ntmps40
        go_wp2_with fail
        refine hV.out.mono ?_; rintro e w1 ⟨rfl, b1⟩
        have g0 := cell_later b1 hq0
        have g1 := cell_later b1 hq1
        go_wp2_with fail
        refine (hask.out _).mono ?_; rintro e w2 ⟨rfl, b2⟩
        have f0 := cell_later b2 g0
        have f1 := cell_later b2 g1
        have t2 := below_step (below_step b0 b1) b2
        go_wp2_with fail
        refine (hhas.out _ (hr.below t2)).mono ?_; rintro e w3 ⟨rfl, b3⟩
        have t3 := below_step t2 b3
        have e1 := cell_later b3 f1
        have t3s := t3.size
        clear hq0 hq1 g0 g1 f0 f1 b1 b2 b3 t2 hask hhas hV
        go_wp2
        go_loopw [6, 7] (fun out i wr => ∃ (k : Nat) (A' : Option Addr) (c' n' : Nat), k ≤ l.length ∧ i = .int .i64 k ∧ out = .slice A' n' c' ∧ n' ≤ k ∧ Hid (((l.take k).filter (notB y)).length = n') ∧ Hid (wr.ownsRow w3.heap.size 34 2 (.slice A' n' c') n' (asks ((l.take k).filter (notB y)))) ∧ Below w3.heap.size w3 wr) (fun _ i _ => l.length - (intOf i).toNat)
        case atStart => exact ⟨0, _, _, 0, Nat.zero_le _, rfl, rfl, Nat.le_refl _, rfl, own_empty w3 34 2 (Nat.le_refl _), (Below.refl _ _).alloc (Nat.le_refl _) _⟩
        case round =>
          obtain ⟨k, A', c', n', hk, rfl, rfl, hnk, hn, own, hb⟩ := hrel
          have hbel := below_step t3 hb
          have hsz := hb.size
          have m1 := cell_later hb e1
          by_cases hlt : k < l.length
          · obtain ⟨b, off, p, q, rfl, hz, hc, hc1⟩ := (hr.below hbel).ask_at hlt
            by_cases hpx : q = y
            · have hb1 : (q == y) = true := by simpa using hpx
              have hb2 : (q != y) = false := by simpa using hpx
              have hst : Hid ((l.take (k + 1)).filter (notB y) = (l.take k).filter (notB y)) := by
                unfold Hid; rw [filter_snoc _ _ _ _ hz.out]; simp [notB, hb1]
              clear hpx
              go_wp2
              go_quiet (fail)
              go_wp2
              go_roundw
              case rel => exact ⟨k + 1, A', c', n', by omega, by go_num, rfl, by omega, by unfold Hid; rw [hst.out]; exact hn.out, by unfold Hid; rw [hst.out]; exact own.out, below_drewN hb _⟩
              case measure => simp [intOf]; omega
            · have hb1 : (q == y) = false := by simpa using hpx
              have hb2 : (q != y) = true := by simpa using hpx
              have hst : Hid ((l.take (k + 1)).filter (notB y) = (l.take k).filter (notB y) ++ [(p, q)]) := by
                unfold Hid; rw [filter_snoc _ _ _ _ hz.out]; simp [notB, hb1]
              clear hpx
              go_wp2
              go_quiet (fail)
              go_wp2_with (at_builtin; refine wpList_app rfl (.tmp 39) (.tmp 44) 25 rfl w3.heap.size Try.underlying25 info_ask rfl (by omega) (by omega) A' n' c' _ rfl (own.out.alloc _) (some ⟨wr.heap.size, 0, none⟩) 1 1 [.int .i64 p, .int .i64 q] rfl rfl (cells_two _ _ _ _) (two_int _ _) (n' + 1) _ rfl asks_snoc1 (by omega) (by simp; omega) ?_; intro A2 c2 w5 ho5 hb5)
              go_roundw
              case rel => exact ⟨k + 1, A2, c2, n' + 1, by omega, by go_num, rfl, by omega, by unfold Hid; rw [hst.out, List.length_append, hn.out]; rfl, by unfold Hid; rw [hst.out]; exact ho5, ((below_drewN hb _).alloc hsz _).trans hb5⟩
              case measure => simp [intOf]; omega
          · obtain rfl : k = l.length := by omega
            have hn2 : Hid ((l.filter (notB y)).length = n') := by have := hn.out; rwa [List.take_length] at this
            have own2 : Hid (wr.ownsRow w3.heap.size 34 2 (.slice A' n' c') n' (asks (l.filter (notB y)))) := by have := own.out; rwa [List.take_length] at this
            clear hlt
            go_wp2_with fail
            refine (l21Block_any _ _ _ _ _ (hr.below hbel) (by omega)).mono ?_; rintro e w' ⟨rfl, rfl⟩
            have hB0 := hBm.out
            go_wp2_with fail
            go_ret2
            exact retAsksI_of hfin.out rfl hn2.out.symm ((Own.of_row own2.out).weak t3s (Nat.le_refl _)) hbel

end Go.Proofs.Ytjfpemneinclfaa
