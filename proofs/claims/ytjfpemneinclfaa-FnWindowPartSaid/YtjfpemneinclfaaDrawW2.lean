/- The draws of chapter 21: windows. -/
import Derived.Test.YtjfpemneinclfaaDrawW
namespace Go.Proofs.Ytjfpemneinclfaa
open Go.RowKit

theorem askG_len (l : List AskT) (a : AskT) (e : Bool) : (askG l a e).1.length ≤ l.length + 1 := by
  unfold askG
  cases h1 : (validB l && askB a)
  · simp
  · cases h2 : (hasA l a || decide (3 ≤ peerN l a.1) || decide ((if e then 2 else 1) ≤ blockN l a.2)) <;> simp only [if_true, if_false, Bool.false_eq_true] <;> simp
theorem specAsk_n (A : Option Addr) (c n : Nat) (l : List AskT) (x y : Int) (en : Bool) (w : World) (hn : Hid (l.length = n)) (ho : w.ownsRow 0 34 2 (.slice A n c) n (asks l)) (hm : n ≤ 1048576) :
    Calls Try.prog 31 #[.slice A n c, av x y, .bool en] w (RetAsksB w (askG l (x, y) en)) := by
  have h := hn.out; subst h
  exact specAsk_any A c l x y en w (own_cells ho) hm (own_cap ho)

def DrawnAsks (w : World) (g p : Nat) (e : Ending) (w' : World) : Prop :=
  ∃ A c, ∃ l : List AskT, ∃ p', e = .returned (.slice A l.length c) ∧ l.length ≤ 15 ∧ Own w' w.heap.size w'.heap.size 34 2 A c l.length (asks l) ∧ Rd w' g p' ∧ p' ≤ p + 1000 ∧ Only g w w'
theorem drawnAsks_of {w w' : World} {g p p' : Nat} {A : Option Addr} {c m : Nat} {l : List AskT} (hm : Hid (l.length = m)) (hl : m ≤ 15) (ho : w'.ownsRow w.heap.size 34 2 (.slice A m c) m (asks l)) (hr : Rd w' g p') (hp : p' ≤ p + 1000) (hon : Only g w w') :
    DrawnAsks w g p (.returned (.slice A m c)) w' := by
  have h := hm.out; subst h
  exact ⟨A, c, l, p', rfl, hl, Own.of_row ho, hr, hp, hon⟩

set_option maxHeartbeats 1000000 in
theorem l92Window_any (g p : Nat) (w : World) (hr : Rd w g p) (hp : p ≤ 900000000) :
    Calls Try.prog 55 #[.pointer (some ⟨g, 0, none⟩)] w (DrawnAsks w g p) := by
  have hgl := hr.lt
  have b0 : Below w.heap.size w (w.alloc (.cells #[] 34)) := (Below.refl _ _).alloc (Nat.le_refl _) _
  have r0 := hr.below b0
  have own0 := hid (own_empty w 34 2 (Nat.le_refl _))
  have on0 : Only g w (w.alloc (.cells #[] 34)) := only_grown b0 (Nat.le_refl _)
  go_enter Try.func55, Try.ntmps55
  go_wp2_with fail
  refine (pick_any _ _ _ _ r0 (by omega) (by omega)).mono ?_
  rintro e w1 ⟨n, rfl, n0, n1, -, r1, o1, -⟩
  have n1 := n1 (by omega)
  have own1 := hid (own_only own0.out hgl o1)
  have on1 := on0.trans o1
  obtain ⟨N, rfl⟩ := Int.eq_ofNat_of_zero_le n0
  clear r0 own0 on0 o1 b0 hr
  go_wp2_with fail
  go_loopw [3, 5] (fun out i wr => ∃ (k : Nat) (A' : Option Addr) (c' n' : Nat) (l : List AskT) (p' : Nat), k ≤ N ∧ i = .int .i64 k ∧ out = .slice A' n' c' ∧ n' ≤ k ∧ Hid (l.length = n') ∧ Hid (wr.ownsRow w.heap.size 34 2 (.slice A' n' c') n' (asks l)) ∧ Rd wr g p' ∧ p' ≤ p + 1 + 20 * k ∧ Only g w wr) (fun _ i _ => N - (intOf i).toNat)
  case atStart => exact ⟨0, _, _, 0, [], p + 1, Nat.zero_le _, rfl, rfl, Nat.le_refl _, rfl, own1, r1, by omega, on1⟩
  case round =>
    clear own1 r1 on1
    obtain ⟨k, A', c', n', l, p', hk, rfl, rfl, hnk, hl, own, rd, hp', on⟩ := hrel
    have hsz := on.size
    by_cases hlt : k < N
    · go_wp2_with fail
      refine (l92Ask_any _ _ _ rd (by omega)).mono ?_
      rintro e w2 ⟨x, y, p2, rfl, r2, hp2, o2⟩
      go_wp2_with fail
      refine (pick_any _ _ _ _ r2 (by omega) (by omega)).mono ?_
      rintro e w3 ⟨m, rfl, -, -, -, r3, o3, -⟩
      have own3 := hid (own_only (own_only own.out hgl o2) hgl o3)
      have on3 := (on.trans o2).trans o3
      have hlen := askG_len l (x, y) (m == 0)
      have hcall := hid (specAsk_n A' c' n' l x y (m == 0) w3 hl (own_mono own3.out (Nat.zero_le _)) (by omega))
      rw [hl.out] at hlen
      generalize askG l (x, y) (m == 0) = r at hcall hlen
      obtain ⟨L, ok⟩ := r
      clear own rd on r2 o2 o3
      go_wp2_with fail
      refine hcall.out.mono ?_
      rintro e w4 ⟨A4, c4, rfl, o4, b4⟩
      have r4 := r3.below b4
      have on4 := only_step on3 b4 on3.size
      have own4 := hid (own_below own3.out b4)
      have O4 := hid (own_mono o4.row on3.size)
      clear own3 on3 r3 o4 b4 hcall
      cases ok
      · go_wp2
        go_roundw
        case rel => exact ⟨k + 1, A', c', n', l, p2 + 1, by omega, by go_num, rfl, by omega, hl, own4, r4, by omega, on4⟩
        case measure => simp [intOf]; omega
      · go_wp2
        go_roundw
        case rel => exact ⟨k + 1, A4, c4, L.length, L, p2 + 1, by omega, by go_num, rfl, by omega, rfl, O4, r4, by omega, on4⟩
        case measure => simp [intOf]; omega
    · obtain rfl : k = N := by omega
      go_wp2_with fail
      refine (pick_any _ _ _ _ rd (by omega) (by omega)).mono ?_
      rintro e w2 ⟨s, rfl, a0, a1, -, r2, o2, -⟩
      have own2 := hid (own_only own.out hgl o2)
      have on2 := on.trans o2
      clear own rd on o2 hlt
      by_cases h0 : s = 0
      · have hb0 : (s == 0) = true := by rw [h0]; rfl
        clear h0
        go_wp2_with fail
        refine (l92Ask_any _ _ _ r2 (by omega)).mono ?_
        rintro e w3 ⟨x, y, p3, rfl, r3, hp3, o3⟩
        have own3 := hid (own_only own2.out hgl o3)
        have on3 := on2.trans o3
        have hs3 := on3.size
        clear own2 r2 on2 o3
        go_wp2_with (at_builtin; refine wpList_app rfl (.tmp 31) (.tmp 34) 25 rfl w.heap.size Try.underlying25 info_ask rfl (by omega) (by omega) A' n' c' _ rfl (own3.out.alloc _) (some ⟨w3.heap.size, 0, none⟩) 1 1 [.int .i64 x, .int .i64 y] rfl rfl (cells_two _ _ _ _) (two_int _ _) (n' + 1) _ rfl asks_snoc1 (by omega) (by simp; omega) ?_; intro A5 c5 w5 ho5 hb5)
        have hgr := ((Below.refl w.heap.size w3).alloc hs3 (.cells #[.int .i64 x, .int .i64 y] 34)).trans hb5
        have ho6 := hid ho5
        clear ho5 hb5
        go_wp2
        go_ret
        exact drawnAsks_of (l := l ++ [(x, y)]) (by unfold Hid; rw [List.length_append, hl.out]; rfl) (by omega) ho6.out (rd_grown r3 hgr hgl) (by omega) (only_step on3 hgr (Nat.le_refl _))
      · have hb0 : (s == 0) = false := by rw [beq_eq_false_iff_ne]; exact h0
        clear h0
        go_wp2
        go_ret
        exact drawnAsks_of hl (by omega) own2.out r2 (by omega) on2

end Go.Proofs.Ytjfpemneinclfaa
