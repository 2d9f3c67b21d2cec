/- The draws of chapter 22: bits of peers. -/
import Derived.Test.YtckbpiapkooamaaDrawR
import Derived.Test.YtckbpiapkooamaaR2
namespace Go.Proofs.Ytckbpiapkooamaa
open Go.RowKit

/-- A row of the call's own that does not lie in block g0. -/
def DRow (w : World) (base g0 : Nat) (A : Option Addr) (c : Nat) (bs : Bits) : Prop :=
  w.ownsRow base 4 1 (.slice A bs.length c) bs.length (bools bs) ∧ (∀ g, A = some ⟨g, 0, none⟩ → g ≠ g0) ∧ bs.length ≤ 18
def MatD (w : World) (base g0 c : Nat) (ps : List Bits) : Prop :=
  ∃ vs, w.ownsRow base 31 1 (.slice (some ⟨g0, 0, none⟩) ps.length c) ps.length vs ∧ Heads (DRow w base g0) vs ps
section
variable {w w' : World} {base g0 c : Nat} {ps : List Bits}
theorem MatD.mat (h : MatD w base g0 c ps) : Mat w (some ⟨g0, 0, none⟩) ps := by
  obtain ⟨vs, h1, h2⟩ := h
  exact ⟨vs, own_cells h1, h2.imp fun _ _ _ _ hc => own_cells hc.1⟩
theorem MatD.keep (h : MatD w base g0 c ps) (hk : ∀ g, base ≤ g → g < w.heap.size → w'.heap[g]? = w.heap[g]?) : MatD w' base g0 c ps := by
  obtain ⟨vs, h1, h2⟩ := h
  refine ⟨vs, row_keep h1 fun g hg hs => hk g (by have := (h1.lt g0 rfl).1; injection hg with hg; injection hg with hg; omega) hs, h2.imp fun A c bs _ hc => ⟨row_keep hc.1 fun g hg hs => hk g ?_ hs, hc.2⟩⟩
  subst hg; exact (hc.1.lt g rfl).1
theorem MatD.only {g : Nat} (h : MatD w base g0 c ps) (hg : g < base) (ho : Only g w w') : MatD w' base g0 c ps := h.keep fun k hk hs => ho.block k hs (.inr (by omega))
theorem MatD.belowN (h : MatD w base g0 c ps) (hb : Below w.heap.size w w') : MatD w' base g0 c ps := h.keep fun k _ hs => hb.block k hs
theorem MatD.small (h : MatD w base g0 c ps) (hp : ps.length ≤ 1048576) : Small ps := by
  obtain ⟨vs, h1, h2⟩ := h
  refine ⟨hp, fun bs hb => ?_⟩
  obtain ⟨k, hk⟩ := List.mem_iff_getElem?.1 hb
  obtain ⟨A', c', _, _, _, h3⟩ := h2.2 k bs hk
  omega
end
def DrawnMat (w : World) (g p : Nat) (e : Ending) (w' : World) : Prop :=
  ∃ g0 c, ∃ ps : List Bits, ∃ p', e = .returned (.slice (some ⟨g0, 0, none⟩) ps.length c) ∧ ps.length ≤ 7 ∧ MatD w' w.heap.size g0 c ps ∧ Rd w' g p' ∧ p' ≤ p + 1000 ∧ Only g w w'
theorem drawnMat_of {w w' : World} {g p p' g0 c m : Nat} {l : List Bits} (hm : Hid (l.length = m)) (hl : m ≤ 7) (ho : MatD w' w.heap.size g0 c l) (hr : Rd w' g p') (hp : p' ≤ p + 1000) (hon : Only g w w') :
    DrawnMat w g p (.returned (.slice (some ⟨g0, 0, none⟩) m c)) w' := by
  have h := hm.out; subst h
  exact ⟨g0, c, l, p', rfl, hl, ho, hr, hp, hon⟩
theorem one_slice (A : Option Addr) (n c : Nat) : ∀ u ∈ [Value.slice A n c], u.oneCell' = true := by simp [Value.oneCell']

set_option maxHeartbeats 1000000 in
theorem l92Peers_any (g p : Nat) (w : World) (hr : Rd w g p) (hp : p ≤ 900000000) :
    Calls Try.prog 50 #[.pointer (some ⟨g, 0, none⟩)] w (DrawnMat w g p) := by
  have hgl := hr.lt
  have b0 : Below w.heap.size w (w.alloc (.cells #[] 31)) := (Below.refl _ _).alloc (Nat.le_refl _) _
  have r0 := hr.below b0
  have M0 : Hid (MatD (w.alloc (.cells #[] 31)) w.heap.size w.heap.size 0 []) := ⟨[], own_empty w 31 1 (Nat.le_refl _), Heads.nil⟩
  have on0 : Only g w (w.alloc (.cells #[] 31)) := only_grown b0 (Nat.le_refl _)
  go_enter Try.func50, Try.ntmps50
  go_wp2_with fail
  refine (pick_any _ _ _ _ r0 (by omega) (by omega)).mono ?_
  rintro e w1 ⟨n, rfl, n0, n1, -, r1, o1, -⟩
  have n1 := n1 (by omega)
  have M1 := hid (M0.out.only hgl o1)
  have on1 := on0.trans o1
  go_wp2_with fail
  refine (pick_any _ _ _ _ r1 (by omega) (by omega)).mono ?_
  rintro e w2 ⟨s, rfl, -, -, -, r2, o2, -⟩
  have M2 := hid (M1.out.only hgl o2)
  have on2 := on1.trans o2
  clear r0 M0 on0 o1 b0 hr M1 on1 r1 o2
  by_cases hs : s = 0
  all_goals
    first
      | (have hb0 : (s == 0) = true := (by rw [hs]; rfl)
         clear hs
         go_wp2_with fail
         refine (pick_any _ _ _ _ r2 (by omega) (by omega)).mono ?_
         rintro e w4 ⟨x, rfl, x0, x1, -, r4, o4, -⟩
         have x1 := x1 (by omega)
         have M4 := hid (M2.out.only hgl o4)
         have on4 := on2.trans o4
         obtain ⟨N, hN⟩ := Int.eq_ofNat_of_zero_le (show 0 ≤ 6 + x by omega)
         have hN7 : N ≤ 7 := by omega
         clear o4)
      | (have hb0 : (s == 0) = false := (by rw [beq_eq_false_iff_ne]; exact hs)
         clear hs
         have r4 := r2
         have M4 := M2
         have on4 := on2
         obtain ⟨N, hN⟩ := Int.eq_ofNat_of_zero_le n0
         have hN7 : N ≤ 7 := by omega)
    clear r2 M2 on2
    go_wp2_with fail
    go_loopw [3, 5] (fun out i wr => ∃ (k g0 c' : Nat) (l : List Bits) (p' : Nat), k ≤ N ∧ i = .int .i64 k ∧ out = .slice (some ⟨g0, 0, none⟩) k c' ∧ Hid (l.length = k) ∧ Hid (MatD wr w.heap.size g0 c' l) ∧ Rd wr g p' ∧ p' ≤ p + 4 + 120 * k ∧ Only g w wr) (fun _ i _ => N - (intOf i).toNat)
    case atStart => exact ⟨0, _, _, [], _, Nat.zero_le _, rfl, rfl, rfl, M4, r4, by omega, on4⟩
    case round =>
      clear M4 r4 on4
      obtain ⟨k, g0, c', l, p', hk, rfl, rfl, hl, M, rd, hp', on⟩ := hrel
      have hsz := on.size
      by_cases hlt : k < N
      · have hlt2 : (k : Int) < N := by omega
        first | rw [← hN] at hlt2 | skip
        go_wp2_with fail
        refine (l91Bits_any _ _ _ rd (by omega)).mono ?_
        rintro e w5 ⟨A5, c5, bs, p5, rfl, hbl, ho5, r5, hp5, o5⟩
        have M5 := hid (M.out.only hgl o5)
        have on5 := on.trans o5
        have hs5 := on5.size
        obtain ⟨vs, ov, hv⟩ := M5.out
        have hg0 : Hid (g0 < wr.heap.size) := by
          obtain ⟨vs', ov', _⟩ := M.out
          exact (ov'.lt g0 rfl).2
        have hlk := hl.out
        rw [hlk] at ov
        have Ov := hid ov
        have Hv := hid hv
        have Ho5 := hid ho5
        have hs45 := hid (show wr.heap.size ≤ w5.heap.size from o5.size)
        have hg05 : Hid (g0 < w5.heap.size) := Nat.lt_of_lt_of_le hg0.out hs45.out
        clear M rd on o5 hlk ov hv ho5 M5
        go_wp2_with (at_builtin; refine wpList_app2 rfl (.tmp 20) (.tmp 23) 22 rfl w.heap.size Try.underlying22 info_row rfl (by omega) (by omega) (some ⟨g0, 0, none⟩) k c' vs rfl (Ov.out.alloc _) w5.heap.size 0 1 1 [.slice A5 bs.length c5] rfl rfl (cells_one _ _ _) (one_slice _ _ _) (k + 1) (vs ++ [.slice A5 bs.length c5]) rfl rfl (by omega) (by simp; omega) ?_; intro A6 c6 w6 ho6 hg6 hA6)
        have hgr : Below w.heap.size w5 w6 := ((Below.refl w.heap.size w5).alloc hs5 (.cells #[.slice A5 bs.length c5] 31)).trans (below_grown hg6 (by simp; omega) (fun j hj => by simp [Value.ownBlock] at hj; subst hj; exact (Ov.out.lt g0 rfl).1))
        have hsome : ∃ g6, A6 = some ⟨g6, 0, none⟩ := by
          rcases ho6.2 with ⟨hv6, hn6⟩ | ⟨g6, cap, cur, hv6, _⟩
          · omega
          · injection hv6 with hv6; exact ⟨g6, hv6⟩
        obtain ⟨g6, rfl⟩ := hsome
        have hnew := hA6 _ rfl
        have Hnew : Hid (g6 = g0 ∨ g6 = w5.heap.size + 1) := by
          rcases hnew with ⟨ad, h1, h2⟩ | h2
          · injection h1 with h1; subst h1; exact .inl h2.symm
          · exact .inr (by simpa using h2)
        have hkeep : Hid (∀ j, j < w5.heap.size → j ≠ g0 → w6.heap[j]? = w5.heap[j]?) := by
          intro j hj hne
          exact (hg6.block j (by simp; omega) (by simp [Value.ownBlock]; exact hne)).trans (((Below.refl w5.heap.size w5).alloc (Nat.le_refl _) _).block j hj)
        have hM : Hid (MatD w6 w.heap.size g6 c6 (l ++ [bs])) := by
          have e7 : (l ++ [bs]).length = k + 1 := by rw [List.length_append, hl.out]; rfl
          refine ⟨vs ++ [.slice A5 bs.length c5], by rw [e7]; exact ho6, ?_⟩
          refine Heads.snoc (Hv.out.imp fun A c cs _ hc => ?_) ?_
          · have hlt3 : ∀ g, A = some ⟨g, 0, none⟩ → g < w5.heap.size := fun g hg => by subst hg; exact (hc.1.lt g rfl).2
            refine ⟨row_keep hc.1 fun g hg hs => hkeep.out g hs (hc.2.1 g hg), fun g hg => ?_, hc.2.2⟩
            rcases Hnew.out with h | h
            · rw [h]; exact hc.2.1 g hg
            · have := hlt3 g hg; omega
          · have hnew5 : ∀ g, A5 = some ⟨g, 0, none⟩ → wr.heap.size ≤ g ∧ g < w5.heap.size := fun g hg => by subst hg; exact Ho5.out.lt g rfl
            have hne5 : ∀ g, A5 = some ⟨g, 0, none⟩ → g ≠ g0 := fun g hg => by have := (hnew5 g hg).1; have := hg0.out; omega
            refine ⟨own_mono (row_keep Ho5.out fun g hg hs => hkeep.out g hs (hne5 g hg)) (by omega), fun g hg => ?_, hbl⟩
            rcases Hnew.out with h | h
            · rw [h]; exact hne5 g hg
            · have := (hnew5 g hg).2; omega
        clear ho6 hg6 hA6 hnew
        go_roundw
        case rel => exact ⟨k + 1, g6, c6, l ++ [bs], p5, by omega, by go_num, rfl, by unfold Hid; rw [List.length_append, hl.out]; rfl, hM, rd_grown r5 hgr hgl, by omega, only_step on5 hgr (Nat.le_refl _)⟩
        case measure => simp [intOf]; omega
      · obtain rfl : k = N := by omega
        have hge : ¬ (k : Int) < k := by omega
        first | rw [← hN] at hge | skip
        clear hlt
        go_wp2
        go_ret
        exact drawnMat_of hl (by omega) M.out rd (by omega) on

/-- What the draws of the chapter hand out. -/
def SomeMat (w : World) (ps : List Bits) (A : Option Addr) (w' : World) : Prop := ps.length ≤ 7 ∧ Small ps ∧ Mat w' A ps ∧ Below w.heap.size w w'
def SomeMatI (w : World) (e : Ending) (w' : World) : Prop :=
  ∃ A c, ∃ ps : List Bits, ∃ n : Int, e = .returned (.tuple #[.slice A ps.length c, .int .i64 n]) ∧ -10 ≤ n ∧ n ≤ 1000 ∧ SomeMat w ps A w'
def SomeMatB (w : World) (e : Ending) (w' : World) : Prop :=
  ∃ A c B d, ∃ ps : List Bits, ∃ mine : Bits, e = .returned (.tuple #[.slice A ps.length c, .slice B mine.length d]) ∧ mine.length ≤ 18 ∧ Cells w' B (bools mine) ∧ SomeMat w ps A w'
def SomeMatBI (w : World) (e : Ending) (w' : World) : Prop :=
  ∃ A c B d, ∃ ps : List Bits, ∃ mine : Bits, ∃ n : Int, e = .returned (.tuple #[.slice A ps.length c, .slice B mine.length d, .int .i64 n]) ∧ -10 ≤ n ∧ n ≤ 1000 ∧ mine.length ≤ 18 ∧ Cells w' B (bools mine) ∧ SomeMat w ps A w'

set_option maxHeartbeats 1000000 in
theorem drawCount_any (A : Option Addr) (c : Nat) (us : List Int) (w : World) (hr : Cells w A (bytes us)) (hu : ∀ u ∈ us, 0 ≤ u ∧ u ≤ 255) (hc : us.length ≤ c) (hm : us.length ≤ 17592186044416) :
    Calls Try.prog 22 #[.slice A us.length c] w (SomeMatI w) := by
  have Hu := hid hu
  clear hu
  go_enter Try.func22, Try.ntmps22
  go_wp2_with fail
  refine (l6Open_any _ _ _ _ hr Hu.out hc hm).mono ?_
  rintro e w1 ⟨rfl, rd, b1⟩
  have hlt : w.heap.size < w1.heap.size := rd.lt
  go_wp2_with fail
  refine (l92Peers_any _ _ _ rd (by omega)).mono ?_
  rintro e w2 ⟨g0, c2, ps, p', rfl, hl, own, rd2, hp', on⟩
  go_wp2_with fail
  refine (pick_any _ _ _ _ rd2 (by omega) (by omega)).mono ?_
  rintro e w3 ⟨m1, rfl, a0, a1, -, r3, o3, -⟩
  have a1 := a1 (by omega)
  go_wp2_with fail
  refine (pick_any _ _ _ _ r3 (by omega) (by omega)).mono ?_
  rintro e w4 ⟨m2, rfl, d0, d1, -, r4, o4, -⟩
  have d1 := d1 (by omega)
  go_wp2_with fail
  refine (pick_any _ _ _ _ r4 (by omega) (by omega)).mono ?_
  rintro e w5 ⟨m3, rfl, f0, f1, -, r5, o5, -⟩
  have f1 := f1 (by omega)
  have own5 := hid (((own.only hlt o3).only hlt o4).only hlt o5)
  have on5 := ((on.trans o3).trans o4).trans o5
  have b5 := b1.trans (on5.below (Nat.le_refl _) b1.size)
  clear own
  go_wp2_with fail
  go_ret2
  exact ⟨_, c2, ps, _, rfl, by omega, by omega, hl, own5.out.small (by omega), own5.out.mat, b5⟩
set_option maxHeartbeats 1000000 in
theorem drawOrder_any (A : Option Addr) (c : Nat) (us : List Int) (w : World) (hr : Cells w A (bytes us)) (hu : ∀ u ∈ us, 0 ≤ u ∧ u ≤ 255) (hc : us.length ≤ c) (hm : us.length ≤ 17592186044416) :
    Calls Try.prog 27 #[.slice A us.length c] w (SomeMatB w) := by
  have Hu := hid hu
  clear hu
  go_enter Try.func27, Try.ntmps27
  go_wp2_with fail
  refine (l6Open_any _ _ _ _ hr Hu.out hc hm).mono ?_
  rintro e w1 ⟨rfl, rd, b1⟩
  have hlt : w.heap.size < w1.heap.size := rd.lt
  go_wp2_with fail
  refine (l92Peers_any _ _ _ rd (by omega)).mono ?_
  rintro e w2 ⟨g0, c2, ps, p', rfl, hl, own, rd2, hp', on⟩
  go_wp2_with fail
  refine (l91Bits_any _ _ _ rd2 (by omega)).mono ?_
  rintro e w3 ⟨B, d, mine, p3, rfl, hml, om, r3, hp3, o3⟩
  have own5 := hid (own.only hlt o3)
  have Om := hid om
  have on5 := on.trans o3
  have b5 := b1.trans (on5.below (Nat.le_refl _) b1.size)
  clear own om
  go_wp2_with fail
  go_ret2
  exact ⟨_, c2, _, _, ps, mine, rfl, hml, own_cells Om.out, hl, own5.out.small (by omega), own5.out.mat, b5⟩
set_option maxHeartbeats 1000000 in
theorem drawPick_any (A : Option Addr) (c : Nat) (us : List Int) (w : World) (hr : Cells w A (bytes us)) (hu : ∀ u ∈ us, 0 ≤ u ∧ u ≤ 255) (hc : us.length ≤ c) (hm : us.length ≤ 17592186044416) :
    Calls Try.prog 31 #[.slice A us.length c] w (SomeMatBI w) := by
  have Hu := hid hu
  clear hu
  go_enter Try.func31, Try.ntmps31
  go_wp2_with fail
  refine (l6Open_any _ _ _ _ hr Hu.out hc hm).mono ?_
  rintro e w1 ⟨rfl, rd, b1⟩
  have hlt : w.heap.size < w1.heap.size := rd.lt
  go_wp2_with fail
  refine (l92Peers_any _ _ _ rd (by omega)).mono ?_
  rintro e w2 ⟨g0, c2, ps, p', rfl, hl, own, rd2, hp', on⟩
  go_wp2_with fail
  refine (l91Bits_any _ _ _ rd2 (by omega)).mono ?_
  rintro e w3 ⟨B, d, mine, p3, rfl, hml, om, r3, hp3, o3⟩
  have hlt2 : w.heap.size < w2.heap.size := rd2.lt
  by_cases h1 : 1 ≤ ps.length
  all_goals
    go_wp2_with fail
    refine (pick_any _ _ _ _ r3 (by omega) (by omega)).mono ?_
    rintro e w4 ⟨m1, rfl, a0, a1, -, r4, o4, -⟩
    have a1 := a1 (by omega)
    go_wp2_with fail
    refine (pick_any _ _ _ _ r4 (by omega) (by omega)).mono ?_
    rintro e w5 ⟨m2, rfl, d0, d1, -, r5, o5, -⟩
    have d1 := d1 (by omega)
    go_wp2_with fail
    refine (pick_any _ _ _ _ r5 (by omega) (by omega)).mono ?_
    rintro e w6 ⟨m3, rfl, f0, f1, -, r6, o6, -⟩
    have f1 := f1 (by omega)
    have own6 := hid ((((own.only hlt o3).only hlt o4).only hlt o5).only hlt o6)
    have Om := hid (own_only (own_only (own_only om hlt2 o4) hlt2 o5) hlt2 o6)
    have on6 := (((on.trans o3).trans o4).trans o5).trans o6
    have b6 := b1.trans (on6.below (Nat.le_refl _) b1.size)
    clear own om
    go_wp2_with fail
    go_ret3
    exact ⟨_, c2, _, _, ps, mine, _, rfl, by omega, by omega, hml, own_cells Om.out, hl, own6.out.small (by omega), own6.out.mat, b6⟩
theorem DRow.set {w : World} {base g0 : Nat} {A : Option Addr} {c : Nat} {bs : Bits} (h : DRow w base g0 A c bs) (i : Nat) (u : Value) : DRow (w.setCell ⟨g0, i, none⟩ u) base g0 A c bs :=
  ⟨row_keep h.1 fun g hg _ => Below.heap_setCell _ _ _ _ (h.2.1 g hg), h.2⟩
theorem MatD.set {w : World} {base g0 c : Nat} {ps : List Bits} (h : MatD w base g0 c ps) (i : Nat) {A : Option Addr} {c' : Nat} {bs : Bits} (hb : DRow w base g0 A c' bs) :
    MatD (w.setCell ⟨g0, i, none⟩ (.slice A bs.length c')) base g0 c (ps.set i bs) := by
  obtain ⟨vs, h1, h2⟩ := h
  have ho : Own w base (g0 + 1) 31 1 (some ⟨g0, 0, none⟩) c ps.length vs := ⟨h1, fun ad hA => by injection hA with hA; subst hA; exact Nat.lt_succ_self _⟩
  refine ⟨vs.set i (.slice A bs.length c'), by rw [List.length_set]; exact (ho.set i _).row, ?_⟩
  exact (h2.imp fun _ _ _ _ hr => hr.set i _).set i (hb.set i _)
def six : Bits := [true, true, true, true, true, true]
set_option maxHeartbeats 1000000 in
theorem drawWhole_any (A : Option Addr) (c : Nat) (us : List Int) (w : World) (hr : Cells w A (bytes us)) (hu : ∀ u ∈ us, 0 ≤ u ∧ u ≤ 255) (hc : us.length ≤ c) (hm : us.length ≤ 17592186044416) :
    Calls Try.prog 26 #[.slice A us.length c] w (SomeMatI w) := by
  have Hu := hid hu
  clear hu
  go_enter Try.func26, Try.ntmps26
  go_wp2_with fail
  refine (l6Open_any _ _ _ _ hr Hu.out hc hm).mono ?_
  rintro e w1 ⟨rfl, rd, b1⟩
  have hlt : w.heap.size < w1.heap.size := rd.lt
  go_wp2_with fail
  refine (l92Peers_any _ _ _ rd (by omega)).mono ?_
  rintro e w2 ⟨g0, c2, ps, p', rfl, hl, own, rd2, hp', on⟩
  have own2 := hid own
  obtain ⟨n, hn⟩ : ∃ n, ps.length = n := ⟨_, rfl⟩
  have Hn := hid hn
  rw [hn] at hl
  clear own
  go_wp2_with fail
  first | rw [hn] | skip
  clear hn
  go_loopw [6] (fun i wr => ∃ (k : Nat) (l : List Bits) (q : Nat), k ≤ n ∧ i = .int .i64 k ∧ Hid (l.length = n) ∧ Hid (MatD wr w1.heap.size g0 c2 l) ∧ Rd wr w.heap.size q ∧ q ≤ 1000 + 4 * k ∧ Only w.heap.size w1 wr) (fun i _ => n - (intOf i).toNat)
  case atStart => exact ⟨0, ps, p', Nat.zero_le _, rfl, Hn, own2, rd2, by omega, on⟩
  case round =>
    clear own2 rd2 on hp'
    obtain ⟨k, l, q, hk, rfl, hln, M, rd, hq, on⟩ := hrel
    by_cases hkn : k < n
    · go_wp2_with fail
      refine (pick_any _ _ _ _ rd (by omega) (by omega)).mono ?_
      rintro e w3 ⟨s, rfl, -, -, -, r3, o3, -⟩
      have M3 := hid (M.out.only hlt o3)
      have on3 := on.trans o3
      clear M rd on o3
      by_cases hs : s = 0
      · have hb0 : (s == 0) = true := by rw [hs]; rfl
        have hb : Below w3.heap.size w3 (w3.alloc (.cells (bools six).toArray 4)) := (Below.refl _ _).alloc (Nat.le_refl _) _
        have hnew := Blk.new w3 4 (bools six)
        have M4 := hid (M3.out.belowN hb)
        have r4 := r3.below hb
        have on4 := only_step on3 hb on3.size
        obtain ⟨vs, ov, -⟩ := M4.out
        obtain ⟨vs3, ov3, -⟩ := M3.out
        have hg3 := ov3.lt g0 rfl
        have hl6 : (bools six).length = 6 := rfl
        have hrow : Hid (DRow (w3.alloc (.cells (bools six).toArray 4)) w1.heap.size g0 (some ⟨w3.heap.size, 0, none⟩) 6 six) :=
          ⟨hnew.own (by omega) rfl (by simp [maxLen, six]), fun g hg => by injection hg with hg; injection hg with hg; omega, by simp [six]⟩
        obtain ⟨v0, hv0⟩ : ∃ v0, vs[k]? = some v0 := ⟨vs[k]'(by rw [ov.1, hln.out]; omega), List.getElem?_eq_getElem _⟩
        have oo : Own (w3.alloc (.cells (bools six).toArray 4)) w1.heap.size (g0 + 1) 31 1 (some ⟨g0, 0, none⟩) c2 l.length vs := ⟨ov, fun ad hA => by injection hA with hA; subst hA; exact Nat.lt_succ_self _⟩
        obtain ⟨g', hg', -, -, hcell, hfz⟩ := oo.of_get hv0
        injection hg' with hg'; injection hg' with hg'; subst hg'
        have hlo := hid hg3.1
        have hMs := hid (M4.out.set k hrow.out)
        have Hs := hid hs
        have hlog : w.heap.size < g0 := by omega
        clear hs hnew ov ov3 oo hv0 hg3 hl6 r3 on3
        simp only [bools, six, List.map_cons, List.map_nil] at hcell hfz r4 on4 hMs
        go_wp2_with fail
        go_roundw
        case rel => exact ⟨k + 1, l.set k six, q + 1, by omega, by go_num, by unfold Hid; rw [List.length_set, hln.out], hMs.out, rd_set r4 hlog _ _, by omega, only_set on4 hlo.out _ _⟩
        case measure => simp [intOf]; omega
      · have hb0 : (s == 0) = false := by rw [beq_eq_false_iff_ne]; exact hs
        clear hs
        go_wp2_with fail
        go_roundw
        case rel => exact ⟨k + 1, l, q + 1, by omega, by go_num, hln, M3, r3, by omega, on3⟩
        case measure => simp [intOf]; omega
    · obtain rfl : k = n := by omega
      clear hkn
      go_wp2_with fail
      refine (pick_any _ _ _ _ rd (by omega) (by omega)).mono ?_
      rintro e w3 ⟨m1, rfl, a0, a1, -, r3, o3, -⟩
      have a1 := a1 (by omega)
      go_wp2_with fail
      refine (pick_any _ _ _ _ r3 (by omega) (by omega)).mono ?_
      rintro e w4 ⟨m2, rfl, d0, d1, -, r4, o4, -⟩
      have d1 := d1 (by omega)
      go_wp2_with fail
      refine (pick_any _ _ _ _ r4 (by omega) (by omega)).mono ?_
      rintro e w5 ⟨m3, rfl, f0, f1, -, r5, o5, -⟩
      have f1 := f1 (by omega)
      have own5 := hid (((M.out.only hlt o3).only hlt o4).only hlt o5)
      have on5 := ((on.trans o3).trans o4).trans o5
      have b5 := b1.trans (on5.below (Nat.le_refl _) b1.size)
      clear M rd on o3 o4 o5 r3 r4
      go_wp2_with fail
      go_ret2
      exact ⟨some ⟨g0, 0, none⟩, c2, l, _, by rw [hln.out]; rfl, by omega, by omega, by rw [hln.out]; exact hl, own5.out.small (by rw [hln.out]; omega), own5.out.mat, b5⟩

end Go.Proofs.Ytckbpiapkooamaa
