/- Contracts of the reader of codes: open, pick. -/
import Derived.Test.YtihjjnmhionibaaC1
import Derived.Test.YtihjjnmhionibaaOpen
namespace Go.Proofs.Ytihjjnmhionibaa
open Go.RowKit

/-- The cells from A on are xs, and lie below block B. -/
def CellsU (w : World) (B : Nat) (A : Option Addr) (xs : List Value) : Prop :=
  xs = [] ∨ ∃ b off, A = some ⟨b, off, none⟩ ∧ b < B ∧ b < w.heap.size ∧ ∀ i v, xs[i]? = some v → w.cell? ⟨b, off + i, none⟩ = some v
theorem CellsU.of {w : World} {A : Option Addr} {xs : List Value} (h : Cells w A xs) {B : Nat} (hB : w.heap.size ≤ B) : CellsU w B A xs := by
  rcases h with h | ⟨b, off, hA, hb, hc⟩
  · exact .inl h
  · exact .inr ⟨b, off, hA, by omega, hb, hc⟩
theorem CellsU.chg {w w' : World} {B : Nat} {A : Option Addr} {xs : List Value} (h : CellsU w B A xs) {lo hi : Nat} (hc : Chg lo hi w w') (hB : B ≤ lo) : CellsU w' B A xs := by
  rcases h with h | ⟨b, off, hA, hb, hs, hcell⟩
  · exact .inl h
  · refine .inr ⟨b, off, hA, hb, by have := hc.size; omega, fun i v hv => ?_⟩
    rw [← hcell i v hv]
    exact World.cell?_of_block (hc.block b hs (.inl (by omega)))
theorem CellsU.below {w w' : World} {B : Nat} {A : Option Addr} {xs : List Value} (h : CellsU w B A xs) (hb : Below w.heap.size w w') : CellsU w' B A xs := by
  rcases h with h | ⟨b, off, hA, hB, hs, hcell⟩
  · exact .inl h
  · exact .inr ⟨b, off, hA, hB, by have := hb.size; omega, fun i v hv => (hb.cell (p := ⟨b, off + i, none⟩) hs).trans (hcell i v hv)⟩

/-- A reader of codes in block g, at place p. -/
def Rd (w : World) (g p : Nat) : Prop :=
  ∃ A c us, Blk w g 76 [.slice A (us.length) c, .int .i64 p] ∧ CellsU w g A (bytes us) ∧ (∀ u ∈ us, 0 ≤ u ∧ u ≤ 255) ∧ us.length ≤ 2000
theorem Rd.lt {w : World} {g p : Nat} (h : Rd w g p) : g < w.heap.size := by obtain ⟨_, _, _, hb, _⟩ := h; exact hb.lt
theorem Rd.below {w w' : World} {g p : Nat} (h : Rd w g p) (hb : Below w.heap.size w w') : Rd w' g p := by
  obtain ⟨A, c, us, hk, hc, hu, hl⟩ := h
  exact ⟨A, c, us, hk.below hb hk.lt, hc.below hb, hu, hl⟩
theorem Rd.chg {w w' : World} {g p lo hi : Nat} (h : Rd w g p) (hc : Chg lo hi w w') (hd : g < lo) : Rd w' g p := by
  obtain ⟨A, c, us, hk, hcc, hu, hl⟩ := h
  exact ⟨A, c, us, (hc.block g hk.lt (.inl hd)).trans hk, hcc.chg hc (by omega), hu, hl⟩
/-- Only block g, and what is new, may have changed. -/
def Only (g : Nat) (w w' : World) : Prop := Chg g (g + 1) w w'
theorem Only.below {g B : Nat} {w w' : World} (h : Only g w w') (hB : B ≤ g) (hs : B ≤ w.heap.size) : Below B w w' := Chg.below h hB hs
theorem Only.trans {g : Nat} {a b c : World} (h : Only g a b) (k : Only g b c) : Only g a c := Chg.trans h k
theorem Only.of_below {g : Nat} {w w' : World} (h : Below w.heap.size w w') : Only g w w' := ⟨h.os, h.tape, h.output, h.size, fun k hk _ => h.block k hk⟩

set_option maxHeartbeats 400000 in
theorem l6Open_any (A : Option Addr) (c : Nat) (us : List Int) (w : World) (hr : Cells w A (bytes us)) (hu : ∀ u ∈ us, 0 ≤ u ∧ u ≤ 255) (hc : us.length ≤ c) (hm : us.length ≤ 17592186044416) :
    Calls Try.prog 55 #[.slice A us.length c] w fun e w' => e = .returned (.pointer (some ⟨w.heap.size, 0, none⟩)) ∧ Rd w' w.heap.size 0 ∧ Below w.heap.size w w' := by
  by_cases hl : 2000 < us.length
  · have hr2 : CellsU w w.heap.size A (bytes (us.take 2000)) := by
      rcases CellsU.of hr (Nat.le_refl _) with h | ⟨b, off, hA, hb, hs, hcell⟩
      · left; unfold bytes at h ⊢; simp at h; simp [h]
      · refine .inr ⟨b, off, hA, hb, hs, fun i v hv => hcell i v ?_⟩
        unfold bytes at hv ⊢
        rw [List.map_take, List.getElem?_take] at hv
        split at hv
        · exact hv
        · cases hv
    have hr3 := hid hr2
    clear hr2
    have hlen : (us.take 2000).length = 2000 := by simp; omega
    have H := hid hlen
    have hc2 : 2000 ≤ c := by omega
    clear hlen
    go_enter Try.func55, Try.ntmps55
    go_wp2
    go_ret
    refine ⟨rfl, ⟨A, c, us.take 2000, ?_, hr3.out.below ((Below.refl _ _).alloc (Nat.le_refl _) _), fun u h => hu u (List.mem_of_mem_take h), by rw [H.out]; omega⟩, (Below.refl _ _).alloc (Nat.le_refl _) _⟩
    rw [H.out]
    exact Blk.new _ _ _
  · have hr3 := hid (CellsU.of hr (Nat.le_refl _))
    go_enter Try.func55, Try.ntmps55
    go_wp2
    go_ret
    exact ⟨rfl, ⟨A, c, us, Blk.new _ _ _, hr3.out.below ((Below.refl _ _).alloc (Nat.le_refl _) _), hu, by omega⟩, (Below.refl _ _).alloc (Nat.le_refl _) _⟩

theorem xor_range (a b : Int) (ha : 0 ≤ a) (ha2 : a < 4611686018427387904) (hb : 0 ≤ b) (hb2 : b < 4611686018427387904) :
    0 ≤ bits .xor .i64 a b ∧ bits .xor .i64 a b < 4611686018427387904 := by
  obtain ⟨x, rfl⟩ := Int.eq_ofNat_of_zero_le ha
  obtain ⟨y, rfl⟩ := Int.eq_ofNat_of_zero_le hb
  have hx : (BitVec.ofInt 64 (x : Int)).toNat = x := by
    rw [BitVec.ofInt_natCast, BitVec.toNat_ofNat]; exact Nat.mod_eq_of_lt (by omega)
  have hy : (BitVec.ofInt 64 (y : Int)).toNat = y := by
    rw [BitVec.ofInt_natCast, BitVec.toNat_ofNat]; exact Nat.mod_eq_of_lt (by omega)
  have hz : x ^^^ y < 2 ^ 62 := Nat.xor_lt_two_pow (by omega) (by omega)
  have e : bits .xor .i64 (x : Int) (y : Int) = ((x ^^^ y : Nat) : Int) := by
    show IntKind.i64.wrap ((BitVec.ofInt 64 (x : Int) ^^^ BitVec.ofInt 64 (y : Int)).toNat : Int) = _
    rw [BitVec.toNat_xor, hx, hy, IntKind.wrap_i64]
    omega
  rw [e]
  omega

/-- What a pick leaves: a number in range, the reader one place on, only its block changed. -/
def Picked (w : World) (g p : Nat) (n : Int) (e : Ending) (w' : World) : Prop :=
  ∃ m : Int, e = .returned (.int .i64 m) ∧ 0 ≤ m ∧ (1 ≤ n → m < n) ∧ (n < 1 → m = 0) ∧ Rd w' g (p + 1) ∧ Only g w w' ∧ w'.heap.size = w.heap.size

theorem rd_step {w : World} {g p : Nat} (h : Rd w g p) (n : Nat) : Rd ((w.setCell ⟨g, 1, none⟩ (.int .i64 ((p : Int) + 1))).drewN n) g (p + 1) ∧ Only g w ((w.setCell ⟨g, 1, none⟩ (.int .i64 ((p : Int) + 1))).drewN n) := by
  obtain ⟨A, c, us, hk, hc, hu, hl⟩ := h
  have hch : Chg g (g + 1) w (w.setCell ⟨g, 1, none⟩ (.int .i64 ((p : Int) + 1))) := chg_set w (Nat.le_refl _) (by omega) _ _
  have hch2 : Chg g (g + 1) w ((w.setCell ⟨g, 1, none⟩ (.int .i64 ((p : Int) + 1))).drewN n) := ⟨hch.os, hch.tape, hch.output, hch.size, hch.block⟩
  refine ⟨⟨A, c, us, ?_, (hc.chg hch2 (Nat.le_refl _)), hu, hl⟩, hch2⟩
  have := hk.set 1 (.int .i64 ((p : Int) + 1))
  simpa [Blk] using this

set_option maxHeartbeats 1000000 in
theorem pick_any (g p : Nat) (n : Int) (w : World) (hr : Rd w g p) (hp : p ≤ 1099511627776) (hn : n ≤ 1099511627776) :
    Calls Try.prog 60 #[.pointer (some ⟨g, 0, none⟩), .int .i64 n] w (Picked w g p n) := by
  have H := hid hr
  obtain ⟨A, c, us, hk, hcu, hu, hl⟩ := hr
  have c0 := hk.cell 0
  have c1 := hk.cell 1
  have f1 := hk.free 1
  simp only [List.getElem?_cons_zero, List.getElem?_cons_succ] at c0 c1
  have Hk := hid hk
  clear hk
  by_cases h1 : n < 1
  · go_enter Try.func60, Try.ntmps60
    go_wp2
    go_ret
    have h := rd_step H.out 0
    exact ⟨0, rfl, by omega, fun h => by omega, fun _ => rfl, h.1, h.2, by simp [World.setCell]⟩
  · by_cases h0 : us.length = 0
    · have hb0 : ((us.length : Int) == 0) = true := by simp [h0]
      have Hh := hid h0
      clear h0
      go_enter Try.func60, Try.ntmps60
      go_wp2
      go_ret
      have h := rd_step H.out 0
      exact ⟨0, rfl, by omega, fun h => by omega, fun _ => rfl, h.1, h.2, by simp [World.setCell]⟩
    · have hb0 : ((us.length : Int) == 0) = false := by rw [beq_eq_false_iff_ne]; omega
      obtain ⟨b, off, rfl, hbg, hbs, hcell⟩ : ∃ b off, A = some ⟨b, off, none⟩ ∧ b < g ∧ b < w.heap.size ∧ ∀ i v, (bytes us)[i]? = some v → w.cell? ⟨b, off + i, none⟩ = some v := by
        rcases hcu with h | h
        · unfold bytes at h; simp at h; simp [h] at h0
        · exact h
      have hbne : b ≠ g := by omega
      have hat : ∀ i, i < us.length → ∃ u : Int, 0 ≤ u ∧ u ≤ 255 ∧ w.cell? ⟨b, off + i, none⟩ = some (.int .u8 u) := by
        intro i hi
        refine ⟨us[i], (hu _ (List.getElem_mem hi)).1, (hu _ (List.getElem_mem hi)).2, hcell i _ ?_⟩
        unfold bytes; simp [hi]
      by_cases hlt : p < us.length
      · obtain ⟨u, u0, u1, hu2⟩ := hat p hlt
        clear hat hcell hu hcu
        go_enter Try.func60, Try.ntmps60
        go_wp2
        go_ret
        have h := rd_step H.out 0
        exact ⟨u % n, rfl, Int.emod_nonneg _ (by omega), fun _ => Int.emod_lt_of_pos _ (by omega), fun h => by omega, h.1, h.2, by simp [World.setCell]⟩
      · have hl1 : 0 < us.length := by omega
        obtain ⟨r1, hr1, e1⟩ : ∃ r : Nat, r < us.length ∧ (p : Int).tmod (us.length : Int) = r := ⟨p % us.length, Nat.mod_lt _ hl1, Int.ofNat_tmod _ _⟩
        obtain ⟨r2, hr2, e2⟩ : ∃ r : Nat, r < us.length ∧ ((p : Int) * 7 + 3).tmod (us.length : Int) = r := ⟨(p * 7 + 3) % us.length, Nat.mod_lt _ hl1, by
          rw [show ((p : Int) * 7 + 3) = ((p * 7 + 3 : Nat) : Int) by push_cast; rfl]; exact Int.ofNat_tmod _ _⟩
        obtain ⟨q, hq, e3⟩ : ∃ q : Nat, q ≤ p ∧ (p : Int).tdiv (us.length : Int) = q := ⟨p / us.length, Nat.div_le_self _ _, Int.ofNat_tdiv _ _⟩
        obtain ⟨ua, ua0, ua1, hua⟩ := hat r1 hr1
        obtain ⟨ub, ub0, ub1, hub⟩ := hat r2 hr2
        clear hat hcell hu hcu
        have k1 : IntKind.i64.wrap ((p : Int) * 7) = (p : Int) * 7 := IntWalk.i64_in _ (by omega)
        have k2 : IntKind.i64.wrap ((p : Int) * 7 + 3) = (p : Int) * 7 + 3 := IntWalk.i64_in _ (by omega)
        have k3 : IntKind.i64.wrap (ua * 131) = ua * 131 := IntWalk.i64_in _ (by omega)
        have k4 : IntKind.i64.wrap (ub * 1117) = ub * 1117 := IntWalk.i64_in _ (by omega)
        have k5 : IntKind.i64.wrap (ua * 131 + ub * 1117) = ua * 131 + ub * 1117 := IntWalk.i64_in _ (by omega)
        have k6 : IntKind.i64.wrap ((p : Int) * 29) = (p : Int) * 29 := IntWalk.i64_in _ (by omega)
        have k7 : IntKind.i64.wrap (ua * 131 + ub * 1117 + (p : Int) * 29) = ua * 131 + ub * 1117 + (p : Int) * 29 := IntWalk.i64_in _ (by omega)
        have k8 : IntKind.i64.wrap ((q : Int) * 53) = (q : Int) * 53 := IntWalk.i64_in _ (by omega)
        have k9 : IntKind.i64.wrap (ua * 131 + ub * 1117 + (p : Int) * 29 + (q : Int) * 53) = ua * 131 + ub * 1117 + (p : Int) * 29 + (q : Int) * 53 := IntWalk.i64_in _ (by omega)
        have k10 : IntKind.i64.wrap ua = ua := IntWalk.i64_in _ (by omega)
        have k11 : IntKind.i64.wrap ub = ub := IntWalk.i64_in _ (by omega)
        have k12 : IntKind.i64.wrap (r1 : Int) = r1 := IntWalk.i64_in _ (by omega)
        have k13 : IntKind.i64.wrap (r2 : Int) = r2 := IntWalk.i64_in _ (by omega)
        have k14 : IntKind.i64.wrap (q : Int) = q := IntWalk.i64_in _ (by omega)
        go_enter Try.func60, Try.ntmps60
        go_wp2
        go_quiet (fail)
        have x0 : 0 ≤ ua * 131 + ub * 1117 + (p : Int) * 29 + (q : Int) * 53 := by omega
        have x1 : ua * 131 + ub * 1117 + (p : Int) * 29 + (q : Int) * 53 < 4611686018427387904 := by omega
        clear k1 k2 k3 k4 k5 k6 k7 k8 k9 k10 k11 k12 k13 k14 e1 e2 e3 hua hub
        generalize ua * 131 + ub * 1117 + (p : Int) * 29 + (q : Int) * 53 = X at x0 x1 ⊢
        have hx := xor_range X (X / 64) x0 x1 (by omega) (by omega)
        have hx0 := hx.1
        have hx1 := hx.2
        go_wp2
        go_ret
        have h := rd_step H.out
        exact ⟨bits .xor .i64 X (X / 64) % n, rfl, Int.emod_nonneg _ (by omega), fun _ => Int.emod_lt_of_pos _ (by omega), fun h => by omega, (h _).1, (h _).2, by simp [World.setCell]⟩

end Go.Proofs.Ytihjjnmhionibaa
