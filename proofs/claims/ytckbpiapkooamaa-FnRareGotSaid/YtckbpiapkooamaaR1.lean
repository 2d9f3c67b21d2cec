/- Bits of peers in memory: a slice of slices of bools; the small readers. -/
import Derived.Test.YtckbpiapkooamaaC1
import Derived.Test.YtckbpiapkooamaaBase2
import Derived.Test.YtckbpiapkooamaaAfter
namespace Go.Proofs.Ytckbpiapkooamaa
open Go.RowKit

def bools (bs : List Bool) : List Value := bs.map Value.bool
theorem bools_length (bs : List Bool) : (bools bs).length = bs.length := by simp [bools]
theorem bools_get {bs : List Bool} {k : Nat} {b : Bool} (h : bs[k]? = some b) : (bools bs)[k]? = some (.bool b) := by simp [bools, h]
theorem bools_one (bs : List Bool) : ∀ u ∈ bools bs, u.oneCell' = true := by
  intro u hu; simp only [bools, List.mem_map] at hu; rcases hu with ⟨b, -, rfl⟩; rfl
theorem bools_snoc (l : List Bool) (b : Bool) : bools l ++ [.bool b] = bools (l ++ [b]) := by simp [bools]
theorem bools_set (l : List Bool) (k : Nat) (b : Bool) : (bools l).set k (.bool b) = bools (l.set k b) := by unfold bools; rw [List.map_set]
theorem one_bool (b : Bool) : ∀ u ∈ [Value.bool b], u.oneCell' = true := by simp [Value.oneCell']
theorem info_bool : (Try.prog.info? 4).map (fun i => (i.zero, i.size, i.bytes)) = some (some (.bool false), 1, 1) := by kernel_rfl
theorem info_row : (Try.prog.info? 31).map (fun i => (i.zero, i.size, i.bytes)) = some (some (.slice none 0 0), 1, 24) := by kernel_rfl

abbrev Bits := List Bool
/-- The values vs are slices, one for each row of ps, and of each R holds. -/
def Heads (R : Option Addr → Nat → Bits → Prop) (vs : List Value) (ps : List Bits) : Prop :=
  vs.length = ps.length ∧ ∀ (k : Nat) (bs : Bits), ps[k]? = some bs → ∃ A c, vs[k]? = some (Value.slice A bs.length c) ∧ R A c bs
theorem Heads.imp {R R' : Option Addr → Nat → Bits → Prop} {vs : List Value} {ps : List Bits} (h : Heads R vs ps) (hi : ∀ A c bs, bs ∈ ps → R A c bs → R' A c bs) : Heads R' vs ps :=
  ⟨h.1, fun k bs hk => by obtain ⟨A, c, h1, h2⟩ := h.2 k bs hk; exact ⟨A, c, h1, hi A c bs (List.mem_of_getElem? hk) h2⟩⟩
theorem Heads.nil {R : Option Addr → Nat → Bits → Prop} : Heads R [] [] := ⟨rfl, fun k bs h => by simp at h⟩
theorem Heads.snoc {R : Option Addr → Nat → Bits → Prop} {vs : List Value} {ps : List Bits} (h : Heads R vs ps) {A : Option Addr} {c : Nat} {bs : Bits} (hR : R A c bs) : Heads R (vs ++ [.slice A bs.length c]) (ps ++ [bs]) := by
  refine ⟨by simp [h.1], fun k cs hk => ?_⟩
  by_cases hlt : k < ps.length
  · rw [List.getElem?_append_left hlt] at hk
    rw [List.getElem?_append_left (by rw [h.1]; exact hlt)]
    exact h.2 k cs hk
  · have hk2 : k = ps.length := by
      have := (List.getElem?_eq_some_iff.1 hk).1
      simp at this; omega
    subst hk2
    simp at hk; subst hk
    exact ⟨A, c, by rw [← h.1]; simp, hR⟩
theorem Heads.set {R : Option Addr → Nat → Bits → Prop} {vs : List Value} {ps : List Bits} (h : Heads R vs ps) (i : Nat) {A : Option Addr} {c : Nat} {bs : Bits} (hR : R A c bs) : Heads R (vs.set i (.slice A bs.length c)) (ps.set i bs) := by
  refine ⟨by simp [h.1], fun k cs hk => ?_⟩
  rw [List.getElem?_set] at hk ⊢
  by_cases hik : i = k
  · subst hik
    rw [if_pos rfl] at hk ⊢
    split at hk
    · rename_i hl
      injection hk with hk; subst hk
      rw [if_pos (by rw [h.1]; exact hl)]
      exact ⟨A, c, rfl, hR⟩
    · cases hk
  · rw [if_neg hik] at hk ⊢
    exact h.2 k cs hk
theorem Heads.take {R : Option Addr → Nat → Bits → Prop} {vs : List Value} {ps : List Bits} (h : Heads R vs ps) (t : Nat) : Heads R (vs.take t) (ps.take t) := by
  refine ⟨by simp [h.1], fun k bs hk => ?_⟩
  rw [List.getElem?_take] at hk ⊢
  split at hk
  · rename_i ht; rw [if_pos ht]; exact h.2 k bs hk
  · cases hk

/-- The cells from A on are slices whose cells are the rows of ps. -/
def Mat (w : World) (A : Option Addr) (ps : List Bits) : Prop := ∃ vs, Cells w A vs ∧ Heads (fun A' _ bs => Cells w A' (bools bs)) vs ps
theorem Mat.below {w w' : World} {A : Option Addr} {ps : List Bits} (h : Mat w A ps) (hb : Below w.heap.size w w') : Mat w' A ps := by
  obtain ⟨vs, h1, h2⟩ := h
  exact ⟨vs, h1.below hb, h2.imp fun _ _ _ _ hc => hc.below hb⟩
theorem Mat.at_ {w : World} {A : Option Addr} {ps : List Bits} (h : Mat w A ps) {k : Nat} (hk : k < ps.length) :
    ∃ b off A' c bs, A = some ⟨b, off, none⟩ ∧ Hid (ps[k]? = some bs) ∧ w.cell? ⟨b, off + k, none⟩ = some (.slice A' bs.length c) ∧ Cells w A' (bools bs) := by
  obtain ⟨vs, h1, h2⟩ := h
  obtain ⟨A', c, hv, hc⟩ := h2.2 k _ (List.getElem?_eq_getElem hk)
  obtain ⟨b, off, hA, hcell⟩ := h1.of_get hv
  exact ⟨b, off, A', c, ps[k], hA, hid (List.getElem?_eq_getElem hk), hcell, hc⟩
theorem Mat.of {w : World} {A : Option Addr} {ps : List Bits} (h : Mat w A ps) {k : Nat} {bs : Bits} (hk : ps[k]? = some bs) :
    ∃ b off A' c, A = some ⟨b, off, none⟩ ∧ w.cell? ⟨b, off + k, none⟩ = some (.slice A' bs.length c) ∧ Cells w A' (bools bs) := by
  obtain ⟨vs, h1, h2⟩ := h
  obtain ⟨A', c, hv, hc⟩ := h2.2 k _ hk
  obtain ⟨b, off, hA, hcell⟩ := h1.of_get hv
  exact ⟨b, off, A', c, hA, hcell, hc⟩
theorem Cells.bool_of {w : World} {A : Option Addr} {bs : Bits} (h : Cells w A (bools bs)) {k : Nat} {b : Bool} (hz : bs[k]? = some b) :
    ∃ g off, A = some ⟨g, off, none⟩ ∧ w.cell? ⟨g, off + k, none⟩ = some (.bool b) := h.of_get (bools_get hz)

def bitAt (bs : Bits) (b : Nat) : Bool := bs.getD b false
theorem bitAt_in {bs : Bits} {b : Nat} {v : Bool} (h : bs[b]? = some v) : bitAt bs b = v := by simp [bitAt, List.getD_eq_getElem?_getD, h]
theorem bitAt_out {bs : Bits} {b : Nat} (h : bs.length ≤ b) : bitAt bs b = false := by simp [bitAt, List.getD_eq_getElem?_getD, List.getElem?_eq_none h]
def cnt (ps : List Bits) (b : Nat) : Nat := ps.countP fun bs => bitAt bs b
theorem cnt_le (ps : List Bits) (b : Nat) : cnt ps b ≤ ps.length := List.countP_le_length
theorem countP_snoc {α} (f : α → Bool) (l : List α) (k : Nat) (a : α) (h : l[k]? = some a) : (l.take (k + 1)).countP f = (l.take k).countP f + (if f a then 1 else 0) := by
  rw [take_snoc _ _ _ h, List.countP_append]; simp [List.countP_cons]
theorem countP_le {α} (f : α → Bool) (l : List α) (k : Nat) : (l.take k).countP f ≤ l.length := by
  have := List.countP_le_length (p := f) (l := l.take k)
  rw [List.length_take] at this; omega
theorem cnt_snoc {ps : List Bits} {k b : Nat} {bs : Bits} {v : Bool} (h : ps[k]? = some bs) (hv : bitAt bs b = v) : cnt (ps.take (k + 1)) b = cnt (ps.take k) b + (if v then 1 else 0) := by
  unfold cnt; rw [countP_snoc _ _ _ _ h, hv]

set_option maxHeartbeats 400000 in
theorem has_any (A : Option Addr) (c : Nat) (bs : Bits) (b : Nat) (w : World) (hr : Cells w A (bools bs)) :
    Calls Try.prog 53 #[.slice A bs.length c, .int .i64 b] w fun e w' => e = .returned (.bool (bitAt bs b)) ∧ w = w' := by
  by_cases hlt : b < bs.length
  · obtain ⟨v, hv⟩ : ∃ v, bs[b]? = some v := ⟨bs[b], List.getElem?_eq_getElem hlt⟩
    obtain ⟨g, off, rfl, hc⟩ := hr.bool_of hv
    have hfin := hid (bitAt_in hv)
    clear hr hv
    go_enter Try.func53, Try.ntmps53
    go_wp2
    go_ret
    exact ⟨ret_bool hfin.out.symm, rfl⟩
  · have hfin := hid (bitAt_out (bs := bs) (b := b) (by omega))
    go_enter Try.func53, Try.ntmps53
    go_wp2
    go_ret
    exact ⟨ret_bool hfin.out.symm, rfl⟩

set_option maxHeartbeats 400000 in
theorem l4At_any (A : Option Addr) (c : Nat) (bs : Bits) (b : Nat) (w : World) (hr : Cells w A (bools bs)) :
    Calls Try.prog 56 #[.slice A bs.length c, .int .i64 b] w fun e w' => e = .returned (.bool (bitAt bs b)) ∧ w = w' := by
  by_cases hlt : b < bs.length
  · obtain ⟨v, hv⟩ : ∃ v, bs[b]? = some v := ⟨bs[b], List.getElem?_eq_getElem hlt⟩
    obtain ⟨g, off, rfl, hc⟩ := hr.bool_of hv
    have hfin := hid (bitAt_in hv)
    clear hr hv
    go_enter Try.func56, Try.ntmps56
    go_wp2
    go_ret
    exact ⟨ret_bool hfin.out.symm, rfl⟩
  · have hfin := hid (bitAt_out (bs := bs) (b := b) (by omega))
    go_enter Try.func56, Try.ntmps56
    go_wp2
    go_ret
    exact ⟨ret_bool hfin.out.symm, rfl⟩

set_option maxHeartbeats 400000 in
theorem rareCount_any (A : Option Addr) (c : Nat) (ps : List Bits) (x : Nat) (w : World) (hr : Mat w A ps) (hm : ps.length ≤ 17592186044416) :
    Calls Try.prog 48 #[.slice A ps.length c, .int .i64 x] w fun e w' => e = .returned (.int .i64 (cnt ps x)) ∧ w = w' := by
  go_enter Try.func48, Try.ntmps48
  go_wp2
  go_loop [5,10] (fun n i => ∃ k : Nat, k ≤ ps.length ∧ i = .int .i64 k ∧ n = .int .i64 (cnt (ps.take k) x)) (fun _ i => ps.length - (intOf i).toNat)
  case atStart => exact ⟨0, Nat.zero_le _, rfl, by simp [cnt]⟩
  case round =>
    obtain ⟨k, hk, rfl, rfl⟩ := hrel
    have hle : cnt (ps.take k) x ≤ ps.length := countP_le _ ps k
    by_cases hlt : k < ps.length
    · obtain ⟨b, off, A', c', bs, rfl, hz, hc, hrow⟩ := hr.at_ hlt
      have hC := hid (has_any A' c' bs x w hrow)
      cases hv : bitAt bs x
      · have hs2 : Hid (cnt (ps.take (k + 1)) x = cnt (ps.take k) x) := by unfold Hid; rw [cnt_snoc hz.out hv]; simp
        rw [hv] at hC
        clear hv
        go_wp2_with (go_at_call 53; refine hC.out.mono ?_; rintro e w' ⟨rfl, rfl⟩)
        go_round
        case rel => exact ⟨k + 1, by omega, by go_num, by rw [hs2.out]⟩
        case measure => simp [intOf]; omega
      · have hs2 : Hid (cnt (ps.take (k + 1)) x = cnt (ps.take k) x + 1) := by unfold Hid; rw [cnt_snoc hz.out hv]; simp
        rw [hv] at hC
        clear hv
        go_wp2_with (go_at_call 53; refine hC.out.mono ?_; rintro e w' ⟨rfl, rfl⟩)
        go_round
        case rel => exact ⟨k + 1, by omega, by go_num, by rw [hs2.out]; go_num⟩
        case measure => simp [intOf]; omega
    · obtain rfl : k = ps.length := by omega
      clear hlt
      go_wp2
      go_ret
      exact ⟨ret_int (by first | rfl | (rw [List.take_length])), rfl⟩

set_option maxHeartbeats 400000 in
theorem l22Count_any (A : Option Addr) (c : Nat) (ps : List Bits) (x : Nat) (w : World) (hr : Mat w A ps) (hm : ps.length ≤ 17592186044416) :
    Calls Try.prog 45 #[.slice A ps.length c, .int .i64 x] w fun e w' => e = .returned (.int .i64 (cnt ps x)) ∧ w = w' := by
  go_enter Try.func45, Try.ntmps45
  go_wp2
  go_loop [5,6] (fun n i => ∃ k : Nat, k ≤ ps.length ∧ i = .int .i64 k ∧ n = .int .i64 (cnt (ps.take k) x)) (fun _ i => ps.length - (intOf i).toNat)
  case atStart => exact ⟨0, Nat.zero_le _, rfl, by simp [cnt]⟩
  case round =>
    obtain ⟨k, hk, rfl, rfl⟩ := hrel
    have hle : cnt (ps.take k) x ≤ ps.length := countP_le _ ps k
    by_cases hlt : k < ps.length
    · obtain ⟨b, off, A', c', bs, rfl, hz, hc, hrow⟩ := hr.at_ hlt
      have hC := hid (l4At_any A' c' bs x w hrow)
      cases hv : bitAt bs x
      · have hs2 : Hid (cnt (ps.take (k + 1)) x = cnt (ps.take k) x) := by unfold Hid; rw [cnt_snoc hz.out hv]; simp
        rw [hv] at hC
        clear hv
        go_wp2_with (go_at_call 56; refine hC.out.mono ?_; rintro e w' ⟨rfl, rfl⟩)
        go_round
        case rel => exact ⟨k + 1, by omega, by go_num, by rw [hs2.out]⟩
        case measure => simp [intOf]; omega
      · have hs2 : Hid (cnt (ps.take (k + 1)) x = cnt (ps.take k) x + 1) := by unfold Hid; rw [cnt_snoc hz.out hv]; simp
        rw [hv] at hC
        clear hv
        go_wp2_with (go_at_call 56; refine hC.out.mono ?_; rintro e w' ⟨rfl, rfl⟩)
        go_round
        case rel => exact ⟨k + 1, by omega, by go_num, by rw [hs2.out]; go_num⟩
        case measure => simp [intOf]; omega
    · obtain rfl : k = ps.length := by omega
      clear hlt
      go_wp2
      go_ret
      exact ⟨ret_int (by first | rfl | (rw [List.take_length])), rfl⟩


def okB (ps : List Bits) : Bool := decide (ps.length ≤ 6) && ps.all fun bs => decide (bs.length ≤ 16)
theorem okB_len {ps : List Bits} (h : okB ps = true) : ps.length ≤ 6 ∧ ∀ bs ∈ ps, bs.length ≤ 16 := by
  unfold okB at h
  rw [Bool.and_eq_true, List.all_eq_true] at h
  exact ⟨of_decide_eq_true h.1, fun bs hb => of_decide_eq_true (h.2 bs hb)⟩
theorem okB_long {ps : List Bits} (h : 6 < ps.length) : okB ps = false := by unfold okB; rw [decide_eq_false (by omega)]; rfl
theorem okB_row {ps : List Bits} {k : Nat} {bs : Bits} (hk : ps[k]? = some bs) (h : 16 < bs.length) : okB ps = false := by
  unfold okB
  rw [all_stop _ _ _ _ hk (decide_eq_false (by omega))]; simp
theorem okB_yes {ps : List Bits} (h : ps.length ≤ 6) (hall : ∀ bs ∈ ps, bs.length ≤ 16) : okB ps = true := by
  unfold okB; rw [Bool.and_eq_true, List.all_eq_true]; exact ⟨decide_eq_true h, fun bs hb => decide_eq_true (hall bs hb)⟩
theorem rows_snoc {ps : List Bits} {k : Nat} {bs : Bits} (hz : ps[k]? = some bs) (h : ∀ r ∈ ps.take k, r.length ≤ 16) (hn : bs.length ≤ 16) : ∀ r ∈ ps.take (k + 1), r.length ≤ 16 := by
  rw [take_snoc _ _ _ hz]
  intro y hy
  rcases List.mem_append.1 hy with h1 | h1
  · exact h y h1
  · simp at h1; subst h1; exact hn

set_option maxHeartbeats 400000 in
theorem peersValid_any (A : Option Addr) (c : Nat) (ps : List Bits) (w : World) (hr : Mat w A ps) (hm : ps.length ≤ 17592186044416) (hl : ∀ bs ∈ ps, bs.length ≤ 17592186044416) :
    Calls Try.prog 46 #[.slice A ps.length c] w fun e w' => e = .returned (.bool (okB ps)) ∧ w = w' := by
  have Hl := hid hl
  clear hl
  by_cases h6 : 6 < ps.length
  · have hfin := hid (okB_long h6)
    go_enter Try.func46, Try.ntmps46
    go_wp2
    go_ret
    exact ⟨ret_bool hfin.out.symm, rfl⟩
  · go_enter Try.func46, Try.ntmps46
    go_wp2
    go_loop [10] (fun i => ∃ k : Nat, k ≤ ps.length ∧ i = .int .i64 k ∧ Hid (∀ r ∈ ps.take k, r.length ≤ 16)) (fun i => ps.length - (intOf i).toNat)
    case atStart => exact ⟨0, Nat.zero_le _, rfl, by simp [Hid]⟩
    case round =>
      obtain ⟨k, hk, rfl, hall⟩ := hrel
      by_cases hlt : k < ps.length
      · obtain ⟨b, off, A', c', bs, rfl, hz, hc, -⟩ := hr.at_ hlt
        have hb := Hl.out bs (List.mem_of_getElem? hz.out)
        by_cases h16 : 16 < bs.length
        · have hfin := hid (okB_row hz.out h16)
          go_wp2
          go_ret
          exact ⟨ret_bool hfin.out.symm, rfl⟩
        · have hn := hid (rows_snoc hz.out hall.out (by omega))
          go_wp2
          go_round
          case rel => exact ⟨k + 1, by omega, by go_num, hn⟩
          case measure => simp [intOf]; omega
      · have hfin := hid (okB_yes (ps := ps) (by omega) (fun bs hb => hall.out bs (by rw [List.take_of_length_le (by omega)]; exact hb)))
        go_wp2
        go_ret
        exact ⟨ret_bool hfin.out.symm, rfl⟩

set_option maxHeartbeats 400000 in
theorem l22Peers_any (A : Option Addr) (c : Nat) (ps : List Bits) (w : World) (hr : Mat w A ps) (hm : ps.length ≤ 17592186044416) (hl : ∀ bs ∈ ps, bs.length ≤ 17592186044416) :
    Calls Try.prog 43 #[.slice A ps.length c] w fun e w' => e = .returned (.bool (okB ps)) ∧ w = w' := by
  have Hl := hid hl
  clear hl
  go_enter Try.func43, Try.ntmps43
  go_wp2
  go_loop [3] (fun i => ∃ k : Nat, k ≤ ps.length ∧ i = .int .i64 k ∧ Hid (∀ r ∈ ps.take k, r.length ≤ 16)) (fun i => ps.length - (intOf i).toNat)
  case atStart => exact ⟨0, Nat.zero_le _, rfl, by simp [Hid]⟩
  case round =>
    obtain ⟨k, hk, rfl, hall⟩ := hrel
    by_cases hlt : k < ps.length
    · obtain ⟨b, off, A', c', bs, rfl, hz, hc, -⟩ := hr.at_ hlt
      have hb := Hl.out bs (List.mem_of_getElem? hz.out)
      by_cases h16 : 16 < bs.length
      · have hfin := hid (okB_row hz.out h16)
        go_wp2
        go_ret
        exact ⟨ret_bool hfin.out.symm, rfl⟩
      · have hn := hid (rows_snoc hz.out hall.out (by omega))
        go_wp2
        go_round
        case rel => exact ⟨k + 1, by omega, by go_num, hn⟩
        case measure => simp [intOf]; omega
    · by_cases h6 : 6 < ps.length
      · have hfin := hid (okB_long h6)
        go_wp2
        go_ret
        exact ⟨ret_bool (by rw [hfin.out]; simp; omega), rfl⟩
      · have hfin := hid (okB_yes (ps := ps) (by omega) (fun bs hb => hall.out bs (by rw [List.take_of_length_le (by omega)]; exact hb)))
        go_wp2
        go_ret
        exact ⟨ret_bool (by rw [hfin.out]; simp; omega), rfl⟩

end Go.Proofs.Ytckbpiapkooamaa
