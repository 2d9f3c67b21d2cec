/- Requests: slices.DeleteFunc with each of its two closures. -/
import Derived.Test.YtjfpemneinclfaaW8
import Derived.Lib.SliceRun
namespace Go.Proofs.Ytjfpemneinclfaa
open Go.RowKit

theorem Chg.of_below {lo hi : Nat} {w w' : World} (h : Below w.heap.size w w') : Chg lo hi w w' := ⟨h.os, h.tape, h.output, h.size, fun k hk _ => h.block k hk⟩
theorem own_cut {w : World} {lo hi : Nat} {e : TypeId} {size n c : Nat} {A : Option Addr} {xs : List Value} (h : Own w lo hi e size A c n xs) {k : Nat} (hk : k ≤ n) : Own w lo hi e size A c k (xs.take (k * size)) := by
  have hks : k * size ≤ n * size := Nat.mul_le_mul_right _ hk
  refine ⟨⟨by rw [List.length_take, h.row.1]; omega, ?_⟩, h.lt⟩
  rcases h.row.2 with ⟨hv, hn⟩ | ⟨g, cap, cur, hv, hg, hh, h1, h2, h3, h4⟩
  · obtain rfl : k = 0 := by omega
    exact .inl ⟨by injection hv with a b c; subst a; subst c; rfl, rfl⟩
  · injection hv with a b c
    refine .inr ⟨g, cap, cur, by rw [a, c], hg, hh, by omega, h2, h3, ?_⟩
    rw [← h4, List.take_take, Nat.min_eq_left hks]
theorem own_set_out {w : World} {lo hi : Nat} {e : TypeId} {size n c : Nat} {g : Nat} {xs : List Value} (h : Own w lo hi e size (some ⟨g, 0, none⟩) c n xs) {i : Nat} (hi' : n * size ≤ i) (u : Value) :
    Own (w.setCell ⟨g, i, none⟩ u) lo hi e size (some ⟨g, 0, none⟩) c n xs := by
  have := h.sets i u
  rwa [List.set_eq_of_length_le (by rw [h.row.1]; exact hi')] at this
theorem own_setCells_out {lo hi : Nat} {e : TypeId} {size n c : Nat} {g : Nat} {xs : List Value} : ∀ (L : List Value) (i : Nat) (w : World), Own w lo hi e size (some ⟨g, 0, none⟩) c n xs → n * size ≤ i → Own (w.setCells g i L) lo hi e size (some ⟨g, 0, none⟩) c n xs
  | [], _, _, h, _ => h
  | v :: L, i, w, h, hi => own_setCells_out L (i + 1) _ (own_set_out h hi v) (by omega)
theorem chg_setCells {lo hi g : Nat} (h1 : lo ≤ g) (h2 : g < hi) : ∀ (L : List Value) (i : Nat) (w : World), Chg lo hi w (w.setCells g i L)
  | [], _, _ => Chg.refl _ _ _
  | v :: L, i, w => (chg_set w h1 h2 i v).trans (chg_setCells h1 h2 L (i + 1) _)

theorem wpList_clear {P : Program} {ops : Array Oper} {rest : List Oper} {o : Oper} {a : Act} {w : World} {Q : Exit → Act → World → Prop} (hgd : o.guard = none) (x : Operand) (t : TypeId)
    (ho : o.op = .call { callee := .builtin .clear, args := #[x], argTypes := #[t] })
    {e : TypeId} {z : Value} {size : Nat} (ht : P.underlying t = some (.slice e)) (hv : ∀ w, (zeroValue e).run P w = .ok z w) (hzs : z.cells.size = size) (hone : ∀ i, (z.cells[i % size]!).oneCell' = true)
    (lo hi : Nat) (g n c : Nat) (xs : List Value) (hown : Own w lo hi e size (some ⟨g, 0, none⟩) c n xs) (k : Nat) (hk : k < n) (m c' : Nat) (hm : m = n - k) (hx : a.eval x = .slice (some ⟨g, k * size, none⟩) m c')
    (h : ∀ w', Own w' lo hi e size (some ⟨g, 0, none⟩) c k (xs.take (k * size)) → Chg lo hi w w' → wpList P ops Q rest (a.put o.dst (.tuple #[])) w') : wpList P ops Q (o :: rest) a w := by
  have hlen : (Builtin.zeroCells z.cells m).toList.length = m * size := by simp [Builtin.zeroCells, hzs]
  have hkm : k * size + m * size = n * size := by rw [← Nat.add_mul]; congr 1; omega
  have hin : ∀ j, j < m * size → (w.cell? ⟨g, k * size + j, none⟩).isSome = true ∧ w.frozen? ⟨g, k * size + j, none⟩ = false := by
    intro j hj
    obtain ⟨g', v, hA, _, _, _, h4, h5⟩ := hown.at_ (i := k * size + j) (by rw [hown.row.1]; omega)
    injection hA with hA; injection hA with hA; subst hA
    exact ⟨by rw [h4]; rfl, h5⟩
  have hst := run_storeCells_cells (P := P) g (k * size) (Builtin.zeroCells z.cells m).toList 0 w (by intro j hj; exact (hin j (by omega)).1) (by intro j hj; exact (hin j (by omega)).2)
    (by intro v hv'; simp [Builtin.zeroCells] at hv'; obtain ⟨i, _, rfl⟩ := hv'; have := hone i; rw [hzs]; simpa using this)
  simp only [Nat.add_zero] at hst
  have hlo := (hown.row.lt g rfl).1
  have hhi := hown.lt _ rfl
  obtain ⟨m', rfl⟩ : ∃ m', m = m' + 1 := ⟨m - 1, by omega⟩
  have hrun : (Builtin.clear_ #[t] o.type #[.slice (some ⟨g, k * size, none⟩) (m' + 1) c']).run P w = .ok (.tuple #[]) (w.setCells g (k * size) (Builtin.zeroCells z.cells (m' + 1)).toList) := by
    simp [Builtin.clear_, run_underlying ht, hv, hst]
  refine wpList_plain hgd fun K hK => ?_
  unfold Oper.wp execOp
  simp only [ho, resolve, invoke, builtin, Sem.run_bind, Sem.run_pure, Result.andThen_ok, List.map_toArray, List.map_cons, List.map_nil, hx, hrun]
  exact hK _ _ (h _ (own_setCells_out _ _ _ (own_cut hown (by omega)) (Nat.le_refl _)) (chg_setCells hlo hhi _ _ _))

theorem ret_slice {A : Option Addr} {c m n : Nat} (h : m = n) : Ending.returned (.slice A m c) = .returned (.slice A n c) := by rw [h]
theorem zero_ask : ∀ w, (zeroValue 34).run Try.prog w = .ok (.agg #[.int .i64 0, .int .i64 0]) w := by intro w; kernel_rfl
theorem one_cells : ∀ i, ((Value.agg #[.int .i64 0, .int .i64 0]).cells[i % 2]!).oneCell' = true := by
  intro i
  have : i % 2 = 0 ∨ i % 2 = 1 := by omega
  rcases this with h | h <;> rw [h] <;> rfl

/-- Where the first hit lies. -/
def IdxIs (f : AskT → Bool) (l : List AskT) (n : Int) : Prop :=
  (n = -1 ∧ ∀ z ∈ l, f z = false) ∨ ∃ k : Nat, n = k ∧ k < l.length ∧ (∀ z, l[k]? = some z → f z = true) ∧ ∀ z ∈ l.take k, f z = false
theorem no_more_f {f : AskT → Bool} {l : List AskT} {k : Nat} {p q : Int} (hz : l[k]? = some (p, q)) (h : ∀ z ∈ l.take k, f z = false) (hn : f (p, q) = false) : ∀ z ∈ l.take (k + 1), f z = false := by
  rw [take_snoc _ _ _ hz]
  intro y hy
  rcases List.mem_append.1 hy with h1 | h1
  · exact h y h1
  · simp at h1; subst h1; exact hn
theorem filter_snoc {α} (g : α → Bool) (l : List α) (k : Nat) (a : α) (h : l[k]? = some a) : (l.take (k + 1)).filter g = (l.take k).filter g ++ (if g a then [a] else []) := by
  rw [take_snoc _ _ _ h, List.filter_append]; congr 1; cases hg : g a <;> simp [hg]
theorem filter_none {α} {f : α → Bool} {l : List α} (h : ∀ z ∈ l, f z = false) : l.filter (fun a => !f a) = l := by
  rw [List.filter_eq_self]; intro a ha; simp [h a ha]
theorem filter_len_le {α} (g : α → Bool) (l : List α) (k : Nat) (hk : k ≤ l.length) : ((l.take k).filter g).length ≤ k := by
  have := List.length_filter_le g (l.take k); rw [List.length_take] at this; omega
theorem take_set_snoc {α} (M : List α) (i : Nat) (a : α) (hi : i < M.length) : (M.set i a).take (i + 1) = M.take i ++ [a] := by
  rw [take_snoc (M.set i a) i a (by simp [hi]), List.take_set, List.set_eq_of_length_le (by simp; omega)]
theorem drop_set_lt {α} (M : List α) (i j : Nat) (a : α) (h : i < j) : (M.set i a).drop j = M.drop j := by
  rw [List.drop_set, if_pos h]

/-- What the closure does, as long as only blocks from lo up to hi have changed. -/
def PredWindowDrop (f : AskT → Bool) (bx lo hi : Nat) (w : World) : Prop :=
  ∀ (W : World) (p q : Int), Chg lo hi w W → Calls Try.prog 61 #[av p q, .pointer (some ⟨bx, 0, none⟩)] W (RetB W (f (p, q)))
set_option maxHeartbeats 400000 in
theorem idxWindowDrop_any (f : AskT → Bool) (bx : Nat) (A : Option Addr) (c : Nat) (l : List AskT) (w : World) (hr : Cells w A (asks l)) (hm : l.length ≤ 1048576) {lo hi : Nat} (hp : Hid (PredWindowDrop f bx lo hi w)) :
    Calls Try.prog 65 #[.slice A l.length c, .func (.func 61) #[] #[.pointer (some ⟨bx, 0, none⟩)]] w fun e w' => ∃ n : Int, e = .returned (.int .i64 n) ∧ Hid (IdxIs f l n) ∧ Below w.heap.size w w' := by
  go_enter Try.func65, Try.ntmps65
  go_wp2
  go_loopw [8] (fun i wr => ∃ k : Nat, k ≤ l.length ∧ i = .int .i64 k ∧ Hid (∀ z ∈ l.take k, f z = false) ∧ Below w.heap.size w wr) (fun i _ => l.length - (intOf i).toNat)
  case atStart => exact ⟨0, Nat.zero_le _, rfl, by simp [Hid], Below.refl _ _⟩
  case round =>
    obtain ⟨k, hk, rfl, hall, hbel⟩ := hrel
    by_cases hlt : k < l.length
    · obtain ⟨b, off, p, q, rfl, hz, hc, hc1⟩ := (hr.below hbel).ask_at hlt
      have hP := hid (hp.out wr p q (Chg.of_below hbel))
      cases hf : f (p, q)
      · have hn := hid (no_more_f hz.out hall.out hf)
        rw [hf] at hP
        clear hf
        go_wp2_with fail
        refine hP.out.mono ?_; rintro e w2 ⟨rfl, b2⟩
        go_wp2
        go_roundw
        case rel => exact ⟨k + 1, by omega, by go_num, hn, below_step hbel b2⟩
        case measure => simp [intOf]; omega
      · have hfin : Hid (IdxIs f l k) := .inr ⟨k, rfl, hlt, fun z h => by rw [hz.out] at h; injection h with h; subst h; exact hf, hall.out⟩
        rw [hf] at hP
        clear hf
        go_wp2_with fail
        refine hP.out.mono ?_; rintro e w2 ⟨rfl, b2⟩
        go_wp2
        go_ret
        exact ⟨k, rfl, hfin, below_step hbel b2⟩
    · have hfin : Hid (IdxIs f l (-1)) := .inl ⟨rfl, fun z hz => hall.out z (by rw [List.take_of_length_le (by omega)]; exact hz)⟩
      go_wp2
      go_ret
      exact ⟨-1, rfl, hfin, hbel⟩

set_option maxHeartbeats 1000000 in
theorem delWindowDrop_any (f : AskT → Bool) (bx : Nat) (A : Option Addr) (c lo hi : Nat) (l : List AskT) (w : World) (ho : Own w lo hi 34 2 A c l.length (asks l)) (hm : l.length ≤ 1048576) (hp0 : PredWindowDrop f bx lo hi w) :
    Calls Try.prog 60 #[.slice A l.length c, .func (.func 61) #[] #[.pointer (some ⟨bx, 0, none⟩)]] w fun e w' => e = .returned (.slice A (l.filter fun a => !f a).length c) ∧ Own w' lo hi 34 2 A c (l.filter fun a => !f a).length (asks (l.filter fun a => !f a)) ∧ Chg lo hi w w' := by
  have hp := hid hp0
  clear hp0
  have Ho := hid ho
  have hcap : l.length ≤ c := own_cap ho.row
  have hcc : c ≤ 9223372036854775807 := by have := own_capM ho.row; simp only [maxLen] at this; exact this
  clear ho
  go_enter Try.func60, Try.ntmps60
  go_wp2_with fail
  refine (idxWindowDrop_any f bx A c l w Ho.out.cells hm hp).mono ?_
  rintro e w1 ⟨n, rfl, hn, b1⟩
  have ch1 : Chg lo hi w w1 := Chg.of_below b1
  have o1 := hid (Ho.out.below b1)
  rcases hn.out with ⟨hn1, hall⟩ | ⟨k0, rfl, hk0, hyes, hpre⟩
  · have hfl := hid (filter_none hall)
    have hneg : (n == -1) = true := by rw [hn1]; rfl
    clear hall hn hn1
    go_wp2
    go_ret
    exact ⟨ret_slice (by rw [hfl.out]), by rw [hfl.out]; exact o1.out, ch1⟩
  · have hneg : ((k0 : Int) == -1) = false := by rw [beq_eq_false_iff_ne]; omega
    have hfl0 : Hid ((l.take k0).filter (fun a => !f a) = l.take k0) := filter_none hpre
    have hfl1 : Hid ((l.take (k0 + 1)).filter (fun a => !f a) = l.take k0) := by
      unfold Hid
      rw [filter_snoc _ _ _ _ (List.getElem?_eq_getElem hk0), hfl0.out, hyes _ (List.getElem?_eq_getElem hk0)]; simp
    clear hyes hpre hn
    go_wp2
    go_loopw [5, 6] (fun si sj wr => ∃ (i j : Nat) (M : List AskT), i < j ∧ j ≤ l.length ∧ si = .int .i64 i ∧ sj = .int .i64 j ∧ Hid (M.length = l.length) ∧ Hid (M.take i = (l.take j).filter (fun a => !f a)) ∧ Hid (M.drop j = l.drop j) ∧ Hid (Own wr lo hi 34 2 A c l.length (asks M)) ∧ Chg lo hi w wr) (fun _ j _ => l.length - (intOf j).toNat)
    case atStart => exact ⟨k0, k0 + 1, l, by omega, by omega, rfl, by go_num, rfl, hfl1.out.symm, rfl, o1, ch1⟩
    case round =>
      clear hfl0 hfl1 o1 ch1 b1 hneg hk0
      obtain ⟨i, j, M, hij, hj, rfl, rfl, hM, hMt, hMd, hoM, hch⟩ := hrel
      by_cases hlt : j < l.length
      · obtain ⟨b, off, p, q, hA, hz, hc, hc1⟩ := hoM.out.cells.ask_at (k := j) (by rw [hM.out]; exact hlt)
        have hzl : Hid (l[j]? = some (p, q)) := by
          have h1 : (M.drop j)[0]? = (l.drop j)[0]? := by rw [hMd.out]
          simp only [List.getElem?_drop, Nat.add_zero] at h1
          unfold Hid; rw [← h1]; exact hz.out
        obtain ⟨g, v0, hA2, hlo, hhi, _, _, hf0⟩ := hoM.out.at_ (i := i * 2) (by rw [asks_length, hM.out]; omega)
        obtain ⟨g', v1, hA3, _, _, _, _, hf1⟩ := hoM.out.at_ (i := i * 2 + 1) (by rw [asks_length, hM.out]; omega)
        rw [hA] at hA2 hA3
        injection hA2 with h2; injection h2 with e1 e2; subst e1; subst e2
        injection hA3 with h3; injection h3 with e3; subst e3
        subst hA
        rw [Nat.zero_add] at hc hc1
        have hb0 : Below wr.heap.size wr (wr.alloc (.cells #[.int .i64 p, .int .i64 q] 34)) := (Below.refl _ _).alloc (Nat.le_refl _) _
        have hq := Blk.new wr 34 [.int .i64 p, .int .i64 q]
        have hq0 := hq.cell 0
        have hq1 := hq.cell 1
        simp only [List.getElem?_cons_zero, List.getElem?_cons_succ] at hq0 hq1
        clear hq
        have hch1 := hch.trans (Chg.of_below (lo := lo) (hi := hi) hb0)
        have hP := hid (hp.out _ p q hch1)
        cases hf : f (p, q)
        · rw [hf] at hP
          have hMt2 : Hid ((M.set i (p, q)).take (i + 1) = (l.take (j + 1)).filter (fun a => !f a)) := by
            unfold Hid
            rw [take_set_snoc _ _ _ (by rw [hM.out]; omega), filter_snoc _ _ _ _ hzl.out, hMt.out, hf]; rfl
          have hMd2 : Hid ((M.set i (p, q)).drop (j + 1) = l.drop (j + 1)) := by
            unfold Hid
            rw [drop_set_lt _ _ _ _ (by omega), ← List.drop_drop, ← List.drop_drop, hMd.out]
          clear hf
          go_wp2_with fail
          refine hP.out.mono ?_; rintro e w2 ⟨rfl, b2⟩
          have hb2 := below_step hb0 b2
          have o2 := hoM.out.below hb2
          obtain ⟨_, _, hA4, _, _, _, hd0, hfz0⟩ := o2.at_ (i := i * 2) (by rw [asks_length, hM.out]; omega)
          obtain ⟨_, _, hA5, _, _, _, hd1, hfz1⟩ := o2.at_ (i := i * 2 + 1) (by rw [asks_length, hM.out]; omega)
          injection hA4 with h4; injection h4 with e4; subst e4
          injection hA5 with h5; injection h5 with e5; subst e5
          have r0 := cell_later b2 hq0
          have r1 := cell_later b2 hq1
          have ch2 := hch.trans (Chg.of_below (lo := lo) (hi := hi) hb2)
          have O2 := hid o2
          clear o2 hq0 hq1 hch hch1 hc hc1 hf0 hf1
          go_wp2
          go_roundw
          case rel => exact ⟨i + 1, j + 1, M.set i (p, q), by omega, by omega, by go_num, by go_num, by unfold Hid; rw [List.length_set, hM.out], hMt2, hMd2, by unfold Hid; rw [← asks_set]; exact (O2.out.sets _ _).sets _ _, (ch2.trans (chg_set _ hlo hhi _ _)).trans (chg_set _ hlo hhi _ _)⟩
          case measure => simp [intOf]; omega
        · rw [hf] at hP
          have hMt2 : Hid (M.take i = (l.take (j + 1)).filter (fun a => !f a)) := by
            unfold Hid
            rw [filter_snoc _ _ _ _ hzl.out, hMt.out, hf]; simp
          have hMd2 : Hid (M.drop (j + 1) = l.drop (j + 1)) := by
            unfold Hid
            rw [← List.drop_drop, ← List.drop_drop, hMd.out]
          clear hf
          go_wp2_with fail
          refine hP.out.mono ?_; rintro e w2 ⟨rfl, b2⟩
          have hb2 := below_step hb0 b2
          have O2 := hid (hoM.out.below hb2)
          have ch2 := hch.trans (Chg.of_below (lo := lo) (hi := hi) hb2)
          clear hq0 hq1 hch hch1 hc hc1 hf0 hf1
          go_wp2
          go_roundw
          case rel => exact ⟨i, j + 1, M, by omega, by omega, rfl, by go_num, hM, hMt2, hMd2, O2, ch2⟩
          case measure => simp [intOf]; omega
      · obtain rfl : j = l.length := by omega
        obtain ⟨g, v0, rfl, hlo, hhi, _, _, hf0⟩ := hoM.out.at_ (i := i * 2) (by rw [asks_length, hM.out]; omega)
        have hfin : Hid (M.take i = l.filter (fun a => !f a)) := by have := hMt.out; rwa [List.take_length] at this
        have hleni : Hid ((l.filter (fun a => !f a)).length = i) := by unfold Hid; rw [← hfin.out, List.length_take, hM.out]; omega
        have hne : (i == c) = false := by rw [beq_eq_false_iff_ne]; omega
        clear hlt
        go_wp2_with (refine wpList_clear rfl (.tmp 38) 25 rfl Try.underlying25 zero_ask rfl one_cells lo hi g l.length c (asks M) hoM.out i hij _ _ rfl rfl ?_; intro w3 o3 ch3)
        go_ret
        exact ⟨ret_slice hleni.out.symm, by rw [hleni.out, ← hfin.out, ← asks_take]; exact o3, hch.trans ch3⟩

/-- What the closure does, as long as only blocks from lo up to hi have changed. -/
def PredWindowGot (f : AskT → Bool) (bx lo hi : Nat) (w : World) : Prop :=
  ∀ (W : World) (p q : Int), Chg lo hi w W → Calls Try.prog 62 #[av p q, .pointer (some ⟨bx, 0, none⟩)] W (RetB W (f (p, q)))
set_option maxHeartbeats 400000 in
theorem idxWindowGot_any (f : AskT → Bool) (bx : Nat) (A : Option Addr) (c : Nat) (l : List AskT) (w : World) (hr : Cells w A (asks l)) (hm : l.length ≤ 1048576) {lo hi : Nat} (hp : Hid (PredWindowGot f bx lo hi w)) :
    Calls Try.prog 65 #[.slice A l.length c, .func (.func 62) #[] #[.pointer (some ⟨bx, 0, none⟩)]] w fun e w' => ∃ n : Int, e = .returned (.int .i64 n) ∧ Hid (IdxIs f l n) ∧ Below w.heap.size w w' := by
  go_enter Try.func65, Try.ntmps65
  go_wp2
  go_loopw [8] (fun i wr => ∃ k : Nat, k ≤ l.length ∧ i = .int .i64 k ∧ Hid (∀ z ∈ l.take k, f z = false) ∧ Below w.heap.size w wr) (fun i _ => l.length - (intOf i).toNat)
  case atStart => exact ⟨0, Nat.zero_le _, rfl, by simp [Hid], Below.refl _ _⟩
  case round =>
    obtain ⟨k, hk, rfl, hall, hbel⟩ := hrel
    by_cases hlt : k < l.length
    · obtain ⟨b, off, p, q, rfl, hz, hc, hc1⟩ := (hr.below hbel).ask_at hlt
      have hP := hid (hp.out wr p q (Chg.of_below hbel))
      cases hf : f (p, q)
      · have hn := hid (no_more_f hz.out hall.out hf)
        rw [hf] at hP
        clear hf
        go_wp2_with fail
        refine hP.out.mono ?_; rintro e w2 ⟨rfl, b2⟩
        go_wp2
        go_roundw
        case rel => exact ⟨k + 1, by omega, by go_num, hn, below_step hbel b2⟩
        case measure => simp [intOf]; omega
      · have hfin : Hid (IdxIs f l k) := .inr ⟨k, rfl, hlt, fun z h => by rw [hz.out] at h; injection h with h; subst h; exact hf, hall.out⟩
        rw [hf] at hP
        clear hf
        go_wp2_with fail
        refine hP.out.mono ?_; rintro e w2 ⟨rfl, b2⟩
        go_wp2
        go_ret
        exact ⟨k, rfl, hfin, below_step hbel b2⟩
    · have hfin : Hid (IdxIs f l (-1)) := .inl ⟨rfl, fun z hz => hall.out z (by rw [List.take_of_length_le (by omega)]; exact hz)⟩
      go_wp2
      go_ret
      exact ⟨-1, rfl, hfin, hbel⟩

set_option maxHeartbeats 1000000 in
theorem delWindowGot_any (f : AskT → Bool) (bx : Nat) (A : Option Addr) (c lo hi : Nat) (l : List AskT) (w : World) (ho : Own w lo hi 34 2 A c l.length (asks l)) (hm : l.length ≤ 1048576) (hp0 : PredWindowGot f bx lo hi w) :
    Calls Try.prog 60 #[.slice A l.length c, .func (.func 62) #[] #[.pointer (some ⟨bx, 0, none⟩)]] w fun e w' => e = .returned (.slice A (l.filter fun a => !f a).length c) ∧ Own w' lo hi 34 2 A c (l.filter fun a => !f a).length (asks (l.filter fun a => !f a)) ∧ Chg lo hi w w' := by
  have hp := hid hp0
  clear hp0
  have Ho := hid ho
  have hcap : l.length ≤ c := own_cap ho.row
  have hcc : c ≤ 9223372036854775807 := by have := own_capM ho.row; simp only [maxLen] at this; exact this
  clear ho
  go_enter Try.func60, Try.ntmps60
  go_wp2_with fail
  refine (idxWindowGot_any f bx A c l w Ho.out.cells hm hp).mono ?_
  rintro e w1 ⟨n, rfl, hn, b1⟩
  have ch1 : Chg lo hi w w1 := Chg.of_below b1
  have o1 := hid (Ho.out.below b1)
  rcases hn.out with ⟨hn1, hall⟩ | ⟨k0, rfl, hk0, hyes, hpre⟩
  · have hfl := hid (filter_none hall)
    have hneg : (n == -1) = true := by rw [hn1]; rfl
    clear hall hn hn1
    go_wp2
    go_ret
    exact ⟨ret_slice (by rw [hfl.out]), by rw [hfl.out]; exact o1.out, ch1⟩
  · have hneg : ((k0 : Int) == -1) = false := by rw [beq_eq_false_iff_ne]; omega
    have hfl0 : Hid ((l.take k0).filter (fun a => !f a) = l.take k0) := filter_none hpre
    have hfl1 : Hid ((l.take (k0 + 1)).filter (fun a => !f a) = l.take k0) := by
      unfold Hid
      rw [filter_snoc _ _ _ _ (List.getElem?_eq_getElem hk0), hfl0.out, hyes _ (List.getElem?_eq_getElem hk0)]; simp
    clear hyes hpre hn
    go_wp2
    go_loopw [5, 6] (fun si sj wr => ∃ (i j : Nat) (M : List AskT), i < j ∧ j ≤ l.length ∧ si = .int .i64 i ∧ sj = .int .i64 j ∧ Hid (M.length = l.length) ∧ Hid (M.take i = (l.take j).filter (fun a => !f a)) ∧ Hid (M.drop j = l.drop j) ∧ Hid (Own wr lo hi 34 2 A c l.length (asks M)) ∧ Chg lo hi w wr) (fun _ j _ => l.length - (intOf j).toNat)
    case atStart => exact ⟨k0, k0 + 1, l, by omega, by omega, rfl, by go_num, rfl, hfl1.out.symm, rfl, o1, ch1⟩
    case round =>
      clear hfl0 hfl1 o1 ch1 b1 hneg hk0
      obtain ⟨i, j, M, hij, hj, rfl, rfl, hM, hMt, hMd, hoM, hch⟩ := hrel
      by_cases hlt : j < l.length
      · obtain ⟨b, off, p, q, hA, hz, hc, hc1⟩ := hoM.out.cells.ask_at (k := j) (by rw [hM.out]; exact hlt)
        have hzl : Hid (l[j]? = some (p, q)) := by
          have h1 : (M.drop j)[0]? = (l.drop j)[0]? := by rw [hMd.out]
          simp only [List.getElem?_drop, Nat.add_zero] at h1
          unfold Hid; rw [← h1]; exact hz.out
        obtain ⟨g, v0, hA2, hlo, hhi, _, _, hf0⟩ := hoM.out.at_ (i := i * 2) (by rw [asks_length, hM.out]; omega)
        obtain ⟨g', v1, hA3, _, _, _, _, hf1⟩ := hoM.out.at_ (i := i * 2 + 1) (by rw [asks_length, hM.out]; omega)
        rw [hA] at hA2 hA3
        injection hA2 with h2; injection h2 with e1 e2; subst e1; subst e2
        injection hA3 with h3; injection h3 with e3; subst e3
        subst hA
        rw [Nat.zero_add] at hc hc1
        have hb0 : Below wr.heap.size wr (wr.alloc (.cells #[.int .i64 p, .int .i64 q] 34)) := (Below.refl _ _).alloc (Nat.le_refl _) _
        have hq := Blk.new wr 34 [.int .i64 p, .int .i64 q]
        have hq0 := hq.cell 0
        have hq1 := hq.cell 1
        simp only [List.getElem?_cons_zero, List.getElem?_cons_succ] at hq0 hq1
        clear hq
        have hch1 := hch.trans (Chg.of_below (lo := lo) (hi := hi) hb0)
        have hP := hid (hp.out _ p q hch1)
        cases hf : f (p, q)
        · rw [hf] at hP
          have hMt2 : Hid ((M.set i (p, q)).take (i + 1) = (l.take (j + 1)).filter (fun a => !f a)) := by
            unfold Hid
            rw [take_set_snoc _ _ _ (by rw [hM.out]; omega), filter_snoc _ _ _ _ hzl.out, hMt.out, hf]; rfl
          have hMd2 : Hid ((M.set i (p, q)).drop (j + 1) = l.drop (j + 1)) := by
            unfold Hid
            rw [drop_set_lt _ _ _ _ (by omega), ← List.drop_drop, ← List.drop_drop, hMd.out]
          clear hf
          go_wp2_with fail
          refine hP.out.mono ?_; rintro e w2 ⟨rfl, b2⟩
          have hb2 := below_step hb0 b2
          have o2 := hoM.out.below hb2
          obtain ⟨_, _, hA4, _, _, _, hd0, hfz0⟩ := o2.at_ (i := i * 2) (by rw [asks_length, hM.out]; omega)
          obtain ⟨_, _, hA5, _, _, _, hd1, hfz1⟩ := o2.at_ (i := i * 2 + 1) (by rw [asks_length, hM.out]; omega)
          injection hA4 with h4; injection h4 with e4; subst e4
          injection hA5 with h5; injection h5 with e5; subst e5
          have r0 := cell_later b2 hq0
          have r1 := cell_later b2 hq1
          have ch2 := hch.trans (Chg.of_below (lo := lo) (hi := hi) hb2)
          have O2 := hid o2
          clear o2 hq0 hq1 hch hch1 hc hc1 hf0 hf1
          go_wp2
          go_roundw
          case rel => exact ⟨i + 1, j + 1, M.set i (p, q), by omega, by omega, by go_num, by go_num, by unfold Hid; rw [List.length_set, hM.out], hMt2, hMd2, by unfold Hid; rw [← asks_set]; exact (O2.out.sets _ _).sets _ _, (ch2.trans (chg_set _ hlo hhi _ _)).trans (chg_set _ hlo hhi _ _)⟩
          case measure => simp [intOf]; omega
        · rw [hf] at hP
          have hMt2 : Hid (M.take i = (l.take (j + 1)).filter (fun a => !f a)) := by
            unfold Hid
            rw [filter_snoc _ _ _ _ hzl.out, hMt.out, hf]; simp
          have hMd2 : Hid (M.drop (j + 1) = l.drop (j + 1)) := by
            unfold Hid
            rw [← List.drop_drop, ← List.drop_drop, hMd.out]
          clear hf
          go_wp2_with fail
          refine hP.out.mono ?_; rintro e w2 ⟨rfl, b2⟩
          have hb2 := below_step hb0 b2
          have O2 := hid (hoM.out.below hb2)
          have ch2 := hch.trans (Chg.of_below (lo := lo) (hi := hi) hb2)
          clear hq0 hq1 hch hch1 hc hc1 hf0 hf1
          go_wp2
          go_roundw
          case rel => exact ⟨i, j + 1, M, by omega, by omega, rfl, by go_num, hM, hMt2, hMd2, O2, ch2⟩
          case measure => simp [intOf]; omega
      · obtain rfl : j = l.length := by omega
        obtain ⟨g, v0, rfl, hlo, hhi, _, _, hf0⟩ := hoM.out.at_ (i := i * 2) (by rw [asks_length, hM.out]; omega)
        have hfin : Hid (M.take i = l.filter (fun a => !f a)) := by have := hMt.out; rwa [List.take_length] at this
        have hleni : Hid ((l.filter (fun a => !f a)).length = i) := by unfold Hid; rw [← hfin.out, List.length_take, hM.out]; omega
        have hne : (i == c) = false := by rw [beq_eq_false_iff_ne]; omega
        clear hlt
        go_wp2_with (refine wpList_clear rfl (.tmp 38) 25 rfl Try.underlying25 zero_ask rfl one_cells lo hi g l.length c (asks M) hoM.out i hij _ _ rfl rfl ?_; intro w3 o3 ch3)
        go_ret
        exact ⟨ret_slice hleni.out.symm, by rw [hleni.out, ← hfin.out, ← asks_take]; exact o3, hch.trans ch3⟩

end Go.Proofs.Ytjfpemneinclfaa
