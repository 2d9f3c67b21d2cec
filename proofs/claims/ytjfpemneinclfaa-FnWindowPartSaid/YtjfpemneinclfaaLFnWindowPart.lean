/- laws.FnWindowPart: the walk. -/
import Derived.Test.YtjfpemneinclfaaLW0
import Derived.Deep.RegionLaw
import Derived.Deep.CutRange
namespace Go.Proofs.Ytjfpemneinclfaa
open Go.RowKit

/-- append as one step of a region that draws its order. -/
theorem step_app2 {P : Program} {ops : Array Oper} {o : Oper} {a : Act} {w : World} {K : Act → World → Prop} {Q : Exit → Act → World → Prop} {E : Prop} (hgd : o.guard = none) (s x : Operand) (t : TypeId)
    (ho : o.op = .call { callee := .builtin .append, args := #[s, x], argTypes := #[t, t] })
    (base : Nat) {e : TypeId} {z : Value} {size bytes : Nat} (ht : P.underlying t = some (.slice e)) (hinfo : (P.info? e).map (fun i => (i.zero, i.size, i.bytes)) = some (some z, size, bytes))
    (hzs : z.cells.size = size) (hsz : 0 < size) (hby : 0 < bytes)
    (A : Option Addr) (n c : Nat) (xs : List Value) (hs : a.eval s = .slice A n c) (hown : w.ownsRow base e size (.slice A n c) n xs)
    (b off : Nat) (m c2 : Nat) (news : List Value) (hx : a.eval x = .slice (some ⟨b, off, none⟩) m c2) (hl : news.length = m * size) (hnews : Cells w (some ⟨b, off, none⟩) news) (h1 : ∀ u ∈ news, u.oneCell' = true)
    (N : Nat) (L : List Value) (hN : n + m = N) (hL : xs ++ news = L) (hbytes : N * bytes ≤ 140737488355328) (hbase : base ≤ w.heap.size)
    (h : ∀ A' c' w', w'.ownsRow base e size (.slice A' N c') N L → w.grownBy w' (Value.slice A n c).ownBlock → K (a.put o.dst (.slice A' N c')) w') : if Region.wanted o (yielded ops a.tmps) = true then Oper.wp P o a w K Q else E := by
  subst hN; subst hL
  obtain ⟨i, hi, hz, hsize, hb⟩ := info_parts hinfo
  have h63 : n + m ≤ maxLen := by
    have h2 : (n + m) * 1 ≤ (n + m) * bytes := Nat.mul_le_mul_left _ hby
    simp only [maxLen]; omega
  have hcells : ∀ j u, news[j]? = some u → w.cell? ((⟨b, off, none⟩ : Addr).add j) = some u := by
    intro j u hu
    rcases hnews with h0 | ⟨b', off', hA, _, hc⟩
    · subst h0; simp at hu
    · injection hA with hA; injection hA with h1 h2; subst h1; subst h2
      rw [Addr.add_lit]; exact hc j u hu
  obtain ⟨v', w', hrun, h2, h3, _, h5⟩ := run_append_own_at (P := P) w base t o.type e i z size bytes ht hi hz hsize hb hzs hsz (.slice A n c) n xs hown ⟨b, off, none⟩ m c2 news hl hcells h1 h63 hbytes hbase
  obtain ⟨A', c', rfl⟩ := own_shape h2
  have hw : Region.wanted o (yielded ops a.tmps) = true := by simp [Region.wanted, hgd]
  rw [if_pos hw]
  unfold Oper.wp execOp
  simp only [ho, resolve, invoke, builtin, Sem.run_bind, Sem.run_pure, Result.andThen_ok, List.map_toArray, List.map_cons, List.map_nil, hs, hx, hrun]
  exact h A' c' w' h2 h3

theorem less_valid {l : List AskT} (k : Nat) (h : validB l = true) : validB (l.take k ++ l.drop (k + 1)) = true := by
  refine validB_iff.2 (validP_sub (validB_iff.1 h) ?_)
  rw [← List.eraseIdx_eq_take_drop_succ]
  exact List.eraseIdx_sublist l k
theorem twice_bad {l : List AskT} {k : Nat} {a : AskT} (h : l[k]? = some a) : validB (l ++ [a]) = false := by
  refine validB_no fun hv => ?_
  have := (List.nodup_append.1 hv.2.1).2.2 a (List.mem_of_getElem? h) a (by simp)
  exact this rfl

set_option maxRecDepth 100000 in
set_option maxHeartbeats 4000000 in
theorem windowPart_walk (A : Option Addr) (c : Nat) (us : List Int) (B : Option Addr) (d : Nat) (vs : List Int) (w : World) (hr : Cells w A (bytes us)) (hu : ∀ u ∈ us, 0 ≤ u ∧ u ≤ 255) (hc : us.length ≤ c) :
    Calls Try.prog 5 #[.slice A us.length c, .slice B vs.length d] w (RetB w true) := by
  have Hu := hid hu
  clear hu
  by_cases h20 : 1048576 < us.length
  · go_enter Try.func5, Try.ntmps5
    go_wp2
    go_ret
    exact ⟨rfl, Below.refl _ _⟩
  · have hm : us.length ≤ 17592186044416 := by omega
    have hd : decide ((1048576 : Int) < (us.length : Int)) = false := by simp; omega
    clear h20
    by_cases h21 : 1048576 < vs.length
    · have hd2 : decide ((1048576 : Int) < (vs.length : Int)) = true := by simp; omega
      go_enter Try.func5, Try.ntmps5
      go_wp2
      go_ret
      exact ⟨rfl, Below.refl _ _⟩
    · have hd2 : decide ((1048576 : Int) < (vs.length : Int)) = false := by simp; omega
      clear h21
      go_enter Try.func5, Try.ntmps5
      go_wp2_with fail
      refine (drawValid_any _ _ _ _ hr Hu.out hc hm).mono ?_
      rintro e w1 ⟨A1, c1, l, rfl, hl, o1, b1⟩
      clear hr hc hm hd hd2
      have hcp : l.length ≤ c1 := own_cap o1.row
      have hcc : c1 ≤ 9223372036854775807 := by have := own_capM o1.row; simp only [maxLen] at this; exact this
      obtain ⟨v, hv⟩ : ∃ v, validB l = v := ⟨_, rfl⟩
      obtain ⟨m, hm0⟩ : ∃ m, l.length = m := ⟨_, rfl⟩
      have Hm := hid hm0
      have Hv := hid hv
      have O1 := hid o1
      rw [hm0] at hl hcp O1
      clear hv o1
      go_wp2_with fail
      clear hm0
      refine (implValid_g Hm Hv (by omega) _ _ _ O1.out.cells hcp).mono ?_; rintro e w2 ⟨rfl, b2⟩
      go_wp2_with fail
      refine (specValid_g Hm Hv (by omega) _ _ _ (O1.out.below b2).cells hcp).mono ?_; rintro e w3 ⟨rfl, b3⟩
      have t3 := below_step (below_step b1 b2) b3
      have O3 := hid ((O1.out.below b2).below b3)
      clear b1 b2 b3 O1
      cases v
      · go_wp2_with fail
        go_ret
        exact ⟨rfl, t3⟩
      · by_cases h0 : m = 0
        · have e0 : ((m : Int) == 0) = true := by rw [beq_iff_eq]; omega
          clear h0
          go_wp2_with fail
          go_ret
          exact ⟨rfl, t3⟩
        · have e0 : ((m : Int) == 0) = false := by rw [beq_eq_false_iff_ne]; omega
          obtain ⟨k, hk, e1, e2⟩ : ∃ k : Nat, k < m ∧ (vs.length : Int).tmod (m : Int) = k ∧ (vs.length : Int) % (m : Int) = k := ⟨vs.length % m, Nat.mod_lt _ (by omega), Int.ofNat_tmod _ _, by omega⟩
          clear h0
          obtain ⟨b, off, x, y, rfl, hz, hc0, hc1⟩ := O3.out.cells.ask_at (k := k) (by rw [Hm.out]; exact hk)
          have HL1 : Hid (validB (l.take k ++ l.drop (k + 1)) = true) := less_valid k Hv.out
          have HL2 : Hid (validB (l ++ [(x, y)]) = false) := twice_bad hz.out
          have Hn1 : Hid ((l.take k ++ l.drop (k + 1)).length = m - 1) := by unfold Hid; rw [List.length_append, List.length_take, List.length_drop, Hm.out]; omega
          have Hn2 : Hid ((l ++ [(x, y)]).length = m + 1) := by unfold Hid; rw [List.length_append, Hm.out]; rfl
          have k1 : IntKind.i64.wrap ((k : Int) + 1) = ((k + 1 : Nat) : Int) := by push_cast; exact IntWalk.i64_in _ (by omega)
          have HT : Hid (Cells w3 (some ⟨b, off, none⟩) (asks (l.take k))) := by unfold Hid; rw [← asks_take]; exact O3.out.cells.take _
          have HD : Hid (Cells w3 (some ⟨b, off + (k + 1) * 2, none⟩) (asks (l.drop (k + 1)))) := by unfold Hid; rw [← asks_drop]; exact O3.out.cells.drop _
          have HlT : Hid ((asks (l.take k)).length = k * 2) := by unfold Hid; rw [asks_length, List.length_take, Hm.out]; omega
          have HlD : Hid ((asks (l.drop (k + 1))).length = (m - (k + 1)) * 2) := by unfold Hid; rw [asks_length, List.length_drop, Hm.out]
          have HlA : Hid ((asks l).length = m * 2) := by unfold Hid; rw [asks_length, Hm.out]
          have hk1 : k + 1 ≤ c1 := by omega
          have hkc : k ≤ c1 := by omega
          have hadd : k + (m - (k + 1)) = m - 1 := by omega
          have HC : Hid (k + 1 = c1 ∨ ¬ k + 1 = c1) := Nat.decEq _ _ |>.em
          have Hadd := hid hadd
          clear hadd
          go_wp2_with fail
          go_cut [9] from 45 (fun s9 wx => ∃ A8 c8, s9 = .slice A8 (m - 1) c8 ∧ Own wx w3.heap.size wx.heap.size 34 2 A8 c8 (m - 1) (asks (l.take k ++ l.drop (k + 1))) ∧ Below w3.heap.size w3 wx)
          case first =>
            have hk2 : (k : Int) + 1 ≤ (m : Int) := by omega
            have hk3 : (0 : Int) ≤ (k : Int) + 1 := by omega
            have hk4 : (k : Int) ≤ (k : Int) + 1 := by omega
            rcases HC.out with hkc1 | hkc1
            · have hmk : m - (k + 1) = 0 := by omega
              have HD0 : Hid ((asks (l.drop (k + 1))).length = (m - (k + 1)) * 2) := HlD
              have HDn : Hid (asks (l.drop (k + 1)) = []) := List.eq_nil_of_length_eq_zero (by rw [HlD.out, hmk])
              have HDD : Hid (∀ W B o, Cells W (some ⟨B, o, none⟩) (asks (l.drop (k + 1)))) := fun W B o => .inl HDn.out
              have HL0 : Hid (asks (l.take k) ++ [] = asks (l.take k ++ l.drop (k + 1))) := by unfold Hid; rw [asks_app, HDn.out]
              have Hk0 : Hid (k + 0 = m - 1) := by unfold Hid; omega
              clear hmk
              subst hkc1
              go_region_law (first | (refine step_app rfl (.tmp 45) (.tmp 48) 25 rfl w3.heap.size Try.underlying25 info_ask rfl (by omega) (by omega) (some ⟨w3.heap.size, 0, none⟩) 0 0 [] rfl (own_empty w3.drew _ 2 (Nat.le_refl _)) b off k (k + 1) (asks (l.take k)) rfl HlT.out (HT.out.below ((Below.refl w3.heap.size w3).drew.alloc (Nat.le_refl _) _)) (asks_one _) k (asks (l.take k)) (by omega) rfl (by omega) (by simp) ?_; intro A6 c6 w6 ho6 hb6) | (refine step_app rfl (.tmp 49) (.tmp 53) 25 rfl w3.heap.size Try.underlying25 info_ask rfl (by omega) (by omega) A6 k c6 (asks (l.take k)) rfl ho6 b off 0 _ [] rfl rfl (.inl rfl) (by simp) (m - 1) (asks (l.take k ++ l.drop (k + 1))) Hk0.out HL0.out (by omega) ?_ ?_; (have z6 := hb6.size; simp at z6; omega); intro A7 c7 w7 ho7 hb7))
              all_goals
                go_wp2_with fail
                go_meet
                exact ⟨A7, c7, rfl, Own.of_row ho7, ((Below.refl w3.heap.size w3).drew.alloc (Nat.le_refl _) _).trans (hb6.trans hb7)⟩
            · have hne : (k + 1 == c1) = false := by rw [beq_eq_false_iff_ne]; exact hkc1
              have hne2 : ¬ c1 = k + 1 := fun h => hkc1 h.symm
              go_region_law (first | (refine step_app rfl (.tmp 45) (.tmp 48) 25 rfl w3.heap.size Try.underlying25 info_ask rfl (by omega) (by omega) (some ⟨w3.heap.size, 0, none⟩) 0 0 [] rfl (own_empty w3.drew _ 2 (Nat.le_refl _)) b off k c1 (asks (l.take k)) rfl HlT.out (HT.out.below ((Below.refl w3.heap.size w3).drew.alloc (Nat.le_refl _) _)) (asks_one _) k (asks (l.take k)) (by omega) rfl (by omega) (by simp) ?_; intro A6 c6 w6 ho6 hb6) | (refine step_app rfl (.tmp 49) (.tmp 53) 25 rfl w3.heap.size Try.underlying25 info_ask rfl (by omega) (by omega) A6 k c6 (asks (l.take k)) rfl ho6 b (off + (k + 1) * 2) (m - (k + 1)) _ (asks (l.drop (k + 1))) rfl HlD.out (HD.out.below (((Below.refl w3.heap.size w3).drew.alloc (Nat.le_refl _) _).trans hb6)) (asks_one _) (m - 1) (asks (l.take k ++ l.drop (k + 1))) Hadd.out (asks_app _ _).symm (by omega) ?_ ?_; (have z6 := hb6.size; simp at z6; omega); intro A7 c7 w7 ho7 hb7))
              all_goals
                go_wp2_with fail
                go_meet
                exact ⟨A7, c7, rfl, Own.of_row ho7, ((Below.refl w3.heap.size w3).drew.alloc (Nat.le_refl _) _).trans (hb6.trans hb7)⟩
          case rest =>
            obtain ⟨A8, c8, rfl, o8', b8⟩ := hcut
            have o8 := hid o8'
            have hc8 : m - 1 ≤ c8 := own_cap o8'.row
            have T8 := hid (below_step t3 b8)
            have Oc := hid (O3.out.below b8)
            have hd0 := cell_later b8 hc0
            have hd1 := cell_later b8 hc1
            have zc := b8.size
            clear o8' b8 hc0 hc1 t3
            go_wp2_with fail
            go_cut [10] from 55 (fun s9 wx => ∃ A8 c8, s9 = .slice A8 (m + 1) c8 ∧ Own wx wc.heap.size wx.heap.size 34 2 A8 c8 (m + 1) (asks (l ++ [(x, y)])) ∧ Below wc.heap.size wc wx)
            case first =>
              have hy0 := cell_later ((Below.refl wc.heap.size wc).alloc (Nat.le_refl _) (.cells #[] 34)) hd0
              have hy1 := cell_later ((Below.refl wc.heap.size wc).alloc (Nat.le_refl _) (.cells #[] 34)) hd1
              have HoneB : Hid (Blk ((wc.drew.alloc (.cells #[] 34)).alloc (.cells #[.int .i64 x, .int .i64 y] 34)) (wc.heap.size + 1) 34 [.int .i64 x, .int .i64 y]) := by
                have h9 := Blk.new (wc.drew.alloc (.cells #[] 34)) 34 [.int .i64 x, .int .i64 y]
                rw [show (wc.drew.alloc (.cells #[] 34)).heap.size = wc.heap.size + 1 by simp] at h9
                exact h9
              have HoneC : Hid (Blk ((wc.drew.alloc (.cells #[.int .i64 x, .int .i64 y] 34)).alloc (.cells #[] 34)) wc.heap.size 34 [.int .i64 x, .int .i64 y]) :=
                (Blk.new wc.drew 34 [.int .i64 x, .int .i64 y]).below ((Below.refl _ _).alloc (Nat.le_refl _) (.cells #[] 34)) (by simp)
              have HownC : Hid (((wc.drew.alloc (.cells #[.int .i64 x, .int .i64 y] 34)).alloc (.cells #[] 34)).ownsRow (wc.heap.size + 1) 34 2 (.slice (some ⟨wc.heap.size + 1, 0, none⟩) 0 0) 0 []) := by have h9 := own_empty (wc.drew.alloc (.cells #[.int .i64 x, .int .i64 y] 34)) 34 2 (Nat.le_refl _); simpa [Hid] using h9
              go_region_law (first | (refine step_app2 rfl (.tmp 55) (.tmp 56) 25 rfl wc.heap.size Try.underlying25 info_ask rfl (by omega) (by omega) (some ⟨wc.heap.size, 0, none⟩) 0 0 [] rfl (own_empty wc.drew _ 2 (Nat.le_refl _)) b off m c1 (asks l) rfl HlA.out (Oc.out.cells.below ((Below.refl wc.heap.size wc).drew.alloc (Nat.le_refl _) _)) (asks_one _) m (asks l) (by omega) rfl (by omega) (by simp <;> omega) ?_; intro A6 c6 w6 ho6 hg6; have bz : Below wc.heap.size wc w6 := ((Below.refl wc.heap.size wc).drew.alloc (Nat.le_refl _) _).trans (below_grown hg6 (by simp <;> omega) (fun j hj => by simp [Value.ownBlock] at hj; omega)); have n0 := cell_later bz hd0; have n1 := cell_later bz hd1) | (refine step_app2 rfl (.tmp 55) (.tmp 56) 25 rfl wc.heap.size Try.underlying25 info_ask rfl (by omega) (by omega) (some ⟨wc.heap.size, 0, none⟩) 0 0 [] rfl ((own_empty wc.drew _ 2 (Nat.le_refl _)).alloc (.cells #[.int .i64 x, .int .i64 y] 34)) b off m c1 (asks l) rfl HlA.out (Oc.out.cells.below (((Below.refl wc.heap.size wc).drew.alloc (Nat.le_refl _) (.cells #[] 34)).alloc (by simp <;> omega) (.cells #[.int .i64 x, .int .i64 y] 34))) (asks_one _) m (asks l) (by omega) rfl (by omega) (by simp <;> omega) ?_; intro A6 c6 w6 ho6 hg6; have bz : Below wc.heap.size wc w6 := (((Below.refl wc.heap.size wc).drew.alloc (Nat.le_refl _) (.cells #[] 34)).alloc (by simp <;> omega) (.cells #[.int .i64 x, .int .i64 y] 34)).trans (below_grown hg6 (by simp <;> omega) (fun j hj => by simp [Value.ownBlock] at hj; omega)); have k6 : Blk w6 (wc.heap.size + 1) 34 [.int .i64 x, .int .i64 y] := (hg6.block _ (by simp <;> omega) (by simp [Value.ownBlock] <;> omega)).trans HoneB.out; have K6 := hid k6.cells; clear k6) | (refine step_app2 rfl (.tmp 55) (.tmp 56) 25 rfl (wc.heap.size + 1) Try.underlying25 info_ask rfl (by omega) (by omega) (some ⟨wc.heap.size + 1, 0, none⟩) 0 0 [] rfl HownC.out b off m c1 (asks l) rfl HlA.out (Oc.out.cells.below (((Below.refl wc.heap.size wc).drew.alloc (Nat.le_refl _) (.cells #[.int .i64 x, .int .i64 y] 34)).alloc (by simp <;> omega) (.cells #[] 34))) (asks_one _) m (asks l) (by omega) rfl (by omega) (by simp <;> omega) ?_; intro A6 c6 w6 ho6 hg6; have bz : Below wc.heap.size wc w6 := (((Below.refl wc.heap.size wc).drew.alloc (Nat.le_refl _) (.cells #[.int .i64 x, .int .i64 y] 34)).alloc (by simp <;> omega) (.cells #[] 34)).trans (below_grown hg6 (by simp <;> omega) (fun j hj => by simp [Value.ownBlock] at hj; omega)); have k6 : Blk w6 wc.heap.size 34 [.int .i64 x, .int .i64 y] := (hg6.block _ (by simp <;> omega) (by simp [Value.ownBlock] <;> omega)).trans HoneC.out; have K6 := hid k6.cells; clear k6) | (refine step_app rfl (.tmp 57) (.tmp 62) 25 rfl wc.heap.size Try.underlying25 info_ask rfl (by omega) (by omega) A6 m c6 (asks l) rfl (ho6.alloc _) w6.heap.size 0 1 1 [.int .i64 x, .int .i64 y] rfl rfl (cells_two _ _ _ _) (two_int _ _) (m + 1) (asks (l ++ [(x, y)])) rfl asks_snoc1 (by omega) ?_ ?_; (have z6 := bz.size; simp at z6 ⊢; omega); intro A7 c7 w7 ho7 hb7) | (refine step_app rfl (.tmp 57) (.tmp 62) 25 rfl wc.heap.size Try.underlying25 info_ask rfl (by omega) (by omega) A6 m c6 (asks l) rfl ho6 (wc.heap.size + 1) 0 1 1 [.int .i64 x, .int .i64 y] rfl rfl K6.out (two_int _ _) (m + 1) (asks (l ++ [(x, y)])) rfl asks_snoc1 (by omega) ?_ ?_; (have z6 := bz.size; simp at z6 ⊢; omega); intro A7 c7 w7 ho7 hb7) | (refine step_app rfl (.tmp 57) (.tmp 62) 25 rfl wc.heap.size Try.underlying25 info_ask rfl (by omega) (by omega) A6 m c6 (asks l) rfl (own_mono ho6 (Nat.le_succ _)) wc.heap.size 0 1 1 [.int .i64 x, .int .i64 y] rfl rfl K6.out (two_int _ _) (m + 1) (asks (l ++ [(x, y)])) rfl asks_snoc1 (by omega) ?_ ?_; (have z6 := bz.size; simp at z6 ⊢; omega); intro A7 c7 w7 ho7 hb7))
              all_goals
                go_wp2_with fail
                go_meet
                have hz7 := bz.size
                have t7 : Below wc.heap.size wc w7 := by first | exact bz.trans hb7 | exact (bz.alloc hz7 _).trans hb7
                exact ⟨A7, c7, rfl, Own.of_row ho7, t7⟩
            case rest =>
              obtain ⟨A9, c9, rfl, o9', b9⟩ := hcut
              have o9 := hid o9'
              have hc9 : m + 1 ≤ c9 := own_cap o9'.row
              have o89 := hid (o8.out.below b9)
              have T9 := hid (below_step T8.out b9)
              clear o9' b9
              go_wp2_with fail
              refine (implValid_g Hn1 HL1 (by omega) _ _ _ o89.out.cells hc8).mono ?_; rintro e w5 ⟨rfl, b5⟩
              go_wp2_with fail
              refine (implValid_g Hn2 HL2 (by omega) _ _ _ (o9.out.below b5).cells hc9).mono ?_; rintro e w6 ⟨rfl, b6⟩
              go_wp2_with fail
              go_ret
              exact ⟨rfl, below_step (below_step T9.out b5) b6⟩

end Go.Proofs.Ytjfpemneinclfaa
