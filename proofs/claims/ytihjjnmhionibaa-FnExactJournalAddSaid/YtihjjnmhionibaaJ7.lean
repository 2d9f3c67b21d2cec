/- spec.JournalBlocks. -/
import Derived.Test.YtihjjnmhionibaaJ6
namespace Go.Proofs.Ytihjjnmhionibaa
open Go.RowKit

theorem retTB_two {w w1 : World} (hb : Below w.heap.size w w1) : RetTB w [] [] (.returned (.tuple #[.slice (some ⟨w1.heap.size, 0, none⟩) 0 0, .slice (some ⟨w1.heap.size + 1, 0, none⟩) 0 0])) ((w1.alloc (.cells #[] 9)).alloc (.cells #[] 4)) := by
  obtain ⟨h1, h2, h3⟩ := blk_two w1 9 4 0 (.string ⟨#[]⟩) (.bool false)
  have hs := hb.size
  exact retTB_blk (n := 0) (hb.trans (show Below w.heap.size w1 _ from (Below.alloc (Below.alloc (Below.refl _ _) hs _) (by simp; omega) _))) (T := []) (H := []) h1 h2 (by omega) hs (by omega) rfl rfl (by omega)

theorem Cells.rec_lt {w : World} {A : Option Addr} {l : List RecT} (h : Cells w A (recs l)) {k : Nat} (hk : k < l.length) :
    ∃ b off, ∃ i : Int, ∃ t : ByteArray, A = some ⟨b, off, none⟩ ∧ b < w.heap.size ∧ Hid (l[k]? = some (i, t)) ∧ w.cell? ⟨b, off + k * 2, none⟩ = some (.int .i64 i) ∧ w.cell? ⟨b, off + k * 2 + 1, none⟩ = some (.string t) := by
  obtain ⟨b, off, i, t, hA, hz, h1, h2⟩ := h.rec_at hk
  refine ⟨b, off, i, t, hA, ?_, hz, h1, h2⟩
  rcases h with h0 | ⟨b', off', hA', hb, -⟩
  · have h9 := congrArg List.length h0
    rw [recs_length] at h9; simp at h9; omega
  · rw [hA] at hA'; injection hA' with e; injection e with e1 e2; subst e1; exact hb

set_option maxHeartbeats 2000000 in
theorem specBlocks_any (A : Option Addr) (c : Nat) (l : List RecT) (s k : Int) (w : World) (hr : Cells w A (recs l)) (hs : SmallR l) :
    Calls Try.prog 37 #[jv A l.length c s, .int .i64 k] w (RetTB w (blocksG l s k).1 (blocksG l s k).2) := by
  have hm : l.length ≤ 1048576 := hs.1
  have b0 : Below w.heap.size w (w.alloc (.cells #[.slice A l.length c, .int .i64 s] 29)) := (Below.refl _ _).alloc (Nat.le_refl _) _
  have q0 : Hid (Blk (w.alloc (.cells #[.slice A l.length c, .int .i64 s] 29)) w.heap.size 29 (JB A l.length c s)) := Blk.new w 29 (JB A l.length c s)
  have hr0 := hid (hr.below b0)
  have hV := hid (fun W h => specJValid_any A c l s W h hs)
  clear hr
  cases hv : validJ l s
  · rw [blocksG_bad (l := l) (s := s) (k := k) (by rw [hv]; rfl)]
    rw [hv] at hV
    clear hv
    obtain ⟨c0, c1, -, -⟩ := q0.out.two
    go_enter Try.func37, Try.ntmps37
    go_wp2_with fail
    refine (hV.out _ hr0.out).mono ?_; rintro e w1 ⟨rfl, b1⟩
    have t1 := below_step b0 b1
    go_wp2_with fail
    refine bodyPost_ret (v := .tuple #[.slice (some ⟨w1.heap.size, 0, none⟩) 0 0, .slice (some ⟨w1.heap.size + 1, 0, none⟩) 0 0]) (by simp [results, Try.results37, go_sem]) rfl ?_
    exact retTB_two t1
  · rw [hv] at hV
    have hI := hid (fun W => l6In_any k 0 16 W)
    cases hi : inB k 0 16
    · rw [blocksG_bad (l := l) (s := s) (k := k) (by rw [hi]; simp)]
      rw [hi] at hI
      clear hv hi
      obtain ⟨c0, c1, -, -⟩ := q0.out.two
      go_enter Try.func37, Try.ntmps37
      go_wp2_with fail
      refine (hV.out _ hr0.out).mono ?_; rintro e w1 ⟨rfl, b1⟩
      have t1 := below_step b0 b1
      go_wp2_with fail
      refine (hI.out _).mono ?_; rintro e w2 ⟨rfl, rfl⟩
      go_wp2_with fail
      refine bodyPost_ret (v := .tuple #[.slice (some ⟨w1.heap.size, 0, none⟩) 0 0, .slice (some ⟨w1.heap.size + 1, 0, none⟩) 0 0]) (by simp [results, Try.results37, go_sem]) rfl ?_
      exact retTB_two t1
    · have hi2 := (inB_iff k 0 16).1 hi
      obtain ⟨n, rfl⟩ : ∃ n : Nat, k = (n : Int) := ⟨k.toNat, by omega⟩
      have hn : n ≤ 16 := by omega
      rw [blocksG_ok hv hi]
      obtain ⟨hle, -, hrec⟩ := validJ_parts hv
      have Hrec := hid hrec
      rw [hi] at hI
      clear hv hi hi2 hrec
      obtain ⟨c0, c1, -, -⟩ := q0.out.two
      have hmT := fun W => run_make_ints (P := Try.prog) 47 9 Try.underlying47 info_str rfl n (by omega) (by omega) W
      have hmH := fun W => run_make_ints (P := Try.prog) 48 4 Try.underlying48 info_bool rfl n (by omega) (by omega) W
      go_enter Try.func37, Try.ntmps37
      go_wp2_with fail
      refine (hV.out _ hr0.out).mono ?_; rintro e w1 ⟨rfl, b1⟩
      have t1 := below_step b0 b1
      have d0 := cell_later b1 c0
      have hr1 := hid (hr0.out.below b1)
      clear c0 c1
      go_wp2_with fail
      refine (hI.out _).mono ?_; rintro e w2 ⟨rfl, rfl⟩
      go_wp2_with fail
      obtain ⟨hT, hH, bc⟩ := blk_two w1 9 4 n (.string ⟨#[]⟩) (.bool false)
      rw [← strs_zero l] at hT
      rw [← bools_zero l] at hH
      have HT := hid hT
      have HH := hid hH
      have Bc := hid bc
      have h0 : w.heap.size < w1.heap.size := by have := b1.size; simp at this; omega
      clear hT hH hmT hmH bc
      generalize ((w1.alloc (.cells (Array.replicate n (.string ⟨#[]⟩)) 9)).alloc (.cells (Array.replicate n (.bool false)) 4)) = wc at HT HH Bc ⊢
      obtain ⟨gT, hgT⟩ : ∃ g, g = w1.heap.size := ⟨_, rfl⟩
      obtain ⟨gH, hgH⟩ : ∃ g, g = w1.heap.size + 1 := ⟨_, rfl⟩
      rw [← hgH, ← hgT]
      have HT2 : Hid (Blk wc gT 9 (strs (blkT (l.take 0) n))) := by rw [hgT]; exact HT
      have HH2 : Hid (Blk wc gH 4 (bools (blkH (l.take 0) n))) := by rw [hgH]; exact HH
      have h1 : w1.heap.size ≤ gT := by omega
      have h2 : w1.heap.size ≤ gH := by omega
      have hne : gT ≠ gH := by omega
      have Bc2 : Hid (Below w1.heap.size w1 wc) := ⟨Bc.out.os, Bc.out.tape, Bc.out.output, Bc.out.size, Bc.out.block⟩
      have hne0 : w.heap.size ≠ gT := by omega
      clear HT HH Bc hgT hgH
      go_loopw [8] (fun i wr => ∃ k : Nat, k ≤ l.length ∧ i = .int .i64 k ∧ Hid (Blk wr gT 9 (strs (blkT (l.take k) n))) ∧ Hid (Blk wr gH 4 (bools (blkH (l.take k) n))) ∧ Hid (Below w1.heap.size w1 wr)) (fun i _ => l.length - (intOf i).toNat)
      case atStart => exact ⟨0, Nat.zero_le _, rfl, HT2, HH2, Bc2⟩
      case round =>
        obtain ⟨k, hk, rfl, hT, hH, hbel⟩ := hrel
        have e0 := cell_later hbel.out d0
        by_cases hlt : k < l.length
        · obtain ⟨b, off, i, t, rfl, hbl, hz, hcA, hcB⟩ := hr1.out.rec_lt hlt
          have hc := cell_later hbel.out hcA
          have hc1 := cell_later hbel.out hcB
          have hbne : b ≠ gT := by omega
          have hv := Hrec.out _ (List.mem_of_getElem? hz.out)
          unfold recB at hv
          rw [Bool.and_eq_true, inB_iff] at hv
          obtain ⟨j, rfl⟩ : ∃ j : Nat, i = (j : Int) := ⟨i.toNat, by have := hv.1; omega⟩
          have nT := hid (blkT_snoc l n hz.out)
          have nH := hid (blkH_snoc l n hz.out)
          clear hv hcA hcB
          by_cases hj : j < n
          · have hj2 : ((j : Int) < (n : Int)) := by omega
            have x1 := hT.out.cell j
            have x2 := hH.out.cell j
            have x3 := hT.out.free j
            have x4 := hH.out.free j
            rw [strs_get (List.getElem?_eq_getElem (by rw [blkT_length]; exact hj))] at x1
            rw [bools_get (List.getElem?_eq_getElem (by rw [blkH_length]; exact hj))] at x2
            go_wp2_with fail
            go_region
            go_wp2_with fail
            go_roundw
            case rel =>
              refine ⟨k + 1, by omega, by go_num, ?_, ?_, ?_⟩
              · rw [nT.out, ← strs_set]
                exact blk_set_ne (hT.out.set j _) hne j _
              · rw [nH.out, ← bools_set]
                exact (blk_set_ne hH.out (Ne.symm hne) j _).set j _
              · exact ((hbel.out.setCell (show w1.heap.size ≤ (Addr.mk gT j none).block from h1) (.string t)).setCell (show w1.heap.size ≤ (Addr.mk gH j none).block from h2) (.bool true)).drew
            case measure => simp [intOf]; omega
          · have hj2 : ¬ ((j : Int) < (n : Int)) := by omega
            go_wp2_with fail
            go_roundw
            case rel => exact ⟨k + 1, by omega, by go_num, (by rw [nT.out, List.set_eq_of_length_le (by rw [blkT_length]; simp; omega)]; exact hT), (by rw [nH.out, List.set_eq_of_length_le (by rw [blkH_length]; simp; omega)]; exact hH), hbel⟩
            case measure => simp [intOf]; omega
        · have hfinT := hid (show blkT (l.take k) n = blkT l n by rw [List.take_of_length_le (by omega)])
          have hfinH := hid (show blkH (l.take k) n = blkH l n by rw [List.take_of_length_le (by omega)])
          go_wp2_with fail
          rw [hfinT.out] at hT
          rw [hfinH.out] at hH
          refine bodyPost_ret (v := .tuple #[.slice (some ⟨gT, 0, none⟩) n n, .slice (some ⟨gH, 0, none⟩) n n]) (by simp [results, Try.results37, go_sem]) rfl ?_
          exact retTB_blk (t1.trans (hbel.out.mono t1.size)) hT.out hH.out hne (by omega) (by omega) (blkT_length _ _) (blkH_length _ _) (by omega)

end Go.Proofs.Ytihjjnmhionibaa
