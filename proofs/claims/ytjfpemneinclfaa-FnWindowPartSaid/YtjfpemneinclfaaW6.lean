/- impl.WindowValid. -/
import Derived.Test.YtjfpemneinclfaaW5
namespace Go.Proofs.Ytjfpemneinclfaa
open Go.RowKit

theorem contains_n (A : Option Addr) (c n : Nat) (l : List AskT) (x y : Int) (w : World) (hn : Hid (l.length = n)) (hr : Cells w A (asks l)) (hm : n ≤ 17592186044416) :
    Calls Try.prog 49 #[.slice A n c, av x y] w (RetB w (hasA l (x, y))) := by
  have h := hn.out; subst h; exact contains_any A c l x y w hr hm
theorem toPeer_n (A : Option Addr) (c n : Nat) (l : List AskT) (x : Int) (w : World) (hn : Hid (l.length = n)) (hr : Cells w A (asks l)) (hm : n ≤ 17592186044416) :
    Calls Try.prog 50 #[.slice A n c, .int .i64 x] w fun e w' => e = .returned (.int .i64 (peerN l x)) ∧ Below w.heap.size w w' := by
  have h := hn.out; subst h; exact toPeer_any A c l x w hr hm
theorem forBlock_n (A : Option Addr) (c n : Nat) (l : List AskT) (x : Int) (w : World) (hn : Hid (l.length = n)) (hr : Cells w A (asks l)) (hm : n ≤ 17592186044416) :
    Calls Try.prog 51 #[.slice A n c, .int .i64 x] w fun e w' => e = .returned (.int .i64 (blockN l x)) ∧ Below w.heap.size w w' := by
  have h := hn.out; subst h; exact forBlock_any A c l x w hr hm

theorem pre_bad {l : List AskT} {k : Nat} {p q : Int} (hz : l[k]? = some (p, q)) (h : ¬ (askB (p, q) = true ∧ (p, q) ∉ l.take k ∧ peerN (l.take (k + 1)) p ≤ 3 ∧ blockN (l.take (k + 1)) q ≤ 2)) : validB l = false := by
  refine validB_no fun hv => h ?_
  have h2 := validP_take hv (k + 1)
  have h3 := validP_goods hv hz
  exact ⟨h3.1, h3.2.1, h2.2.2.1 _, h2.2.2.2 _⟩
theorem pre_good {l : List AskT} {k : Nat} {p q : Int} (hz : l[k]? = some (p, q)) (hv : validP (l.take k)) (h1 : askB (p, q) = true) (h2 : (p, q) ∉ l.take k) (h3 : peerN (l.take (k + 1)) p ≤ 3) (h4 : blockN (l.take (k + 1)) q ≤ 2) : validP (l.take (k + 1)) := by
  rw [take_snoc _ _ _ hz] at h3 h4 ⊢
  rw [peerN_snoc] at h3
  rw [blockN_snoc] at h4
  simp at h3 h4
  exact validP_snoc.2 ⟨hv, h1, h2, by omega, by omega⟩

set_option maxHeartbeats 1000000 in
theorem implValid_any (A : Option Addr) (c : Nat) (l : List AskT) (w : World) (hr : Cells w A (asks l)) (hm : l.length ≤ 1048576) (hlc : l.length ≤ c) :
    Calls Try.prog 24 #[.slice A l.length c] w (RetB w (validB l)) := by
  go_enter Try.func24, Try.ntmps24
  go_wp2
  go_loopw [7] (fun i wr => ∃ k : Nat, k ≤ l.length ∧ i = .int .i64 k ∧ Hid (validP (l.take k)) ∧ Below w.heap.size w wr) (fun i _ => l.length - (intOf i).toNat)
  case atStart => exact ⟨0, Nat.zero_le _, rfl, validP_nil, Below.refl _ _⟩
  case round =>
    obtain ⟨k, hk, rfl, hall, hbel⟩ := hrel
    have hr' := hr.below hbel
    by_cases hlt : k < l.length
    · obtain ⟨b, off, p, q, rfl, hz, hc, hc1⟩ := hr'.ask_at hlt
      have hbl1 : Below w.heap.size w (wr.alloc (.cells #[.int .i64 p, .int .i64 q] 34)) := hbel.alloc hbel.size _
      have hr1 := hr.below hbl1
      have hrt := hid (show Cells (wr.alloc (.cells #[.int .i64 p, .int .i64 q] 34)) (some ⟨b, off, none⟩) (asks (l.take k)) by rw [← asks_take]; exact hr1.take _)
      have hrt1 := hid (show Cells (wr.alloc (.cells #[.int .i64 p, .int .i64 q] 34)) (some ⟨b, off, none⟩) (asks (l.take (k + 1))) by rw [← asks_take]; exact hr1.take _)
      have hlen : Hid ((l.take k).length = k) := by unfold Hid; simp; omega
      have hlen1 : Hid ((l.take (k + 1)).length = k + 1) := by unfold Hid; simp; omega
      have iA := After.some (wr.alloc (.cells #[.int .i64 p, .int .i64 q] 34))
      have hq := Blk.new wr 34 [.int .i64 p, .int .i64 q]
      have hq0 := hq.cell 0
      have hq1 := hq.cell 1
      simp only [List.getElem?_cons_zero, List.getElem?_cons_succ] at hq0 hq1
      have q0 := fun p => after_cell hq0 p
      have q1 := fun p => after_cell hq1 p
      have hask := hid (fun W => askValid_any p q W)
      have hhas := hid (fun (C : Nat) (P : After (wr.alloc (.cells #[.int .i64 p, .int .i64 q] 34))) => contains_n (some ⟨b, off, none⟩) C k (l.take k) p q P.w' hlen (hrt.out.below P.h) (by omega))
      have hpe := hid (fun (C : Nat) (P : After (wr.alloc (.cells #[.int .i64 p, .int .i64 q] 34))) => toPeer_n (some ⟨b, off, none⟩) C (k + 1) (l.take (k + 1)) p P.w' hlen1 (hrt1.out.below P.h) (by omega))
      have hbl := hid (fun (C : Nat) (P : After (wr.alloc (.cells #[.int .i64 p, .int .i64 q] 34))) => forBlock_n (some ⟨b, off, none⟩) C (k + 1) (l.take (k + 1)) q P.w' hlen1 (hrt1.out.below P.h) (by omega))
      have hN := peerN_len (l.take (k + 1)) p
      have hM := blockN_len (l.take (k + 1)) q
      rw [hlen1.out] at hN hM
      have k1 : IntKind.i64.wrap ((k : Int) + 1) = ((k + 1 : Nat) : Int) := by push_cast; exact IntWalk.i64_in _ (by omega)
      clear hr' hr hr1 hq hq0 hq1
      cases ha : askB (p, q)
      · have hbad := hid (pre_bad hz.out (fun h => by rw [ha] at h; cases h.1))
        rw [ha] at hask
        clear ha
        go_wp2
        refine wp_region_after (by kernel_rfl) (by kernel_rfl) ?_
        repeat (go_big_quiet_step ((go_at_call 48; exact Calls.after_of (hask.out _))))
        refine wpQuiet_nil ?_
        rintro _ ⟨⟨w2, b2⟩, rfl⟩
        go_wp2
        go_ret
        exact ⟨ret_bool hbad.out.symm, below_step hbl1 b2⟩
      · rw [ha] at hask
        cases hh : hasA (l.take k) (p, q)
        · rw [hh] at hhas
          by_cases h3 : peerN (l.take (k + 1)) p ≤ 3
          · have d3 : decide ((3 : Int) < (peerN (l.take (k + 1)) p : Int)) = false := by simp; omega
            by_cases h2 : blockN (l.take (k + 1)) q ≤ 2
            · have d2 : decide ((2 : Int) < (blockN (l.take (k + 1)) q : Int)) = false := by simp; omega
              have hgood := hid (pre_good hz.out hall.out ha (hasA_take _ _ _ hh) h3 h2)
              clear ha hh
              go_wp2
              refine wp_region_after (by kernel_rfl) (by kernel_rfl) ?_
              repeat (go_big_quiet_step ((first | (go_at_call 48; exact Calls.after_of (hask.out _)) | (go_at_call 49; exact Calls.after_of (hhas.out _ _)) | (go_at_call 50; exact Calls.after_of (hpe.out _ _)) | (go_at_call 51; exact Calls.after_of (hbl.out _ _)))))
              refine wpQuiet_nil ?_
              rintro _ ⟨⟨w2, b2⟩, rfl⟩
              go_wp2
              go_roundw
              case rel => exact ⟨k + 1, by omega, by go_num, hgood, below_step hbl1 b2⟩
              case measure => simp [intOf]; omega
            · have d2 : decide ((2 : Int) < (blockN (l.take (k + 1)) q : Int)) = true := by simp; omega
              have hbad := hid (pre_bad hz.out (fun h => h2 h.2.2.2))
              clear ha hh h2
              go_wp2
              refine wp_region_after (by kernel_rfl) (by kernel_rfl) ?_
              repeat (go_big_quiet_step ((first | (go_at_call 48; exact Calls.after_of (hask.out _)) | (go_at_call 49; exact Calls.after_of (hhas.out _ _)) | (go_at_call 50; exact Calls.after_of (hpe.out _ _)) | (go_at_call 51; exact Calls.after_of (hbl.out _ _)))))
              refine wpQuiet_nil ?_
              rintro _ ⟨⟨w2, b2⟩, rfl⟩
              go_wp2
              go_ret
              exact ⟨ret_bool hbad.out.symm, below_step hbl1 b2⟩
          · have d3 : decide ((3 : Int) < (peerN (l.take (k + 1)) p : Int)) = true := by simp; omega
            have hbad := hid (pre_bad hz.out (fun h => h3 h.2.2.1))
            clear ha hh h3
            go_wp2
            refine wp_region_after (by kernel_rfl) (by kernel_rfl) ?_
            repeat (go_big_quiet_step ((first | (go_at_call 48; exact Calls.after_of (hask.out _)) | (go_at_call 49; exact Calls.after_of (hhas.out _ _)) | (go_at_call 50; exact Calls.after_of (hpe.out _ _)))))
            refine wpQuiet_nil ?_
            rintro _ ⟨⟨w2, b2⟩, rfl⟩
            go_wp2
            go_ret
            exact ⟨ret_bool hbad.out.symm, below_step hbl1 b2⟩
        · rw [hh] at hhas
          have hbad := hid (pre_bad hz.out (fun h => h.2.1 (hasA_iff.1 hh)))
          clear ha hh
          go_wp2
          refine wp_region_after (by kernel_rfl) (by kernel_rfl) ?_
          repeat (go_big_quiet_step ((first | (go_at_call 48; exact Calls.after_of (hask.out _)) | (go_at_call 49; exact Calls.after_of (hhas.out _ _)))))
          refine wpQuiet_nil ?_
          rintro _ ⟨⟨w2, b2⟩, rfl⟩
          go_wp2
          go_ret
          exact ⟨ret_bool hbad.out.symm, below_step hbl1 b2⟩
    · obtain rfl : k = l.length := by omega
      have hfin := hid (show validB l = true from validB_iff.2 (by have := hall.out; rwa [List.take_length] at this))
      clear hlt
      go_wp2
      go_ret
      exact ⟨ret_bool hfin.out.symm, hbel⟩

end Go.Proofs.Ytjfpemneinclfaa
