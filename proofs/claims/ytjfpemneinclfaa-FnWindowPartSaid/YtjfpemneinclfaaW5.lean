/- WindowValid. -/
import Derived.Test.YtjfpemneinclfaaW4
import Derived.Test.YtjfpemneinclfaaAfter
namespace Go.Proofs.Ytjfpemneinclfaa
open Go.RowKit

def validP (l : List AskT) : Prop := (∀ a ∈ l, askB a = true) ∧ l.Nodup ∧ (∀ p, peerN l p ≤ 3) ∧ (∀ q, blockN l q ≤ 2)
open Classical in
noncomputable def validB (l : List AskT) : Bool := decide (validP l)
theorem validB_iff {l : List AskT} : validB l = true ↔ validP l := by unfold validB; simp
theorem validB_no {l : List AskT} (h : ¬ validP l) : validB l = false := by
  cases hv : validB l
  · rfl
  · exact (h (validB_iff.1 hv)).elim
theorem validP_nil : validP [] := ⟨by simp, List.nodup_nil, by simp [peerN], by simp [blockN]⟩
theorem peerN_snoc (l : List AskT) (p q x : Int) : peerN (l ++ [(p, q)]) x = peerN l x + (if p == x then 1 else 0) := by
  unfold peerN; rw [List.countP_append]; simp [List.countP_cons]
theorem blockN_snoc (l : List AskT) (p q x : Int) : blockN (l ++ [(p, q)]) x = blockN l x + (if q == x then 1 else 0) := by
  unfold blockN; rw [List.countP_append]; simp [List.countP_cons]
theorem validP_snoc {l : List AskT} {p q : Int} : validP (l ++ [(p, q)]) ↔ validP l ∧ askB (p, q) = true ∧ (p, q) ∉ l ∧ peerN l p ≤ 2 ∧ blockN l q ≤ 1 := by
  constructor
  · rintro ⟨h1, h2, h3, h4⟩
    have hn := List.nodup_append.1 h2
    refine ⟨⟨fun a ha => h1 a (List.mem_append_left _ ha), hn.1, fun x => ?_, fun x => ?_⟩, h1 _ (by simp), fun h => hn.2.2 _ h _ (by simp) rfl, ?_, ?_⟩
    · have := h3 x; rw [peerN_snoc] at this; omega
    · have := h4 x; rw [blockN_snoc] at this; omega
    · have := h3 p; rw [peerN_snoc] at this; simp at this; omega
    · have := h4 q; rw [blockN_snoc] at this; simp at this; omega
  · rintro ⟨⟨h1, h2, h3, h4⟩, h5, h6, h7, h8⟩
    refine ⟨fun a ha => ?_, ?_, fun x => ?_, fun x => ?_⟩
    · rcases List.mem_append.1 ha with h | h
      · exact h1 a h
      · simp at h; subst h; exact h5
    · rw [List.nodup_append]
      exact ⟨h2, by simp, fun a ha b hb => by simp at hb; subst hb; intro e; subst e; exact h6 ha⟩
    · rw [peerN_snoc]; split
      · rename_i h; simp at h; subst h; omega
      · exact h3 x
    · rw [blockN_snoc]; split
      · rename_i h; simp at h; subst h; omega
      · exact h4 x
theorem validP_pre {l m : List AskT} (h : validP (l ++ m)) : validP l := by
  obtain ⟨h1, h2, h3, h4⟩ := h
  refine ⟨fun a ha => h1 a (List.mem_append_left _ ha), (List.nodup_append.1 h2).1, fun x => ?_, fun x => ?_⟩
  · have := h3 x; unfold peerN at *; rw [List.countP_append] at this; omega
  · have := h4 x; unfold blockN at *; rw [List.countP_append] at this; omega
theorem validP_take {l : List AskT} (h : validP l) (k : Nat) : validP (l.take k) := validP_pre (m := l.drop k) (by rw [List.take_append_drop]; exact h)
theorem validP_sub {l m : List AskT} (h : validP l) (hs : m.Sublist l) : validP m :=
  ⟨fun a ha => h.1 a (hs.subset ha), h.2.1.sublist hs, fun x => Nat.le_trans (hs.countP_le) (h.2.2.1 x), fun x => Nat.le_trans (hs.countP_le) (h.2.2.2 x)⟩

/-- One request of the list against the whole list, as the specification has it. -/
def goodAt (l : List AskT) (k : Nat) (a : AskT) : Prop := askB a = true ∧ a ∉ l.take k ∧ peerN l a.1 ≤ 3 ∧ blockN l a.2 ≤ 2
theorem validP_goods {l : List AskT} (h : validP l) {k : Nat} {a : AskT} (hz : l[k]? = some a) : goodAt l k a := by
  refine ⟨h.1 a (List.mem_of_getElem? hz), fun hm => ?_, h.2.2.1 _, h.2.2.2 _⟩
  have h2 := validP_take h (k + 1)
  rw [take_snoc _ _ _ hz] at h2
  exact (validP_snoc.1 h2).2.2.1 hm
theorem goods_validP {l : List AskT} (h : ∀ k a, l[k]? = some a → goodAt l k a) : validP l := by
  refine ⟨fun a ha => ?_, ?_, fun x => ?_, fun x => ?_⟩
  · obtain ⟨k, hk⟩ := List.mem_iff_getElem?.1 ha
    exact (h k a hk).1
  · rw [List.Nodup, List.pairwise_iff_getElem]
    intro i j hi hj hij e
    have := (h j l[j] (List.getElem?_eq_getElem hj)).2.1
    exact this (by rw [List.mem_take_iff_getElem]; exact ⟨i, by omega, e⟩)
  · by_cases h0 : ∃ a ∈ l, a.1 = x
    · obtain ⟨a, ha, rfl⟩ := h0
      obtain ⟨k, hk⟩ := List.mem_iff_getElem?.1 ha
      exact (h k a hk).2.2.1
    · have : peerN l x = 0 := by unfold peerN; rw [List.countP_eq_zero]; intro a ha hh; exact h0 ⟨a, ha, by simpa using hh⟩
      omega
  · by_cases h0 : ∃ a ∈ l, a.2 = x
    · obtain ⟨a, ha, rfl⟩ := h0
      obtain ⟨k, hk⟩ := List.mem_iff_getElem?.1 ha
      exact (h k a hk).2.2.2
    · have : blockN l x = 0 := by unfold blockN; rw [List.countP_eq_zero]; intro a ha hh; exact h0 ⟨a, ha, by simpa using hh⟩
      omega

theorem peerN_len (l : List AskT) (x : Int) : peerN l x ≤ l.length := List.countP_le_length
theorem blockN_len (l : List AskT) (x : Int) : blockN l x ≤ l.length := List.countP_le_length

theorem hasA_take (l : List AskT) (k : Nat) (a : AskT) (h : hasA (l.take k) a = false) : a ∉ l.take k := fun hm => by rw [hasA_iff.2 hm] at h; cases h

theorem l21Has_n (A : Option Addr) (c n : Nat) (l : List AskT) (x y : Int) (w : World) (hn : Hid (l.length = n)) (hr : Cells w A (asks l)) (hm : n ≤ 17592186044416) :
    Calls Try.prog 45 #[.slice A n c, av x y] w (RetB w (hasA l (x, y))) := by
  have h := hn.out; subst h; exact l21Has_any A c l x y w hr hm

set_option maxHeartbeats 1000000 in
theorem specValid_any (A : Option Addr) (c : Nat) (l : List AskT) (w : World) (hr : Cells w A (asks l)) (hm : l.length ≤ 1048576) (hlc : l.length ≤ c) :
    Calls Try.prog 22 #[.slice A l.length c] w (RetB w (validB l)) := by
  go_enter Try.func22, Try.ntmps22
  go_wp2
  go_loopw [3] (fun i wr => ∃ k : Nat, k ≤ l.length ∧ i = .int .i64 k ∧ Hid (∀ j a, j < k → l[j]? = some a → goodAt l j a) ∧ Below w.heap.size w wr) (fun i _ => l.length - (intOf i).toNat)
  case atStart => exact ⟨0, Nat.zero_le _, rfl, fun j a h => by omega, Below.refl _ _⟩
  case round =>
    obtain ⟨k, hk, rfl, hall, hbel⟩ := hrel
    have hr' := hr.below hbel
    by_cases hlt : k < l.length
    · have hrt := hid (show Cells wr A (asks (l.take k)) by rw [← asks_take]; exact hr'.take _)
      have hlen : Hid ((l.take k).length = k) := by unfold Hid; simp; omega
      obtain ⟨b, off, p, q, rfl, hz, hc, hc1⟩ := hr'.ask_at hlt
      have iA := After.some wr
      have q0 := fun p => after_cell hc p
      have q1 := fun p => after_cell hc1 p
      have hask := hid (fun W => l21Ask_any p q W)
      have hhas := hid (fun (C : Nat) (P : After wr) => l21Has_n (some ⟨b, off, none⟩) C k (l.take k) p q P.w' hlen (hrt.out.below P.h) (by omega))
      have hpe := hid (fun P : After wr => l21Peer_any (some ⟨b, off, none⟩) c l p P.w' (hr'.below P.h) (by omega))
      have hbl := hid (fun P : After wr => l21Block_any (some ⟨b, off, none⟩) c l q P.w' (hr'.below P.h) (by omega))
      have hN := peerN_len l p
      have hM := blockN_len l q
      clear hr' hr
      cases ha : askB (p, q)
      · have hbad := hid (validB_no (l := l) fun hv => by have := (validP_goods hv hz.out).1; rw [ha] at this; cases this)
        rw [ha] at hask
        clear ha
        go_wp2
        refine wp_region_after (by kernel_rfl) (by kernel_rfl) ?_
        repeat (go_big_quiet_step ((go_at_call 44; exact Calls.after_of (hask.out _))))
        refine wpQuiet_nil ?_
        rintro _ ⟨⟨w2, b2⟩, rfl⟩
        go_wp2
        go_ret
        exact ⟨ret_bool hbad.out.symm, below_step hbel b2⟩
      · rw [ha] at hask
        cases hh : hasA (l.take k) (p, q)
        · rw [hh] at hhas
          by_cases h3 : peerN l p ≤ 3
          · have d3 : decide ((3 : Int) < (peerN l p : Int)) = false := by simp; omega
            by_cases h2 : blockN l q ≤ 2
            · have d2 : decide ((2 : Int) < (blockN l q : Int)) = false := by simp; omega
              have hgood := hid (⟨ha, hasA_take _ _ _ hh, h3, h2⟩ : goodAt l k (p, q))
              clear ha hh
              go_wp2
              refine wp_region_after (by kernel_rfl) (by kernel_rfl) ?_
              repeat (go_big_quiet_step ((first | (go_at_call 44; exact Calls.after_of (hask.out _)) | (go_at_call 45; exact Calls.after_of (hhas.out _ _)) | (go_at_call 46; exact Calls.after_of_same (hpe.out _)) | (go_at_call 47; exact Calls.after_of_same (hbl.out _)))))
              refine wpQuiet_nil ?_
              rintro _ ⟨⟨w2, b2⟩, rfl⟩
              go_wp2
              go_roundw
              case rel => exact ⟨k + 1, by omega, by go_num, fun j a hj hja => by
                by_cases e : j = k
                · subst e; rw [hz.out] at hja; injection hja with hja; subst hja; exact hgood.out
                · exact hall.out j a (by omega) hja, below_step hbel b2⟩
              case measure => simp [intOf]; omega
            · have d2 : decide ((2 : Int) < (blockN l q : Int)) = true := by simp; omega
              have hbad := hid (validB_no (l := l) fun hv => h2 (validP_goods hv hz.out).2.2.2)
              clear ha hh h2
              go_wp2
              refine wp_region_after (by kernel_rfl) (by kernel_rfl) ?_
              repeat (go_big_quiet_step ((first | (go_at_call 44; exact Calls.after_of (hask.out _)) | (go_at_call 45; exact Calls.after_of (hhas.out _ _)) | (go_at_call 46; exact Calls.after_of_same (hpe.out _)) | (go_at_call 47; exact Calls.after_of_same (hbl.out _)))))
              refine wpQuiet_nil ?_
              rintro _ ⟨⟨w2, b2⟩, rfl⟩
              go_wp2
              go_ret
              exact ⟨ret_bool hbad.out.symm, below_step hbel b2⟩
          · have d3 : decide ((3 : Int) < (peerN l p : Int)) = true := by simp; omega
            have hbad := hid (validB_no (l := l) fun hv => h3 (validP_goods hv hz.out).2.2.1)
            clear ha hh h3
            go_wp2
            refine wp_region_after (by kernel_rfl) (by kernel_rfl) ?_
            repeat (go_big_quiet_step ((first | (go_at_call 44; exact Calls.after_of (hask.out _)) | (go_at_call 45; exact Calls.after_of (hhas.out _ _)) | (go_at_call 46; exact Calls.after_of_same (hpe.out _)) | (go_at_call 47; exact Calls.after_of_same (hbl.out _)))))
            refine wpQuiet_nil ?_
            rintro _ ⟨⟨w2, b2⟩, rfl⟩
            go_wp2
            go_ret
            exact ⟨ret_bool hbad.out.symm, below_step hbel b2⟩
        · rw [hh] at hhas
          have hbad := hid (validB_no (l := l) fun hv => (validP_goods hv hz.out).2.1 (hasA_iff.1 hh))
          clear ha hh
          go_wp2
          refine wp_region_after (by kernel_rfl) (by kernel_rfl) ?_
          repeat (go_big_quiet_step ((first | (go_at_call 44; exact Calls.after_of (hask.out _)) | (go_at_call 45; exact Calls.after_of (hhas.out _ _)))))
          refine wpQuiet_nil ?_
          rintro _ ⟨⟨w2, b2⟩, rfl⟩
          go_wp2
          go_ret
          exact ⟨ret_bool hbad.out.symm, below_step hbel b2⟩
    · go_wp2
      go_ret
      exact ⟨ret_bool (validB_iff.2 (goods_validP fun j a h => hall.out j a (by have := (List.getElem?_eq_some_iff.1 h).1; omega) h)).symm, hbel⟩

end Go.Proofs.Ytjfpemneinclfaa
