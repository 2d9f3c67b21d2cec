/- ForkNamed, the program's and the reference's. -/
import Derived.Test.YtpnahccmdebifaaF3
import Derived.Test.YtpnahccmdebifaaF5
import Derived.Test.YtpnahccmdebifaaSort
namespace Go.Proofs.Ytpnahccmdebifaa
open Go.RowKit

def RetZ (w : World) (zs : List Int) (e : Ending) (w' : World) : Prop :=
  ∃ A c, e = .returned (.slice A zs.length c) ∧ Own w' w.heap.size w'.heap.size 3 1 A c zs.length (ints zs) ∧ Below w.heap.size w w'
/-- All keys that l names. -/
def specAll (l : List ForkT) : List Int := specN l 996
/-- What the reference has in the midst of key k: the keys ahead of k, and k if one of the first forks names it. -/
def midN (l : List ForkT) (k j : Nat) : List Int := specN l (k - 1) ++ if namedB (l.take j) (k : Int) = true then [(k : Int)] else []
theorem midN_zero (l : List ForkT) (k : Nat) : midN l k 0 = specN l (k - 1) := by simp [midN, namedB]
theorem midN_all {l : List ForkT} {k : Nat} (hk : 1 ≤ k) : midN l k l.length = specN l k := by
  obtain ⟨K, rfl⟩ : ∃ K, k = K + 1 := ⟨k - 1, by omega⟩
  unfold midN
  rw [List.take_length]; rfl
theorem namedB_snoc {l : List ForkT} {j : Nat} {x : ForkT} (h : l[j]? = some x) (z : Int) : namedB (l.take (j + 1)) z = (namedB (l.take j) z || (x.pub == z && forkB x)) := any_snoc _ _ _ _ h
theorem midN_skip {l : List ForkT} {k j : Nat} {x : ForkT} (h : l[j]? = some x) (hn : (x.pub == (k : Int) && forkB x) = false) : midN l k (j + 1) = midN l k j := by
  unfold midN; rw [namedB_snoc h, hn, Bool.or_false]
theorem midN_new {l : List ForkT} {k j : Nat} {x : ForkT} (h : l[j]? = some x) (hn : (x.pub == (k : Int) && forkB x) = true) (h0 : namedB (l.take j) k = false) : midN l k (j + 1) = midN l k j ++ [(k : Int)] := by
  unfold midN; rw [namedB_snoc h, hn, h0]; simp
theorem midN_again {l : List ForkT} {k j : Nat} {x : ForkT} (h : l[j]? = some x) (h0 : namedB (l.take j) k = true) : midN l k (j + 1) = midN l k j := by
  unfold midN; rw [namedB_snoc h, h0]; simp
theorem midN_has {l : List ForkT} {k j : Nat} (hk : 1 ≤ k) : decide ((k : Int) ∈ midN l k j) = namedB (l.take j) k := by
  rw [Bool.eq_iff_iff, decide_eq_true_eq]
  unfold midN
  constructor
  · intro h
    rcases List.mem_append.1 h with h1 | h1
    · have := (specN_mem.1 h1).2.1; omega
    · split at h1
      · assumption
      · simp at h1
  · intro h; rw [if_pos h]; simp
theorem midN_len (l : List ForkT) (k j : Nat) : (midN l k j).length ≤ k - 1 + 1 := by
  unfold midN; rw [List.length_append]
  have := specN_len l (k - 1)
  split <;> simp <;> omega

theorem retZ_all {w w' : World} {l : List ForkT} {A : Option Addr} {c n : Nat} (h : (specN l (997 - 1)).length = n) (ho : w'.ownsRow w.heap.size 3 1 (.slice A n c) n (ints (specN l (997 - 1)))) (hb : Below w.heap.size w w') : RetZ w (specAll l) (.returned (.slice A n c)) w' := by
  subst h
  exact ⟨A, c, rfl, Own.of_row ho, hb⟩

set_option maxHeartbeats 4000000 in
set_option maxRecDepth 100000 in
theorem specNamed_any (A : Option Addr) (c m : Nat) (l : List ForkT) (w : World) (hlm : Hid (l.length = m)) (hr : Cells w A (forks l)) (hm : m ≤ 1000) :
    Calls Try.prog 7 #[.slice A m c] w (RetZ w (specAll l)) := by
  go_enter Try.func7, Try.ntmps7
  go_wp2
  go_loopw [3, 4] (fun out i wr => ∃ (k : Nat) (A' : Option Addr) (c' n' : Nat), 1 ≤ k ∧ k ≤ 997 ∧ i = .int .i64 k ∧ out = .slice A' n' c' ∧ n' ≤ k ∧ Hid ((specN l (k - 1)).length = n') ∧ Hid (wr.ownsRow w.heap.size 3 1 (.slice A' n' c') n' (ints (specN l (k - 1)))) ∧ Below w.heap.size w wr) (fun _ i _ => 997 - (intOf i).toNat)
  case atStart => exact ⟨1, _, _, 0, Nat.le_refl _, by omega, rfl, rfl, by omega, rfl, own_empty w 3 1 (Nat.le_refl _), (Below.refl _ _).alloc (Nat.le_refl _) _⟩
  case round =>
    obtain ⟨k, A', c', n', hk1, hk, rfl, rfl, hn', hln, own, hb⟩ := hrel
    by_cases hlt : k < 997
    · have hk9 : decide ((k : Int) < 997) = true := by simp; omega
      go_wp2_with fail
      go_loopw [3, 5] (fun out i wr => ∃ (j : Nat) (A' : Option Addr) (c' n' : Nat), j ≤ m ∧ i = .int .i64 j ∧ out = .slice A' n' c' ∧ n' ≤ k ∧ Hid ((midN l k j).length = n') ∧ Hid (wr.ownsRow w.heap.size 3 1 (.slice A' n' c') n' (ints (midN l k j))) ∧ Below w.heap.size w wr) (fun _ i _ => m - (intOf i).toNat)
      case atStart => exact ⟨0, A', c', n', Nat.zero_le _, rfl, rfl, hn', by unfold Hid; rw [midN_zero]; exact hln.out, by unfold Hid; rw [midN_zero]; exact own.out, hb⟩
      case round =>
        clear own hln hb hn'
        obtain ⟨j, A2, c2, n2, hj, rfl, rfl, hn2, hln2, own2, hb2⟩ := hrel
        by_cases hjl : j < m
        · obtain ⟨x, hx⟩ : ∃ x, l[j]? = some x := ⟨l[j]'(by rw [hlm.out]; exact hjl), List.getElem?_eq_getElem _⟩
          obtain ⟨b, off, hA, a7⟩ := (hr.below hb2).fork_of hx
          subst hA
          have Hx := hid hx
          have hF := hid (fun W => specFork_any x W)
          have hsz := hb2.size
          have hlen := midN_len l k (j + 1)
          obtain ⟨d0, d1, d2, d3, d4, d5, d6⟩ := a7
          have hcm := own_capM own2.out
          simp only [maxLen] at hcm
          clear hx
          by_cases hp : x.pub = (k : Int)
          · have e1 : (x.pub == (k : Int)) = true := by rw [beq_iff_eq]; exact hp
            have He1 := hid e1
            clear hp
            cases hf : forkB x
            · have hstep := hid (midN_skip Hx.out (show (x.pub == (k : Int) && forkB x) = false by rw [hf]; simp))
              rw [hf] at hF
              clear hf
              go_wp2_with fail
              refine (hF.out _).mono ?_; rintro e w3 ⟨rfl, b3⟩
              have hb3 := below_step hb2 b3
              have own3 := hid (own_below own2.out b3)
              go_wp2
              go_roundw
              case rel => exact ⟨j + 1, A2, c2, n2, by omega, by go_num, rfl, hn2, by unfold Hid; rw [hstep.out]; exact hln2.out, by unfold Hid; rw [hstep.out]; exact own3.out, hb3⟩
              case measure => simp [intOf]; omega
            · rw [hf] at hF
              have hyes := hid (show (x.pub == (k : Int) && forkB x) = true by rw [He1.out, hf]; rfl)
              have hhas := midN_has (l := l) (k := k) (j := j) hk1
              obtain ⟨v, hv⟩ : ∃ v, namedB (l.take j) k = v := ⟨_, rfl⟩
              rw [hv] at hhas
              have Hh := hid hhas
              have Hv := hid hv
              clear hf hhas hv
              go_wp2_with fail
              refine (hF.out _).mono ?_; rintro e w3 ⟨rfl, b3⟩
              have hb3 := below_step hb2 b3
              have own3 := hid (own_below own2.out b3)
              have hz3 := hb3.size
              have hHas := hid (fun W (h : Cells W A2 (ints (midN l k j))) => l1Has_any A2 c2 n2 (midN l k j) (k : Int) W hln2 h (by omega))
              rw [Hh.out] at hHas
              cases v
              · have hstep := hid (midN_new Hx.out hyes.out Hv.out)
                have hln4 : Hid ((midN l k (j + 1)).length = n2 + 1) := by unfold Hid; rw [hstep.out, List.length_append, hln2.out]; rfl
                have hn4 : n2 + 1 ≤ k := by have h1 := hln4.out; omega
                clear hlen
                go_wp2_with fail
                refine (hHas.out _ (own_cells own3.out)).mono ?_; rintro e w4 ⟨rfl, rfl⟩
                go_wp2_with (at_builtin; refine wpList_app rfl (.tmp 37) (.tmp 39) 25 rfl w.heap.size Try.underlying25 info_int rfl (by omega) (by omega) A2 n2 c2 _ rfl (own3.out.alloc _) (some ⟨w3.heap.size, 0, none⟩) 1 1 [.int .i64 k] rfl rfl (cells_one _ _ _) (one_int _) (n2 + 1) (ints (midN l k (j + 1))) rfl (by rw [hstep.out, ints_snoc]) (by omega) (by simp; omega) ?_; intro A5 c5 w5 ho5 hb5)
                go_roundw
                case rel => exact ⟨j + 1, A5, c5, n2 + 1, by omega, by go_num, rfl, hn4, hln4, ho5, (hb3.alloc hz3 _).trans hb5⟩
                case measure => simp [intOf]; omega
              · have hstep := hid (midN_again Hx.out Hv.out)
                go_wp2_with fail
                refine (hHas.out _ (own_cells own3.out)).mono ?_; rintro e w4 ⟨rfl, rfl⟩
                go_wp2
                go_roundw
                case rel => exact ⟨j + 1, A2, c2, n2, by omega, by go_num, rfl, hn2, by unfold Hid; rw [hstep.out]; exact hln2.out, by unfold Hid; rw [hstep.out]; exact own3.out, hb3⟩
                case measure => simp [intOf]; omega
          · have e1 : (x.pub == (k : Int)) = false := by rw [beq_eq_false_iff_ne]; exact hp
            have hstep := hid (midN_skip Hx.out (show (x.pub == (k : Int) && forkB x) = false by rw [e1]; simp))
            clear hp
            go_wp2
            go_roundw
            case rel => exact ⟨j + 1, A2, c2, n2, by omega, by go_num, rfl, hn2, by unfold Hid; rw [hstep.out]; exact hln2.out, by unfold Hid; rw [hstep.out]; exact own2.out, hb2⟩
            case measure => simp [intOf]; omega
        · obtain rfl : j = m := by omega
          have hall := hid (midN_all (l := l) hk1)
          have hln3 : Hid ((specN l k).length = n2) := by unfold Hid; rw [← hall.out, hlm.out]; exact hln2.out
          have own3 : Hid (wr.ownsRow w.heap.size 3 1 (.slice A2 n2 c2) n2 (ints (specN l k))) := by unfold Hid; rw [← hall.out, hlm.out]; exact own2.out
          go_wp2
          go_roundw
          case rel => exact ⟨k + 1, A2, c2, n2, by omega, by omega, by go_num, rfl, by omega, by simpa using hln3, by simpa using own3, hb2⟩
          case measure => simp [intOf]; omega
    · obtain rfl : k = 997 := by omega
      go_wp2
      go_ret
      have hl3 := hln.out
      have ho3 := own.out
      exact retZ_all hl3 ho3 hb

/-- The keys of the right forks, in the list's order. -/
def keysL (l : List ForkT) : List Int := (l.filter forkB).map (·.pub)
theorem keysL_snoc {l : List ForkT} {j : Nat} {x : ForkT} (h : l[j]? = some x) : keysL (l.take (j + 1)) = keysL (l.take j) ++ if forkB x = true then [x.pub] else [] := by
  unfold keysL; rw [take_snoc _ _ _ h, List.filter_append, List.map_append]
  congr 1
  by_cases e : forkB x = true <;> simp [e]
theorem keysL_len (l : List ForkT) : (keysL l).length ≤ l.length := by unfold keysL; rw [List.length_map]; exact List.length_filter_le _ _
theorem keysL_mem {l : List ForkT} {z : Int} : z ∈ keysL l ↔ namedB l z = true := by
  unfold keysL namedB
  rw [List.any_eq_true]
  simp only [List.mem_map, List.mem_filter, Bool.and_eq_true, beq_iff_eq]
  constructor
  · rintro ⟨x, ⟨h1, h2⟩, h3⟩; exact ⟨x, h1, h3, h2⟩
  · rintro ⟨x, h1, h3, h2⟩; exact ⟨x, ⟨h1, h2⟩, h3⟩
theorem named_range {l : List ForkT} {z : Int} (h : namedB l z = true) : 1 ≤ z ∧ z ≤ 996 := by
  unfold namedB at h
  rw [List.any_eq_true] at h
  obtain ⟨x, _, h2⟩ := h
  simp only [Bool.and_eq_true, beq_iff_eq] at h2
  obtain ⟨rfl, h3⟩ := h2
  unfold forkB headB at h3
  simp only [Bool.and_eq_true] at h3
  exact inB_parts h3.1.1.1.1.1.1.1
theorem specAll_mem {l : List ForkT} {z : Int} : z ∈ specAll l ↔ namedB l z = true := by
  unfold specAll
  rw [specN_mem]
  constructor
  · exact fun h => h.2.2
  · intro h; have := named_range h; exact ⟨this.1, by omega, h⟩
theorem specAll_sorted (l : List ForkT) : (specAll l).Pairwise (· < ·) := specN_sorted l 996
theorem ascL_length (l : List Int) : (ascL l).length = l.length := isort_length _ _ _
theorem ascL_facts (l : List Int) : (ascL l).Perm l ∧ (ascL l).Pairwise (· ≤ ·) := by
  obtain ⟨s, h1, h2, h3⟩ := isort_asc l l.length (Nat.le_refl _)
  have e : ascL l = s := by
    unfold ascL lessI
    rw [h1, List.drop_length, List.append_nil]
  rw [List.take_length] at h2
  rw [e]
  exact ⟨h2, h3⟩
theorem named_eq (l : List ForkT) : compTo (ascL (keysL l)) (ascL (keysL l)).length = specAll l := by
  obtain ⟨h1, h2⟩ := ascL_facts (keysL l)
  refine sorted_ext (r := (· < ·)) (fun a => by omega) (fun a b c => by omega) _ _ (compTo_sorted h2 (Nat.le_refl _)) (specAll_sorted l) (fun z => ?_)
  rw [compTo_mem (Nat.le_refl _), List.take_length, h1.mem_iff, keysL_mem, specAll_mem]

end Go.Proofs.Ytpnahccmdebifaa
