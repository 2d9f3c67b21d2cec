/- Contracts under names: the list and its length. -/
import Derived.Test.YtckbpiapkooamaaR5
import Derived.Test.YtckbpiapkooamaaR6
import Derived.Test.YtckbpiapkooamaaC4
namespace Go.Proofs.Ytckbpiapkooamaa
open Go.RowKit

def RetLn (w : World) (L : List Int) (n : Nat) (e : Ending) (w' : World) : Prop :=
  ∃ A c, e = .returned (.slice A n c) ∧ Own w' w.heap.size w'.heap.size 3 1 A c n (ints L) ∧ Below w.heap.size w w'
section
variable {ps : List Bits} {mine : Bits} {L : List Int} {n m k : Nat}
theorem implOrder_g (hG : Hid (orderG ps mine = L)) (hn : Hid (L.length = n)) (hp : Hid (ps.length = m)) (hq : Hid (mine.length = k)) (A B : Option Addr) (c d : Nat) (w : World) (hr : Mat w A ps) (hs : Hid (Small ps)) (hmi : Cells w B (bools mine)) (hml : k ≤ 17592186044416) :
    Calls Try.prog 28 #[.slice A m c, .slice B k d] w (RetLn w L n) := by
  have h1 := hn.out; subst h1
  have h2 := hp.out; subst h2
  have h3 := hq.out; subst h3
  have := implOrder_any A B c d ps mine w hr hs.out hmi hml
  rw [hG.out] at this
  exact this
theorem sameInts_n (hn : Hid (L.length = n)) (h : n ≤ 1048576) (A B : Option Addr) (c d : Nat) (w : World) (hA : Cells w A (ints L)) (hB : Cells w B (ints L)) :
    Calls Try.prog 30 #[.slice A n c, .slice B n d] w (RetB w true) := by
  have h1 := hn.out; subst h1
  exact sameInts_true A B c d L w hA hB (by omega)
theorem specOrder_g (hG : Hid (orderG ps mine = L)) (hn : Hid (L.length = n)) (hp : Hid (ps.length = m)) (hq : Hid (mine.length = k)) (A B : Option Addr) (c d : Nat) (w : World) (hr : Mat w A ps) (hs : Hid (Small ps)) (hmi : Cells w B (bools mine)) (hml : k ≤ 17592186044416) :
    Calls Try.prog 29 #[.slice A m c, .slice B k d] w (RetLn w L n) := by
  have h1 := hn.out; subst h1
  have h2 := hp.out; subst h2
  have h3 := hq.out; subst h3
  have := specOrder_any A B c d ps mine w hr hs.out hmi hml
  rw [hG.out] at this
  exact this
theorem eqIntS_n (hn : Hid (L.length = n)) (h : n ≤ 1048576) (A B : Option Addr) (c d : Nat) (w : World) (hA : Cells w A (ints L)) (hB : Cells w B (ints L)) :
    Calls Try.prog 37 #[.slice A n c, .slice B n d] w (RetB w true) := by
  have h1 := hn.out; subst h1
  exact eqIntS_true A B c d L w hA hB (by omega)
theorem markIntS_n (hn : Hid (L.length = n)) (h : n ≤ 1048576) (A : Option Addr) (c lo hi : Nat) (k : Int) (w : World) (ho : Own w lo hi 3 1 A c n (ints L)) (hk0 : 0 ≤ k) (hk : k ≤ 17592186044416) :
    Calls Try.prog 40 #[.slice A n c, .int .i64 k] w fun e w' => e = .returned (.int .i64 (k + n)) ∧ Own w' lo hi 3 1 A c n (ints (upw k n)) ∧ Chg lo hi w w' := by
  have h1 := hn.out; subst h1
  exact markIntS_any A c lo hi L k w ho (by omega) hk0 hk
theorem hasInt_n (hn : Hid (L.length = n)) (h : n ≤ 1048576) (A : Option Addr) (c : Nat) (x : Int) (b : Bool) (hb : Hid (decide (x ∈ L) = b)) (w : World) (hA : Cells w A (ints L)) :
    Calls Try.prog 36 #[.slice A n c, .int .i64 x] w fun e w' => e = .returned (.bool b) ∧ w = w' := by
  have h1 := hn.out; subst h1
  have h2 := hb.out; subst h2
  exact hasInt_any A c L x w hA (by omega)
theorem holders_n (hp : Hid (ps.length = m)) (h : m ≤ 1048576) (A : Option Addr) (c x : Nat) (q : Nat) (hq : Hid (cnt ps x = q)) (w : World) (hr : Mat w A ps) :
    Calls Try.prog 23 #[.slice A m c, .int .i64 x] w fun e w' => e = .returned (.int .i64 q) ∧ w = w' := by
  have h1 := hp.out; subst h1
  have h2 := hq.out; subst h2
  exact holders_any A c ps x w hr (by omega)
theorem implCount_n (hp : Hid (ps.length = m)) (hs : Hid (Small ps)) (A : Option Addr) (c : Nat) (x q : Int) (hq : Hid (countG ps x = q)) (w : World) (hr : Mat w A ps) :
    Calls Try.prog 20 #[.slice A m c, .int .i64 x] w fun e w' => e = .returned (.int .i64 q) ∧ w = w' := by
  have h1 := hp.out; subst h1
  have h2 := hq.out; subst h2
  exact implCount_any A c ps x w hr hs.out
theorem specCount_n (hp : Hid (ps.length = m)) (hs : Hid (Small ps)) (A : Option Addr) (c : Nat) (x q : Int) (hq : Hid (countG ps x = q)) (w : World) (hr : Mat w A ps) :
    Calls Try.prog 18 #[.slice A m c, .int .i64 x] w fun e w' => e = .returned (.int .i64 q) ∧ w = w' := by
  have h1 := hp.out; subst h1
  have h2 := hq.out; subst h2
  exact specCount_any A c ps x w hr hs.out
theorem implWhole_n (hp : Hid (ps.length = m)) (hs : Hid (Small ps)) (A : Option Addr) (c : Nat) (x q : Int) (hq : Hid (wholeG ps x = q)) (w : World) (hr : Mat w A ps) :
    Calls Try.prog 25 #[.slice A m c, .int .i64 x] w fun e w' => e = .returned (.int .i64 q) ∧ w = w' := by
  have h1 := hp.out; subst h1
  have h2 := hq.out; subst h2
  exact implWhole_any A c ps x w hr hs.out
theorem specWhole_n (hp : Hid (ps.length = m)) (hs : Hid (Small ps)) (A : Option Addr) (c : Nat) (x q : Int) (hq : Hid (wholeG ps x = q)) (w : World) (hr : Mat w A ps) :
    Calls Try.prog 24 #[.slice A m c, .int .i64 x] w fun e w' => e = .returned (.int .i64 q) ∧ w = w' := by
  have h1 := hp.out; subst h1
  have h2 := hq.out; subst h2
  exact specWhole_any A c ps x w hr hs.out
theorem implPick_n (hp : Hid (ps.length = m)) (hq : Hid (mine.length = k)) (hs : Hid (Small ps)) (A B : Option Addr) (c d : Nat) (x q : Int) (hG : Hid (pickG ps mine x = q)) (w : World) (hr : Mat w A ps) (hmi : Cells w B (bools mine)) (hml : k ≤ 17592186044416) :
    Calls Try.prog 32 #[.slice A m c, .slice B k d, .int .i64 x] w fun e w' => e = .returned (.int .i64 q) ∧ Below w.heap.size w w' := by
  have h1 := hp.out; subst h1
  have h2 := hq.out; subst h2
  have h3 := hG.out; subst h3
  exact implPick_any A B c d ps mine x w hr hs.out hmi hml
theorem specPick_n (hp : Hid (ps.length = m)) (hq : Hid (mine.length = k)) (hs : Hid (Small ps)) (A B : Option Addr) (c d : Nat) (x q : Int) (hG : Hid (pickG ps mine x = q)) (w : World) (hr : Mat w A ps) (hmi : Cells w B (bools mine)) (hml : k ≤ 17592186044416) :
    Calls Try.prog 33 #[.slice A m c, .slice B k d, .int .i64 x] w fun e w' => e = .returned (.int .i64 q) ∧ Below w.heap.size w w' := by
  have h1 := hp.out; subst h1
  have h2 := hq.out; subst h2
  have h3 := hG.out; subst h3
  exact specPick_any A B c d ps mine x w hr hs.out hmi hml
end

end Go.Proofs.Ytckbpiapkooamaa
