/- Marks on journals; small comparisons. -/
import Derived.Test.YtihjjnmhionibaaJ11
namespace Go.Proofs.Ytihjjnmhionibaa
open Go.RowKit

set_option maxHeartbeats 1000000 in
theorem markJournal_any (A : Option Addr) (c lo hi n : Nat) (l : List RecT) (s : Int) (k : Nat) (w : World) (hn : Hid (l.length = n)) (ho : Own w lo hi 35 2 A c n (recs l)) (hm : n ≤ 1048577) (hk0 : 1 ≤ k) (hk : k ≤ 8796093022208) :
    Calls Try.prog 34 #[jv A n c s, .int .i64 k] w fun e w' => e = .returned (.int .i64 ((k : Int) + n * 2)) ∧ Own w' lo hi 35 2 A c n (recs (upR k n)) ∧ Chg lo hi w w' := by
  have hb := (Below.refl w.heap.size w).alloc (Nat.le_refl _) (.cells #[.slice A n c, .int .i64 s] 29)
  have o1 := hid (ho.below hb)
  have h := hn.out
  subst h
  clear ho hn
  go_enter Try.func34, Try.ntmps34
  go_wp2_with fail
  refine (markRecordS_any _ _ lo hi l k _ o1.out hm hk0 hk).mono ?_; rintro e w2 ⟨rfl, o2, c2⟩
  have O2 := hid o2
  clear o2
  go_wp2_with fail
  go_ret
  exact ⟨rfl, O2.out, (chg_of_below hb).trans c2⟩
set_option maxHeartbeats 1000000 in
theorem heldJournal_any (A : Option Addr) (c n k : Nat) (s : Int) (w : World) (hA : Cells w A (recs (upR k n))) (hm : n ≤ 1048577) (hk0 : 1 ≤ k) (hk : k ≤ 8796093022208) :
    Calls Try.prog 35 #[jv A n c s, .int .i64 k] w fun e w' => e = .returned (.int .i64 ((k : Int) + n * 2)) ∧ Below w.heap.size w w' := by
  have hb := (Below.refl w.heap.size w).alloc (Nat.le_refl _) (.cells #[.slice A n c, .int .i64 s] 29)
  have hA1 := hid (hA.below hb)
  clear hA
  go_enter Try.func35, Try.ntmps35
  go_wp2_with fail
  refine (heldRecordS_any _ _ n k _ hA1.out hm hk0 hk).mono ?_; rintro e w2 ⟨rfl, b2⟩
  go_wp2_with fail
  go_ret
  exact ⟨rfl, below_step hb b2⟩

end Go.Proofs.Ytihjjnmhionibaa
