/- Contracts of the small helpers over slices of int: copies, comparisons, marks. -/
import Derived.Test.YtihjjnmhionibaaBase
import Derived.Test.YtihjjnmhionibaaChecked
namespace Go.Proofs.Ytihjjnmhionibaa
open Go.RowKit

theorem info_int : (Try.prog.info? 3).map (fun i => (i.zero, i.size, i.bytes)) = some (some (.int .i64 0), 1, 8) := by kernel_rfl

/-- A slice of ints in new memory; nothing that was there has changed. -/
def RetInts (w : World) (zs : List Int) (e : Ending) (w' : World) : Prop :=
  ∃ A c, e = .returned (.slice A zs.length c) ∧ Own w' w.heap.size w'.heap.size 3 1 A c zs.length (ints zs) ∧ Below w.heap.size w w'
/-- A bool, and nothing that was there has changed. -/
def RetB (w : World) (b : Bool) (e : Ending) (w' : World) : Prop := e = .returned (.bool b) ∧ Below w.heap.size w w'

def inB (n lo hi : Int) : Bool := decide (lo ≤ n ∧ n ≤ hi)

set_option maxHeartbeats 400000 in
theorem l6In_any (n lo hi : Int) (w : World) : Calls Try.prog 50 #[.int .i64 n, .int .i64 lo, .int .i64 hi] w fun e w' => e = .returned (.bool (inB n lo hi)) ∧ w = w' := by
  go_enter Try.func50, Try.ntmps50
  go_wp2
  all_goals go_ret
  all_goals (refine ⟨?_, rfl⟩; unfold inB; simp_all)
  all_goals omega
set_option maxHeartbeats 400000 in
theorem within_any (n lo hi : Int) (w : World) : Calls Try.prog 52 #[.int .i64 n, .int .i64 lo, .int .i64 hi] w fun e w' => e = .returned (.bool (inB n lo hi)) ∧ w = w' := by
  go_enter Try.func52, Try.ntmps52
  go_wp2
  all_goals go_ret
  all_goals (refine ⟨?_, rfl⟩; unfold inB; simp_all)
  all_goals omega

end Go.Proofs.Ytihjjnmhionibaa
