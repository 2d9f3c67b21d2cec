/- Words for the exact laws on windows. -/
import Derived.Test.YtjfpemneinclfaaLW0
namespace Go.Proofs.Ytjfpemneinclfaa
open Go.RowKit

theorem eqAskS_g {l : List AskT} {n : Nat} (hn : Hid (l.length = n)) (h : n ≤ 1048577) (A B : Option Addr) (c d : Nat) (w : World) (hA : Cells w A (asks l)) (hB : Cells w B (asks l)) :
    Calls Try.prog 25 #[.slice A n c, .slice B n d] w (RetB w true) := by
  have h1 := hn.out; subst h1
  exact eqAskS_true A B c d l w hA hB (by omega)
theorem markAskS_g {l : List AskT} {n : Nat} (hn : Hid (l.length = n)) (h : n ≤ 1048577) (A : Option Addr) (c lo hi : Nat) (k : Int) (w : World) (ho : Own w lo hi 34 2 A c n (asks l)) (hk0 : 0 ≤ k) (hk : k ≤ 17592186044416) :
    Calls Try.prog 34 #[.slice A n c, .int .i64 k] w fun e w' => e = .returned (.int .i64 (k + n * 2)) ∧ Own w' lo hi 34 2 A c n (asks (upA k n)) ∧ Chg lo hi w w' := by
  have h1 := hn.out; subst h1
  exact markAskS_any A c lo hi l k w ho (by omega) hk0 hk

end Go.Proofs.Ytjfpemneinclfaa
