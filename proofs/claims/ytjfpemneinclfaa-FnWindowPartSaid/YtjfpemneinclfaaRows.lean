/-
  No cell of these rows narrows 'for every input' (looked for: loops, veiled, ifaces, maps, wideKeys, modest, calm, conditions, laid).
  DERIVED. THE GIVEN ROWS OF THIS SEAT. 18 by the template 'for every input the law returns true; each argument reads behind the call as it read before'; 0 by the template 'total and deterministic' (their statements: YtjfpemneinclfaaTotals.lean).
  GIVEN WITH THE SEED: the statements are not yours to turn. If you find one false, say at which input.
  Laid BY PROGRAM, IN A SANDBOX (cutbox-rows.mjs): the forced cells as the released guide's own fill.sh prints them over the translation da48c204c8279da5… (all of the seat's roots in one cut). By AI agents, Wed Nov 11 2026. No macro, syntax, notation, axiom, sorry.
-/
import Derived.Test.YtjfpemneinclfaaChecked
import GoSem.Claim
import GoSem.ClaimJoined
import GoSem.ClaimMapViews
import Derived.JoinedTies
import Derived.KernelRfl
namespace Go.Proofs.Ytjfpemneinclfaa
/- THE CELL 'sum', in the pinned program and in every row, IS THE sha256 OF THE DUMP (.gsa) THAT YtjfpemneinclfaaProg.lean LOADS. Nothing in Lean hashes anything: it is a label: what it is worth is what the hold of that sum in a sandbox is worth. -/
noncomputable def Try.pinned : Pinned := { name := "ytjfpemneinclfaa", sum := "da48c204c8279da595078cc42be4a733a1661ef5268970a511ba2ccd3e361e70", checked := Try.checked }
namespace Rows
def none {H : Type} : Left H := { results := [], args := [] }

/-- 'laws.FnExactWindowValid': WHATEVER THE INPUT: true; the input reads as it did. -/
def fnExactWindowValidSpec : ChangeSpec := { name := "fnExactWindowValid", fn := fun _ => fun
  | [d] => { results := [.lit (.bool true)], args := [d] }
  | _ => none }
def fnExactWindowValidRow : OpenClaim := { program := "ytjfpemneinclfaa", sum := "da48c204c8279da595078cc42be4a733a1661ef5268970a511ba2ccd3e361e70", func := "loop.example/feedswarm/laws.FnExactWindowValid", spec := "fnExactWindowValid", apart := false }
def FnExactWindowValidSaid : Prop := fnExactWindowValidRow.holds Try.pinned (OpenSpec.ofChange fnExactWindowValidSpec)

/-- ITS FALSE NEIGHBOUR: 'it returns false'. Refute it at one input. -/
def fnExactWindowValidWrong : ChangeSpec := { name := "fnExactWindowValid", fn := fun _ => fun
  | [d] => { results := [.lit (.bool false)], args := [d] }
  | _ => none }
def FnExactWindowValidWrongFalsely : Prop := fnExactWindowValidRow.holds Try.pinned (OpenSpec.ofChange fnExactWindowValidWrong)

/-- 'laws.FnExactWindowRoom': WHATEVER THE INPUT: true; the input reads as it did. -/
def fnExactWindowRoomSpec : ChangeSpec := { name := "fnExactWindowRoom", fn := fun _ => fun
  | [d1, d2] => { results := [.lit (.bool true)], args := [d1, d2] }
  | _ => none }
def fnExactWindowRoomRow : OpenClaim := { program := "ytjfpemneinclfaa", sum := "da48c204c8279da595078cc42be4a733a1661ef5268970a511ba2ccd3e361e70", func := "loop.example/feedswarm/laws.FnExactWindowRoom", spec := "fnExactWindowRoom", apart := false }
def FnExactWindowRoomSaid : Prop := fnExactWindowRoomRow.holds Try.pinned (OpenSpec.ofChange fnExactWindowRoomSpec)

/-- ITS FALSE NEIGHBOUR: 'it returns false'. Refute it at one input. -/
def fnExactWindowRoomWrong : ChangeSpec := { name := "fnExactWindowRoom", fn := fun _ => fun
  | [d1, d2] => { results := [.lit (.bool false)], args := [d1, d2] }
  | _ => none }
def FnExactWindowRoomWrongFalsely : Prop := fnExactWindowRoomRow.holds Try.pinned (OpenSpec.ofChange fnExactWindowRoomWrong)

/-- 'laws.FnWindowPart': WHATEVER THE INPUT: true; the input reads as it did. -/
def fnWindowPartSpec : ChangeSpec := { name := "fnWindowPart", fn := fun _ => fun
  | [d1, d2] => { results := [.lit (.bool true)], args := [d1, d2] }
  | _ => none }
def fnWindowPartRow : OpenClaim := { program := "ytjfpemneinclfaa", sum := "da48c204c8279da595078cc42be4a733a1661ef5268970a511ba2ccd3e361e70", func := "loop.example/feedswarm/laws.FnWindowPart", spec := "fnWindowPart", apart := false }
def FnWindowPartSaid : Prop := fnWindowPartRow.holds Try.pinned (OpenSpec.ofChange fnWindowPartSpec)

/-- ITS FALSE NEIGHBOUR: 'it returns false'. Refute it at one input. -/
def fnWindowPartWrong : ChangeSpec := { name := "fnWindowPart", fn := fun _ => fun
  | [d1, d2] => { results := [.lit (.bool false)], args := [d1, d2] }
  | _ => none }
def FnWindowPartWrongFalsely : Prop := fnWindowPartRow.holds Try.pinned (OpenSpec.ofChange fnWindowPartWrong)

/-- 'laws.FnAsk': WHATEVER THE INPUT: true; the input reads as it did. -/
def fnAskSpec : ChangeSpec := { name := "fnAsk", fn := fun _ => fun
  | [d] => { results := [.lit (.bool true)], args := [d] }
  | _ => none }
def fnAskRow : OpenClaim := { program := "ytjfpemneinclfaa", sum := "da48c204c8279da595078cc42be4a733a1661ef5268970a511ba2ccd3e361e70", func := "loop.example/feedswarm/laws.FnAsk", spec := "fnAsk", apart := false }
def FnAskSaid : Prop := fnAskRow.holds Try.pinned (OpenSpec.ofChange fnAskSpec)

/-- ITS FALSE NEIGHBOUR: 'it returns false'. Refute it at one input. -/
def fnAskWrong : ChangeSpec := { name := "fnAsk", fn := fun _ => fun
  | [d] => { results := [.lit (.bool false)], args := [d] }
  | _ => none }
def FnAskWrongFalsely : Prop := fnAskRow.holds Try.pinned (OpenSpec.ofChange fnAskWrong)

/-- 'laws.FnAskEnd': WHATEVER THE INPUT: true; the input reads as it did. -/
def fnAskEndSpec : ChangeSpec := { name := "fnAskEnd", fn := fun _ => fun
  | [d] => { results := [.lit (.bool true)], args := [d] }
  | _ => none }
def fnAskEndRow : OpenClaim := { program := "ytjfpemneinclfaa", sum := "da48c204c8279da595078cc42be4a733a1661ef5268970a511ba2ccd3e361e70", func := "loop.example/feedswarm/laws.FnAskEnd", spec := "fnAskEnd", apart := false }
def FnAskEndSaid : Prop := fnAskEndRow.holds Try.pinned (OpenSpec.ofChange fnAskEndSpec)

/-- ITS FALSE NEIGHBOUR: 'it returns false'. Refute it at one input. -/
def fnAskEndWrong : ChangeSpec := { name := "fnAskEnd", fn := fun _ => fun
  | [d] => { results := [.lit (.bool false)], args := [d] }
  | _ => none }
def FnAskEndWrongFalsely : Prop := fnAskEndRow.holds Try.pinned (OpenSpec.ofChange fnAskEndWrong)

/-- 'laws.FnAskTwice': WHATEVER THE INPUT: true; the input reads as it did. -/
def fnAskTwiceSpec : ChangeSpec := { name := "fnAskTwice", fn := fun _ => fun
  | [d] => { results := [.lit (.bool true)], args := [d] }
  | _ => none }
def fnAskTwiceRow : OpenClaim := { program := "ytjfpemneinclfaa", sum := "da48c204c8279da595078cc42be4a733a1661ef5268970a511ba2ccd3e361e70", func := "loop.example/feedswarm/laws.FnAskTwice", spec := "fnAskTwice", apart := false }
def FnAskTwiceSaid : Prop := fnAskTwiceRow.holds Try.pinned (OpenSpec.ofChange fnAskTwiceSpec)

/-- ITS FALSE NEIGHBOUR: 'it returns false'. Refute it at one input. -/
def fnAskTwiceWrong : ChangeSpec := { name := "fnAskTwice", fn := fun _ => fun
  | [d] => { results := [.lit (.bool false)], args := [d] }
  | _ => none }
def FnAskTwiceWrongFalsely : Prop := fnAskTwiceRow.holds Try.pinned (OpenSpec.ofChange fnAskTwiceWrong)

/-- 'laws.FnExactWindowAsk': WHATEVER THE INPUT: true; the input reads as it did. -/
def fnExactWindowAskSpec : ChangeSpec := { name := "fnExactWindowAsk", fn := fun _ => fun
  | [d1, d2, d3] => { results := [.lit (.bool true)], args := [d1, d2, d3] }
  | _ => none }
def fnExactWindowAskRow : OpenClaim := { program := "ytjfpemneinclfaa", sum := "da48c204c8279da595078cc42be4a733a1661ef5268970a511ba2ccd3e361e70", func := "loop.example/feedswarm/laws.FnExactWindowAsk", spec := "fnExactWindowAsk", apart := false }
def FnExactWindowAskSaid : Prop := fnExactWindowAskRow.holds Try.pinned (OpenSpec.ofChange fnExactWindowAskSpec)

/-- ITS FALSE NEIGHBOUR: 'it returns false'. Refute it at one input. -/
def fnExactWindowAskWrong : ChangeSpec := { name := "fnExactWindowAsk", fn := fun _ => fun
  | [d1, d2, d3] => { results := [.lit (.bool false)], args := [d1, d2, d3] }
  | _ => none }
def FnExactWindowAskWrongFalsely : Prop := fnExactWindowAskRow.holds Try.pinned (OpenSpec.ofChange fnExactWindowAskWrong)

/-- 'laws.FnRoom': WHATEVER THE INPUT: true; the input reads as it did. -/
def fnRoomSpec : ChangeSpec := { name := "fnRoom", fn := fun _ => fun
  | [d] => { results := [.lit (.bool true)], args := [d] }
  | _ => none }
def fnRoomRow : OpenClaim := { program := "ytjfpemneinclfaa", sum := "da48c204c8279da595078cc42be4a733a1661ef5268970a511ba2ccd3e361e70", func := "loop.example/feedswarm/laws.FnRoom", spec := "fnRoom", apart := false }
def FnRoomSaid : Prop := fnRoomRow.holds Try.pinned (OpenSpec.ofChange fnRoomSpec)

/-- ITS FALSE NEIGHBOUR: 'it returns false'. Refute it at one input. -/
def fnRoomWrong : ChangeSpec := { name := "fnRoom", fn := fun _ => fun
  | [d] => { results := [.lit (.bool false)], args := [d] }
  | _ => none }
def FnRoomWrongFalsely : Prop := fnRoomRow.holds Try.pinned (OpenSpec.ofChange fnRoomWrong)

/-- 'laws.FnAskSingle': WHATEVER THE INPUT: true; the input reads as it did. -/
def fnAskSingleSpec : ChangeSpec := { name := "fnAskSingle", fn := fun _ => fun
  | [d] => { results := [.lit (.bool true)], args := [d] }
  | _ => none }
def fnAskSingleRow : OpenClaim := { program := "ytjfpemneinclfaa", sum := "da48c204c8279da595078cc42be4a733a1661ef5268970a511ba2ccd3e361e70", func := "loop.example/feedswarm/laws.FnAskSingle", spec := "fnAskSingle", apart := false }
def FnAskSingleSaid : Prop := fnAskSingleRow.holds Try.pinned (OpenSpec.ofChange fnAskSingleSpec)

/-- ITS FALSE NEIGHBOUR: 'it returns false'. Refute it at one input. -/
def fnAskSingleWrong : ChangeSpec := { name := "fnAskSingle", fn := fun _ => fun
  | [d] => { results := [.lit (.bool false)], args := [d] }
  | _ => none }
def FnAskSingleWrongFalsely : Prop := fnAskSingleRow.holds Try.pinned (OpenSpec.ofChange fnAskSingleWrong)

/-- 'laws.FnExactWindowDrop': WHATEVER THE INPUT: true; the input reads as it did. -/
def fnExactWindowDropSpec : ChangeSpec := { name := "fnExactWindowDrop", fn := fun _ => fun
  | [d1, d2] => { results := [.lit (.bool true)], args := [d1, d2] }
  | _ => none }
def fnExactWindowDropRow : OpenClaim := { program := "ytjfpemneinclfaa", sum := "da48c204c8279da595078cc42be4a733a1661ef5268970a511ba2ccd3e361e70", func := "loop.example/feedswarm/laws.FnExactWindowDrop", spec := "fnExactWindowDrop", unfollowed := true, recurses := true, apart := false }
def FnExactWindowDropSaid : Prop := fnExactWindowDropRow.holds Try.pinned (OpenSpec.ofChange fnExactWindowDropSpec)

/-- ITS FALSE NEIGHBOUR: 'it returns false'. Refute it at one input. -/
def fnExactWindowDropWrong : ChangeSpec := { name := "fnExactWindowDrop", fn := fun _ => fun
  | [d1, d2] => { results := [.lit (.bool false)], args := [d1, d2] }
  | _ => none }
def FnExactWindowDropWrongFalsely : Prop := fnExactWindowDropRow.holds Try.pinned (OpenSpec.ofChange fnExactWindowDropWrong)

/-- 'laws.FnAskRefused': WHATEVER THE INPUT: true; the input reads as it did. -/
def fnAskRefusedSpec : ChangeSpec := { name := "fnAskRefused", fn := fun _ => fun
  | [d] => { results := [.lit (.bool true)], args := [d] }
  | _ => none }
def fnAskRefusedRow : OpenClaim := { program := "ytjfpemneinclfaa", sum := "da48c204c8279da595078cc42be4a733a1661ef5268970a511ba2ccd3e361e70", func := "loop.example/feedswarm/laws.FnAskRefused", spec := "fnAskRefused", apart := false }
def FnAskRefusedSaid : Prop := fnAskRefusedRow.holds Try.pinned (OpenSpec.ofChange fnAskRefusedSpec)

/-- ITS FALSE NEIGHBOUR: 'it returns false'. Refute it at one input. -/
def fnAskRefusedWrong : ChangeSpec := { name := "fnAskRefused", fn := fun _ => fun
  | [d] => { results := [.lit (.bool false)], args := [d] }
  | _ => none }
def FnAskRefusedWrongFalsely : Prop := fnAskRefusedRow.holds Try.pinned (OpenSpec.ofChange fnAskRefusedWrong)

/-- 'laws.FnExactWindowGot': WHATEVER THE INPUT: true; the input reads as it did. -/
def fnExactWindowGotSpec : ChangeSpec := { name := "fnExactWindowGot", fn := fun _ => fun
  | [d1, d2] => { results := [.lit (.bool true)], args := [d1, d2] }
  | _ => none }
def fnExactWindowGotRow : OpenClaim := { program := "ytjfpemneinclfaa", sum := "da48c204c8279da595078cc42be4a733a1661ef5268970a511ba2ccd3e361e70", func := "loop.example/feedswarm/laws.FnExactWindowGot", spec := "fnExactWindowGot", unfollowed := true, recurses := true, apart := false }
def FnExactWindowGotSaid : Prop := fnExactWindowGotRow.holds Try.pinned (OpenSpec.ofChange fnExactWindowGotSpec)

/-- ITS FALSE NEIGHBOUR: 'it returns false'. Refute it at one input. -/
def fnExactWindowGotWrong : ChangeSpec := { name := "fnExactWindowGot", fn := fun _ => fun
  | [d1, d2] => { results := [.lit (.bool false)], args := [d1, d2] }
  | _ => none }
def FnExactWindowGotWrongFalsely : Prop := fnExactWindowGotRow.holds Try.pinned (OpenSpec.ofChange fnExactWindowGotWrong)

/-- 'laws.FnDropNone': WHATEVER THE INPUT: true; the input reads as it did. -/
def fnDropNoneSpec : ChangeSpec := { name := "fnDropNone", fn := fun _ => fun
  | [d] => { results := [.lit (.bool true)], args := [d] }
  | _ => none }
def fnDropNoneRow : OpenClaim := { program := "ytjfpemneinclfaa", sum := "da48c204c8279da595078cc42be4a733a1661ef5268970a511ba2ccd3e361e70", func := "loop.example/feedswarm/laws.FnDropNone", spec := "fnDropNone", unfollowed := true, recurses := true, apart := false }
def FnDropNoneSaid : Prop := fnDropNoneRow.holds Try.pinned (OpenSpec.ofChange fnDropNoneSpec)

/-- ITS FALSE NEIGHBOUR: 'it returns false'. Refute it at one input. -/
def fnDropNoneWrong : ChangeSpec := { name := "fnDropNone", fn := fun _ => fun
  | [d] => { results := [.lit (.bool false)], args := [d] }
  | _ => none }
def FnDropNoneWrongFalsely : Prop := fnDropNoneRow.holds Try.pinned (OpenSpec.ofChange fnDropNoneWrong)

/-- 'laws.FnDrop': WHATEVER THE INPUT: true; the input reads as it did. -/
def fnDropSpec : ChangeSpec := { name := "fnDrop", fn := fun _ => fun
  | [d] => { results := [.lit (.bool true)], args := [d] }
  | _ => none }
def fnDropRow : OpenClaim := { program := "ytjfpemneinclfaa", sum := "da48c204c8279da595078cc42be4a733a1661ef5268970a511ba2ccd3e361e70", func := "loop.example/feedswarm/laws.FnDrop", spec := "fnDrop", unfollowed := true, recurses := true, apart := false }
def FnDropSaid : Prop := fnDropRow.holds Try.pinned (OpenSpec.ofChange fnDropSpec)

/-- ITS FALSE NEIGHBOUR: 'it returns false'. Refute it at one input. -/
def fnDropWrong : ChangeSpec := { name := "fnDrop", fn := fun _ => fun
  | [d] => { results := [.lit (.bool false)], args := [d] }
  | _ => none }
def FnDropWrongFalsely : Prop := fnDropRow.holds Try.pinned (OpenSpec.ofChange fnDropWrong)

/-- 'laws.FnGot': WHATEVER THE INPUT: true; the input reads as it did. -/
def fnGotSpec : ChangeSpec := { name := "fnGot", fn := fun _ => fun
  | [d] => { results := [.lit (.bool true)], args := [d] }
  | _ => none }
def fnGotRow : OpenClaim := { program := "ytjfpemneinclfaa", sum := "da48c204c8279da595078cc42be4a733a1661ef5268970a511ba2ccd3e361e70", func := "loop.example/feedswarm/laws.FnGot", spec := "fnGot", unfollowed := true, recurses := true, apart := false }
def FnGotSaid : Prop := fnGotRow.holds Try.pinned (OpenSpec.ofChange fnGotSpec)

/-- ITS FALSE NEIGHBOUR: 'it returns false'. Refute it at one input. -/
def fnGotWrong : ChangeSpec := { name := "fnGot", fn := fun _ => fun
  | [d] => { results := [.lit (.bool false)], args := [d] }
  | _ => none }
def FnGotWrongFalsely : Prop := fnGotRow.holds Try.pinned (OpenSpec.ofChange fnGotWrong)

/-- 'laws.FnGotTwice': WHATEVER THE INPUT: true; the input reads as it did. -/
def fnGotTwiceSpec : ChangeSpec := { name := "fnGotTwice", fn := fun _ => fun
  | [d] => { results := [.lit (.bool true)], args := [d] }
  | _ => none }
def fnGotTwiceRow : OpenClaim := { program := "ytjfpemneinclfaa", sum := "da48c204c8279da595078cc42be4a733a1661ef5268970a511ba2ccd3e361e70", func := "loop.example/feedswarm/laws.FnGotTwice", spec := "fnGotTwice", unfollowed := true, recurses := true, apart := false }
def FnGotTwiceSaid : Prop := fnGotTwiceRow.holds Try.pinned (OpenSpec.ofChange fnGotTwiceSpec)

/-- ITS FALSE NEIGHBOUR: 'it returns false'. Refute it at one input. -/
def fnGotTwiceWrong : ChangeSpec := { name := "fnGotTwice", fn := fun _ => fun
  | [d] => { results := [.lit (.bool false)], args := [d] }
  | _ => none }
def FnGotTwiceWrongFalsely : Prop := fnGotTwiceRow.holds Try.pinned (OpenSpec.ofChange fnGotTwiceWrong)

/-- 'laws.FnGotWaste': WHATEVER THE INPUT: true; the input reads as it did. -/
def fnGotWasteSpec : ChangeSpec := { name := "fnGotWaste", fn := fun _ => fun
  | [d] => { results := [.lit (.bool true)], args := [d] }
  | _ => none }
def fnGotWasteRow : OpenClaim := { program := "ytjfpemneinclfaa", sum := "da48c204c8279da595078cc42be4a733a1661ef5268970a511ba2ccd3e361e70", func := "loop.example/feedswarm/laws.FnGotWaste", spec := "fnGotWaste", unfollowed := true, recurses := true, apart := false }
def FnGotWasteSaid : Prop := fnGotWasteRow.holds Try.pinned (OpenSpec.ofChange fnGotWasteSpec)

/-- ITS FALSE NEIGHBOUR: 'it returns false'. Refute it at one input. -/
def fnGotWasteWrong : ChangeSpec := { name := "fnGotWaste", fn := fun _ => fun
  | [d] => { results := [.lit (.bool false)], args := [d] }
  | _ => none }
def FnGotWasteWrongFalsely : Prop := fnGotWasteRow.holds Try.pinned (OpenSpec.ofChange fnGotWasteWrong)

/-- 'laws.FnAskAgain': WHATEVER THE INPUT: true; the input reads as it did. -/
def fnAskAgainSpec : ChangeSpec := { name := "fnAskAgain", fn := fun _ => fun
  | [d] => { results := [.lit (.bool true)], args := [d] }
  | _ => none }
def fnAskAgainRow : OpenClaim := { program := "ytjfpemneinclfaa", sum := "da48c204c8279da595078cc42be4a733a1661ef5268970a511ba2ccd3e361e70", func := "loop.example/feedswarm/laws.FnAskAgain", spec := "fnAskAgain", unfollowed := true, recurses := true, apart := false }
def FnAskAgainSaid : Prop := fnAskAgainRow.holds Try.pinned (OpenSpec.ofChange fnAskAgainSpec)

/-- ITS FALSE NEIGHBOUR: 'it returns false'. Refute it at one input. -/
def fnAskAgainWrong : ChangeSpec := { name := "fnAskAgain", fn := fun _ => fun
  | [d] => { results := [.lit (.bool false)], args := [d] }
  | _ => none }
def FnAskAgainWrongFalsely : Prop := fnAskAgainRow.holds Try.pinned (OpenSpec.ofChange fnAskAgainWrong)

/- THE SECOND FORM. 'bulk': how many values and letters a reading holds, each counted each time it is reached (what is shared counts as often as it is met; a slice's spare places count too). A statement '..UptoSaid' is the law's where the arguments, and the package variables that the reading takes, are together of bulk at most 1048576: NARROWER than '..Said'. Prove '..Said' where nothing that the law and all that it calls make is longer than what came in: it says more and counts as full. Else prove '..UptoSaid'. A law counts once. -/
mutual
def uptoBulk {H : Type} : DataW H → Nat
  | .lit (.string bytes) => bytes.length + 1
  | .lit _ => 1
  | .nil => 1
  | .ptr d => uptoBulk d + 1
  | .slice elems spare => uptoBulkAll elems + uptoBulkAll spare + 1
  | .agg parts => uptoBulkAll parts + 1
  | .iface _ d => uptoBulk d + 1
  | .map entries => uptoBulkEntries entries + 1
  | .held _ => 1
def uptoBulkAll {H : Type} : List (DataW H) → Nat
  | [] => 0
  | d :: r => uptoBulk d + uptoBulkAll r
def uptoBulkEntries {H : Type} : List (Lit × DataW H) → Nat
  | [] => 0
  | x :: r => uptoBulkEntry x + uptoBulkEntries r
def uptoBulkEntry {H : Type} : Lit × DataW H → Nat
  | (.string bytes, d) => bytes.length + uptoBulk d + 1
  | (_, d) => uptoBulk d + 1
 end
def uptoSmall : (H : Type) → List (DataW H) → Bool := fun _ ds => decide (uptoBulkAll ds ≤ 1048576)
def OpenSpec.upto (s : _root_.Go.ChangeSpec) : _root_.Go.OpenSpec := { _root_.Go.OpenSpec.ofChange s with cond := some uptoSmall }

/-- 'laws.FnExactWindowValid', WHERE WHAT IT READS IS OF BULK AT MOST 1048576: true; the input reads as it did. -/
def fnExactWindowValidUptoRow : OpenClaim := { program := "ytjfpemneinclfaa", sum := "da48c204c8279da595078cc42be4a733a1661ef5268970a511ba2ccd3e361e70", func := "loop.example/feedswarm/laws.FnExactWindowValid", spec := "fnExactWindowValid", apart := false, narrowed := true }
def FnExactWindowValidUptoSaid : Prop := fnExactWindowValidUptoRow.holds Try.pinned (OpenSpec.upto fnExactWindowValidSpec)

/-- 'laws.FnExactWindowRoom', WHERE WHAT IT READS IS OF BULK AT MOST 1048576: true; the input reads as it did. -/
def fnExactWindowRoomUptoRow : OpenClaim := { program := "ytjfpemneinclfaa", sum := "da48c204c8279da595078cc42be4a733a1661ef5268970a511ba2ccd3e361e70", func := "loop.example/feedswarm/laws.FnExactWindowRoom", spec := "fnExactWindowRoom", apart := false, narrowed := true }
def FnExactWindowRoomUptoSaid : Prop := fnExactWindowRoomUptoRow.holds Try.pinned (OpenSpec.upto fnExactWindowRoomSpec)

/-- 'laws.FnWindowPart', WHERE WHAT IT READS IS OF BULK AT MOST 1048576: true; the input reads as it did. -/
def fnWindowPartUptoRow : OpenClaim := { program := "ytjfpemneinclfaa", sum := "da48c204c8279da595078cc42be4a733a1661ef5268970a511ba2ccd3e361e70", func := "loop.example/feedswarm/laws.FnWindowPart", spec := "fnWindowPart", apart := false, narrowed := true }
def FnWindowPartUptoSaid : Prop := fnWindowPartUptoRow.holds Try.pinned (OpenSpec.upto fnWindowPartSpec)

/-- 'laws.FnAsk', WHERE WHAT IT READS IS OF BULK AT MOST 1048576: true; the input reads as it did. -/
def fnAskUptoRow : OpenClaim := { program := "ytjfpemneinclfaa", sum := "da48c204c8279da595078cc42be4a733a1661ef5268970a511ba2ccd3e361e70", func := "loop.example/feedswarm/laws.FnAsk", spec := "fnAsk", apart := false, narrowed := true }
def FnAskUptoSaid : Prop := fnAskUptoRow.holds Try.pinned (OpenSpec.upto fnAskSpec)

/-- 'laws.FnAskEnd', WHERE WHAT IT READS IS OF BULK AT MOST 1048576: true; the input reads as it did. -/
def fnAskEndUptoRow : OpenClaim := { program := "ytjfpemneinclfaa", sum := "da48c204c8279da595078cc42be4a733a1661ef5268970a511ba2ccd3e361e70", func := "loop.example/feedswarm/laws.FnAskEnd", spec := "fnAskEnd", apart := false, narrowed := true }
def FnAskEndUptoSaid : Prop := fnAskEndUptoRow.holds Try.pinned (OpenSpec.upto fnAskEndSpec)

/-- 'laws.FnAskTwice', WHERE WHAT IT READS IS OF BULK AT MOST 1048576: true; the input reads as it did. -/
def fnAskTwiceUptoRow : OpenClaim := { program := "ytjfpemneinclfaa", sum := "da48c204c8279da595078cc42be4a733a1661ef5268970a511ba2ccd3e361e70", func := "loop.example/feedswarm/laws.FnAskTwice", spec := "fnAskTwice", apart := false, narrowed := true }
def FnAskTwiceUptoSaid : Prop := fnAskTwiceUptoRow.holds Try.pinned (OpenSpec.upto fnAskTwiceSpec)

/-- 'laws.FnExactWindowAsk', WHERE WHAT IT READS IS OF BULK AT MOST 1048576: true; the input reads as it did. -/
def fnExactWindowAskUptoRow : OpenClaim := { program := "ytjfpemneinclfaa", sum := "da48c204c8279da595078cc42be4a733a1661ef5268970a511ba2ccd3e361e70", func := "loop.example/feedswarm/laws.FnExactWindowAsk", spec := "fnExactWindowAsk", apart := false, narrowed := true }
def FnExactWindowAskUptoSaid : Prop := fnExactWindowAskUptoRow.holds Try.pinned (OpenSpec.upto fnExactWindowAskSpec)

/-- 'laws.FnRoom', WHERE WHAT IT READS IS OF BULK AT MOST 1048576: true; the input reads as it did. -/
def fnRoomUptoRow : OpenClaim := { program := "ytjfpemneinclfaa", sum := "da48c204c8279da595078cc42be4a733a1661ef5268970a511ba2ccd3e361e70", func := "loop.example/feedswarm/laws.FnRoom", spec := "fnRoom", apart := false, narrowed := true }
def FnRoomUptoSaid : Prop := fnRoomUptoRow.holds Try.pinned (OpenSpec.upto fnRoomSpec)

/-- 'laws.FnAskSingle', WHERE WHAT IT READS IS OF BULK AT MOST 1048576: true; the input reads as it did. -/
def fnAskSingleUptoRow : OpenClaim := { program := "ytjfpemneinclfaa", sum := "da48c204c8279da595078cc42be4a733a1661ef5268970a511ba2ccd3e361e70", func := "loop.example/feedswarm/laws.FnAskSingle", spec := "fnAskSingle", apart := false, narrowed := true }
def FnAskSingleUptoSaid : Prop := fnAskSingleUptoRow.holds Try.pinned (OpenSpec.upto fnAskSingleSpec)

/-- 'laws.FnExactWindowDrop', WHERE WHAT IT READS IS OF BULK AT MOST 1048576: true; the input reads as it did. -/
def fnExactWindowDropUptoRow : OpenClaim := { program := "ytjfpemneinclfaa", sum := "da48c204c8279da595078cc42be4a733a1661ef5268970a511ba2ccd3e361e70", func := "loop.example/feedswarm/laws.FnExactWindowDrop", spec := "fnExactWindowDrop", unfollowed := true, recurses := true, apart := false, narrowed := true }
def FnExactWindowDropUptoSaid : Prop := fnExactWindowDropUptoRow.holds Try.pinned (OpenSpec.upto fnExactWindowDropSpec)

/-- 'laws.FnAskRefused', WHERE WHAT IT READS IS OF BULK AT MOST 1048576: true; the input reads as it did. -/
def fnAskRefusedUptoRow : OpenClaim := { program := "ytjfpemneinclfaa", sum := "da48c204c8279da595078cc42be4a733a1661ef5268970a511ba2ccd3e361e70", func := "loop.example/feedswarm/laws.FnAskRefused", spec := "fnAskRefused", apart := false, narrowed := true }
def FnAskRefusedUptoSaid : Prop := fnAskRefusedUptoRow.holds Try.pinned (OpenSpec.upto fnAskRefusedSpec)

/-- 'laws.FnExactWindowGot', WHERE WHAT IT READS IS OF BULK AT MOST 1048576: true; the input reads as it did. -/
def fnExactWindowGotUptoRow : OpenClaim := { program := "ytjfpemneinclfaa", sum := "da48c204c8279da595078cc42be4a733a1661ef5268970a511ba2ccd3e361e70", func := "loop.example/feedswarm/laws.FnExactWindowGot", spec := "fnExactWindowGot", unfollowed := true, recurses := true, apart := false, narrowed := true }
def FnExactWindowGotUptoSaid : Prop := fnExactWindowGotUptoRow.holds Try.pinned (OpenSpec.upto fnExactWindowGotSpec)

/-- 'laws.FnDropNone', WHERE WHAT IT READS IS OF BULK AT MOST 1048576: true; the input reads as it did. -/
def fnDropNoneUptoRow : OpenClaim := { program := "ytjfpemneinclfaa", sum := "da48c204c8279da595078cc42be4a733a1661ef5268970a511ba2ccd3e361e70", func := "loop.example/feedswarm/laws.FnDropNone", spec := "fnDropNone", unfollowed := true, recurses := true, apart := false, narrowed := true }
def FnDropNoneUptoSaid : Prop := fnDropNoneUptoRow.holds Try.pinned (OpenSpec.upto fnDropNoneSpec)

/-- 'laws.FnDrop', WHERE WHAT IT READS IS OF BULK AT MOST 1048576: true; the input reads as it did. -/
def fnDropUptoRow : OpenClaim := { program := "ytjfpemneinclfaa", sum := "da48c204c8279da595078cc42be4a733a1661ef5268970a511ba2ccd3e361e70", func := "loop.example/feedswarm/laws.FnDrop", spec := "fnDrop", unfollowed := true, recurses := true, apart := false, narrowed := true }
def FnDropUptoSaid : Prop := fnDropUptoRow.holds Try.pinned (OpenSpec.upto fnDropSpec)

/-- 'laws.FnGot', WHERE WHAT IT READS IS OF BULK AT MOST 1048576: true; the input reads as it did. -/
def fnGotUptoRow : OpenClaim := { program := "ytjfpemneinclfaa", sum := "da48c204c8279da595078cc42be4a733a1661ef5268970a511ba2ccd3e361e70", func := "loop.example/feedswarm/laws.FnGot", spec := "fnGot", unfollowed := true, recurses := true, apart := false, narrowed := true }
def FnGotUptoSaid : Prop := fnGotUptoRow.holds Try.pinned (OpenSpec.upto fnGotSpec)

/-- 'laws.FnGotTwice', WHERE WHAT IT READS IS OF BULK AT MOST 1048576: true; the input reads as it did. -/
def fnGotTwiceUptoRow : OpenClaim := { program := "ytjfpemneinclfaa", sum := "da48c204c8279da595078cc42be4a733a1661ef5268970a511ba2ccd3e361e70", func := "loop.example/feedswarm/laws.FnGotTwice", spec := "fnGotTwice", unfollowed := true, recurses := true, apart := false, narrowed := true }
def FnGotTwiceUptoSaid : Prop := fnGotTwiceUptoRow.holds Try.pinned (OpenSpec.upto fnGotTwiceSpec)

/-- 'laws.FnGotWaste', WHERE WHAT IT READS IS OF BULK AT MOST 1048576: true; the input reads as it did. -/
def fnGotWasteUptoRow : OpenClaim := { program := "ytjfpemneinclfaa", sum := "da48c204c8279da595078cc42be4a733a1661ef5268970a511ba2ccd3e361e70", func := "loop.example/feedswarm/laws.FnGotWaste", spec := "fnGotWaste", unfollowed := true, recurses := true, apart := false, narrowed := true }
def FnGotWasteUptoSaid : Prop := fnGotWasteUptoRow.holds Try.pinned (OpenSpec.upto fnGotWasteSpec)

/-- 'laws.FnAskAgain', WHERE WHAT IT READS IS OF BULK AT MOST 1048576: true; the input reads as it did. -/
def fnAskAgainUptoRow : OpenClaim := { program := "ytjfpemneinclfaa", sum := "da48c204c8279da595078cc42be4a733a1661ef5268970a511ba2ccd3e361e70", func := "loop.example/feedswarm/laws.FnAskAgain", spec := "fnAskAgain", unfollowed := true, recurses := true, apart := false, narrowed := true }
def FnAskAgainUptoSaid : Prop := fnAskAgainUptoRow.holds Try.pinned (OpenSpec.upto fnAskAgainSpec)

end Rows
end Go.Proofs.Ytjfpemneinclfaa
