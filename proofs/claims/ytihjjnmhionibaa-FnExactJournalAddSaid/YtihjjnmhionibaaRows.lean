/-
  No cell of these rows narrows 'for every input' (looked for: loops, veiled, ifaces, maps, wideKeys, modest, calm, conditions, laid).
  DERIVED. THE GIVEN ROWS OF THIS SEAT. 15 by the template 'for every input the law returns true; each argument reads behind the call as it read before'; 0 by the template 'total and deterministic' (their statements: YtihjjnmhionibaaTotals.lean).
  GIVEN WITH THE SEED: the statements are not yours to turn. If you find one false, say at which input.
  Laid BY PROGRAM, IN A SANDBOX (cutbox-rows.mjs): the forced cells as the released guide's own fill.sh prints them over the translation addfaafe614909f6… (all of the seat's roots in one cut). By AI agents, Wed Nov 11 2026. No macro, syntax, notation, axiom, sorry.
-/
import Derived.Test.YtihjjnmhionibaaChecked
import GoSem.Claim
import GoSem.ClaimJoined
import GoSem.ClaimMapViews
import Derived.JoinedTies
import Derived.KernelRfl
namespace Go.Proofs.Ytihjjnmhionibaa
/- THE CELL 'sum', in the pinned program and in every row, IS THE sha256 OF THE DUMP (.gsa) THAT YtihjjnmhionibaaProg.lean LOADS. Nothing in Lean hashes anything: it is a label: what it is worth is what the hold of that sum in a sandbox is worth. -/
noncomputable def Try.pinned : Pinned := { name := "ytihjjnmhionibaa", sum := "addfaafe614909f626c3484ee184b935a299a8a4abffae0043e3c9dc876f081d", checked := Try.checked }
namespace Rows
def none {H : Type} : Left H := { results := [], args := [] }

/-- 'laws.FnExactJournalValid': WHATEVER THE INPUT: true; the input reads as it did. -/
def fnExactJournalValidSpec : ChangeSpec := { name := "fnExactJournalValid", fn := fun _ => fun
  | [d] => { results := [.lit (.bool true)], args := [d] }
  | _ => none }
def fnExactJournalValidRow : OpenClaim := { program := "ytihjjnmhionibaa", sum := "addfaafe614909f626c3484ee184b935a299a8a4abffae0043e3c9dc876f081d", func := "loop.example/feedswarm/laws.FnExactJournalValid", spec := "fnExactJournalValid", apart := false }
def FnExactJournalValidSaid : Prop := fnExactJournalValidRow.holds Try.pinned (OpenSpec.ofChange fnExactJournalValidSpec)

/-- ITS FALSE NEIGHBOUR: 'it returns false'. Refute it at one input. -/
def fnExactJournalValidWrong : ChangeSpec := { name := "fnExactJournalValid", fn := fun _ => fun
  | [d] => { results := [.lit (.bool false)], args := [d] }
  | _ => none }
def FnExactJournalValidWrongFalsely : Prop := fnExactJournalValidRow.holds Try.pinned (OpenSpec.ofChange fnExactJournalValidWrong)

/-- 'laws.FnJournalAdd': WHATEVER THE INPUT: true; the input reads as it did. -/
def fnJournalAddSpec : ChangeSpec := { name := "fnJournalAdd", fn := fun _ => fun
  | [d] => { results := [.lit (.bool true)], args := [d] }
  | _ => none }
def fnJournalAddRow : OpenClaim := { program := "ytihjjnmhionibaa", sum := "addfaafe614909f626c3484ee184b935a299a8a4abffae0043e3c9dc876f081d", func := "loop.example/feedswarm/laws.FnJournalAdd", spec := "fnJournalAdd", apart := false }
def FnJournalAddSaid : Prop := fnJournalAddRow.holds Try.pinned (OpenSpec.ofChange fnJournalAddSpec)

/-- ITS FALSE NEIGHBOUR: 'it returns false'. Refute it at one input. -/
def fnJournalAddWrong : ChangeSpec := { name := "fnJournalAdd", fn := fun _ => fun
  | [d] => { results := [.lit (.bool false)], args := [d] }
  | _ => none }
def FnJournalAddWrongFalsely : Prop := fnJournalAddRow.holds Try.pinned (OpenSpec.ofChange fnJournalAddWrong)

/-- 'laws.FnJournalFull': WHATEVER THE INPUT: true; the input reads as it did. -/
def fnJournalFullSpec : ChangeSpec := { name := "fnJournalFull", fn := fun _ => fun
  | [d] => { results := [.lit (.bool true)], args := [d] }
  | _ => none }
def fnJournalFullRow : OpenClaim := { program := "ytihjjnmhionibaa", sum := "addfaafe614909f626c3484ee184b935a299a8a4abffae0043e3c9dc876f081d", func := "loop.example/feedswarm/laws.FnJournalFull", spec := "fnJournalFull", apart := false }
def FnJournalFullSaid : Prop := fnJournalFullRow.holds Try.pinned (OpenSpec.ofChange fnJournalFullSpec)

/-- ITS FALSE NEIGHBOUR: 'it returns false'. Refute it at one input. -/
def fnJournalFullWrong : ChangeSpec := { name := "fnJournalFull", fn := fun _ => fun
  | [d] => { results := [.lit (.bool false)], args := [d] }
  | _ => none }
def FnJournalFullWrongFalsely : Prop := fnJournalFullRow.holds Try.pinned (OpenSpec.ofChange fnJournalFullWrong)

/-- 'laws.FnJournalSync': WHATEVER THE INPUT: true; the input reads as it did. -/
def fnJournalSyncSpec : ChangeSpec := { name := "fnJournalSync", fn := fun _ => fun
  | [d1, d2] => { results := [.lit (.bool true)], args := [d1, d2] }
  | _ => none }
def fnJournalSyncRow : OpenClaim := { program := "ytihjjnmhionibaa", sum := "addfaafe614909f626c3484ee184b935a299a8a4abffae0043e3c9dc876f081d", func := "loop.example/feedswarm/laws.FnJournalSync", spec := "fnJournalSync", apart := false }
def FnJournalSyncSaid : Prop := fnJournalSyncRow.holds Try.pinned (OpenSpec.ofChange fnJournalSyncSpec)

/-- ITS FALSE NEIGHBOUR: 'it returns false'. Refute it at one input. -/
def fnJournalSyncWrong : ChangeSpec := { name := "fnJournalSync", fn := fun _ => fun
  | [d1, d2] => { results := [.lit (.bool false)], args := [d1, d2] }
  | _ => none }
def FnJournalSyncWrongFalsely : Prop := fnJournalSyncRow.holds Try.pinned (OpenSpec.ofChange fnJournalSyncWrong)

/-- 'laws.FnJournalCrash': WHATEVER THE INPUT: true; the input reads as it did. -/
def fnJournalCrashSpec : ChangeSpec := { name := "fnJournalCrash", fn := fun _ => fun
  | [d] => { results := [.lit (.bool true)], args := [d] }
  | _ => none }
def fnJournalCrashRow : OpenClaim := { program := "ytihjjnmhionibaa", sum := "addfaafe614909f626c3484ee184b935a299a8a4abffae0043e3c9dc876f081d", func := "loop.example/feedswarm/laws.FnJournalCrash", spec := "fnJournalCrash", apart := false }
def FnJournalCrashSaid : Prop := fnJournalCrashRow.holds Try.pinned (OpenSpec.ofChange fnJournalCrashSpec)

/-- ITS FALSE NEIGHBOUR: 'it returns false'. Refute it at one input. -/
def fnJournalCrashWrong : ChangeSpec := { name := "fnJournalCrash", fn := fun _ => fun
  | [d] => { results := [.lit (.bool false)], args := [d] }
  | _ => none }
def FnJournalCrashWrongFalsely : Prop := fnJournalCrashRow.holds Try.pinned (OpenSpec.ofChange fnJournalCrashWrong)

/-- 'laws.FnJournalCrashTwice': WHATEVER THE INPUT: true; the input reads as it did. -/
def fnJournalCrashTwiceSpec : ChangeSpec := { name := "fnJournalCrashTwice", fn := fun _ => fun
  | [d1, d2] => { results := [.lit (.bool true)], args := [d1, d2] }
  | _ => none }
def fnJournalCrashTwiceRow : OpenClaim := { program := "ytihjjnmhionibaa", sum := "addfaafe614909f626c3484ee184b935a299a8a4abffae0043e3c9dc876f081d", func := "loop.example/feedswarm/laws.FnJournalCrashTwice", spec := "fnJournalCrashTwice", apart := false }
def FnJournalCrashTwiceSaid : Prop := fnJournalCrashTwiceRow.holds Try.pinned (OpenSpec.ofChange fnJournalCrashTwiceSpec)

/-- ITS FALSE NEIGHBOUR: 'it returns false'. Refute it at one input. -/
def fnJournalCrashTwiceWrong : ChangeSpec := { name := "fnJournalCrashTwice", fn := fun _ => fun
  | [d1, d2] => { results := [.lit (.bool false)], args := [d1, d2] }
  | _ => none }
def FnJournalCrashTwiceWrongFalsely : Prop := fnJournalCrashTwiceRow.holds Try.pinned (OpenSpec.ofChange fnJournalCrashTwiceWrong)

/-- 'laws.FnJournalLost': WHATEVER THE INPUT: true; the input reads as it did. -/
def fnJournalLostSpec : ChangeSpec := { name := "fnJournalLost", fn := fun _ => fun
  | [d] => { results := [.lit (.bool true)], args := [d] }
  | _ => none }
def fnJournalLostRow : OpenClaim := { program := "ytihjjnmhionibaa", sum := "addfaafe614909f626c3484ee184b935a299a8a4abffae0043e3c9dc876f081d", func := "loop.example/feedswarm/laws.FnJournalLost", spec := "fnJournalLost", apart := false }
def FnJournalLostSaid : Prop := fnJournalLostRow.holds Try.pinned (OpenSpec.ofChange fnJournalLostSpec)

/-- ITS FALSE NEIGHBOUR: 'it returns false'. Refute it at one input. -/
def fnJournalLostWrong : ChangeSpec := { name := "fnJournalLost", fn := fun _ => fun
  | [d] => { results := [.lit (.bool false)], args := [d] }
  | _ => none }
def FnJournalLostWrongFalsely : Prop := fnJournalLostRow.holds Try.pinned (OpenSpec.ofChange fnJournalLostWrong)

/-- 'laws.FnJournalBlocksAdd': WHATEVER THE INPUT: true; the input reads as it did. -/
def fnJournalBlocksAddSpec : ChangeSpec := { name := "fnJournalBlocksAdd", fn := fun _ => fun
  | [d1, d2] => { results := [.lit (.bool true)], args := [d1, d2] }
  | _ => none }
def fnJournalBlocksAddRow : OpenClaim := { program := "ytihjjnmhionibaa", sum := "addfaafe614909f626c3484ee184b935a299a8a4abffae0043e3c9dc876f081d", func := "loop.example/feedswarm/laws.FnJournalBlocksAdd", spec := "fnJournalBlocksAdd", apart := false }
def FnJournalBlocksAddSaid : Prop := fnJournalBlocksAddRow.holds Try.pinned (OpenSpec.ofChange fnJournalBlocksAddSpec)

/-- ITS FALSE NEIGHBOUR: 'it returns false'. Refute it at one input. -/
def fnJournalBlocksAddWrong : ChangeSpec := { name := "fnJournalBlocksAdd", fn := fun _ => fun
  | [d1, d2] => { results := [.lit (.bool false)], args := [d1, d2] }
  | _ => none }
def FnJournalBlocksAddWrongFalsely : Prop := fnJournalBlocksAddRow.holds Try.pinned (OpenSpec.ofChange fnJournalBlocksAddWrong)

/-- 'laws.FnJournalBlocksKept': WHATEVER THE INPUT: true; the input reads as it did. -/
def fnJournalBlocksKeptSpec : ChangeSpec := { name := "fnJournalBlocksKept", fn := fun _ => fun
  | [d1, d2] => { results := [.lit (.bool true)], args := [d1, d2] }
  | _ => none }
def fnJournalBlocksKeptRow : OpenClaim := { program := "ytihjjnmhionibaa", sum := "addfaafe614909f626c3484ee184b935a299a8a4abffae0043e3c9dc876f081d", func := "loop.example/feedswarm/laws.FnJournalBlocksKept", spec := "fnJournalBlocksKept", apart := false }
def FnJournalBlocksKeptSaid : Prop := fnJournalBlocksKeptRow.holds Try.pinned (OpenSpec.ofChange fnJournalBlocksKeptSpec)

/-- ITS FALSE NEIGHBOUR: 'it returns false'. Refute it at one input. -/
def fnJournalBlocksKeptWrong : ChangeSpec := { name := "fnJournalBlocksKept", fn := fun _ => fun
  | [d1, d2] => { results := [.lit (.bool false)], args := [d1, d2] }
  | _ => none }
def FnJournalBlocksKeptWrongFalsely : Prop := fnJournalBlocksKeptRow.holds Try.pinned (OpenSpec.ofChange fnJournalBlocksKeptWrong)

/-- 'laws.FnExactJournalCrash': WHATEVER THE INPUT: true; the input reads as it did. -/
def fnExactJournalCrashSpec : ChangeSpec := { name := "fnExactJournalCrash", fn := fun _ => fun
  | [d1, d2] => { results := [.lit (.bool true)], args := [d1, d2] }
  | _ => none }
def fnExactJournalCrashRow : OpenClaim := { program := "ytihjjnmhionibaa", sum := "addfaafe614909f626c3484ee184b935a299a8a4abffae0043e3c9dc876f081d", func := "loop.example/feedswarm/laws.FnExactJournalCrash", spec := "fnExactJournalCrash", apart := false }
def FnExactJournalCrashSaid : Prop := fnExactJournalCrashRow.holds Try.pinned (OpenSpec.ofChange fnExactJournalCrashSpec)

/-- ITS FALSE NEIGHBOUR: 'it returns false'. Refute it at one input. -/
def fnExactJournalCrashWrong : ChangeSpec := { name := "fnExactJournalCrash", fn := fun _ => fun
  | [d1, d2] => { results := [.lit (.bool false)], args := [d1, d2] }
  | _ => none }
def FnExactJournalCrashWrongFalsely : Prop := fnExactJournalCrashRow.holds Try.pinned (OpenSpec.ofChange fnExactJournalCrashWrong)

/-- 'laws.FnJournalBlocks': WHATEVER THE INPUT: true; the input reads as it did. -/
def fnJournalBlocksSpec : ChangeSpec := { name := "fnJournalBlocks", fn := fun _ => fun
  | [d] => { results := [.lit (.bool true)], args := [d] }
  | _ => none }
def fnJournalBlocksRow : OpenClaim := { program := "ytihjjnmhionibaa", sum := "addfaafe614909f626c3484ee184b935a299a8a4abffae0043e3c9dc876f081d", func := "loop.example/feedswarm/laws.FnJournalBlocks", spec := "fnJournalBlocks", apart := false }
def FnJournalBlocksSaid : Prop := fnJournalBlocksRow.holds Try.pinned (OpenSpec.ofChange fnJournalBlocksSpec)

/-- ITS FALSE NEIGHBOUR: 'it returns false'. Refute it at one input. -/
def fnJournalBlocksWrong : ChangeSpec := { name := "fnJournalBlocks", fn := fun _ => fun
  | [d] => { results := [.lit (.bool false)], args := [d] }
  | _ => none }
def FnJournalBlocksWrongFalsely : Prop := fnJournalBlocksRow.holds Try.pinned (OpenSpec.ofChange fnJournalBlocksWrong)

/-- 'laws.FnJournalPart': WHATEVER THE INPUT: true; the input reads as it did. -/
def fnJournalPartSpec : ChangeSpec := { name := "fnJournalPart", fn := fun _ => fun
  | [d1, d2] => { results := [.lit (.bool true)], args := [d1, d2] }
  | _ => none }
def fnJournalPartRow : OpenClaim := { program := "ytihjjnmhionibaa", sum := "addfaafe614909f626c3484ee184b935a299a8a4abffae0043e3c9dc876f081d", func := "loop.example/feedswarm/laws.FnJournalPart", spec := "fnJournalPart", apart := false }
def FnJournalPartSaid : Prop := fnJournalPartRow.holds Try.pinned (OpenSpec.ofChange fnJournalPartSpec)

/-- ITS FALSE NEIGHBOUR: 'it returns false'. Refute it at one input. -/
def fnJournalPartWrong : ChangeSpec := { name := "fnJournalPart", fn := fun _ => fun
  | [d1, d2] => { results := [.lit (.bool false)], args := [d1, d2] }
  | _ => none }
def FnJournalPartWrongFalsely : Prop := fnJournalPartRow.holds Try.pinned (OpenSpec.ofChange fnJournalPartWrong)

/-- 'laws.FnExactJournalSync': WHATEVER THE INPUT: true; the input reads as it did. -/
def fnExactJournalSyncSpec : ChangeSpec := { name := "fnExactJournalSync", fn := fun _ => fun
  | [d] => { results := [.lit (.bool true)], args := [d] }
  | _ => none }
def fnExactJournalSyncRow : OpenClaim := { program := "ytihjjnmhionibaa", sum := "addfaafe614909f626c3484ee184b935a299a8a4abffae0043e3c9dc876f081d", func := "loop.example/feedswarm/laws.FnExactJournalSync", spec := "fnExactJournalSync", apart := false }
def FnExactJournalSyncSaid : Prop := fnExactJournalSyncRow.holds Try.pinned (OpenSpec.ofChange fnExactJournalSyncSpec)

/-- ITS FALSE NEIGHBOUR: 'it returns false'. Refute it at one input. -/
def fnExactJournalSyncWrong : ChangeSpec := { name := "fnExactJournalSync", fn := fun _ => fun
  | [d] => { results := [.lit (.bool false)], args := [d] }
  | _ => none }
def FnExactJournalSyncWrongFalsely : Prop := fnExactJournalSyncRow.holds Try.pinned (OpenSpec.ofChange fnExactJournalSyncWrong)

/-- 'laws.FnExactJournalAdd': WHATEVER THE INPUT: true; the input reads as it did. -/
def fnExactJournalAddSpec : ChangeSpec := { name := "fnExactJournalAdd", fn := fun _ => fun
  | [d1, d2] => { results := [.lit (.bool true)], args := [d1, d2] }
  | _ => none }
def fnExactJournalAddRow : OpenClaim := { program := "ytihjjnmhionibaa", sum := "addfaafe614909f626c3484ee184b935a299a8a4abffae0043e3c9dc876f081d", func := "loop.example/feedswarm/laws.FnExactJournalAdd", spec := "fnExactJournalAdd", apart := false }
def FnExactJournalAddSaid : Prop := fnExactJournalAddRow.holds Try.pinned (OpenSpec.ofChange fnExactJournalAddSpec)

/-- ITS FALSE NEIGHBOUR: 'it returns false'. Refute it at one input. -/
def fnExactJournalAddWrong : ChangeSpec := { name := "fnExactJournalAdd", fn := fun _ => fun
  | [d1, d2] => { results := [.lit (.bool false)], args := [d1, d2] }
  | _ => none }
def FnExactJournalAddWrongFalsely : Prop := fnExactJournalAddRow.holds Try.pinned (OpenSpec.ofChange fnExactJournalAddWrong)

/-- 'laws.FnExactJournalBlocks': WHATEVER THE INPUT: true; the input reads as it did. -/
def fnExactJournalBlocksSpec : ChangeSpec := { name := "fnExactJournalBlocks", fn := fun _ => fun
  | [d1, d2] => { results := [.lit (.bool true)], args := [d1, d2] }
  | _ => none }
def fnExactJournalBlocksRow : OpenClaim := { program := "ytihjjnmhionibaa", sum := "addfaafe614909f626c3484ee184b935a299a8a4abffae0043e3c9dc876f081d", func := "loop.example/feedswarm/laws.FnExactJournalBlocks", spec := "fnExactJournalBlocks", apart := false }
def FnExactJournalBlocksSaid : Prop := fnExactJournalBlocksRow.holds Try.pinned (OpenSpec.ofChange fnExactJournalBlocksSpec)

/-- ITS FALSE NEIGHBOUR: 'it returns false'. Refute it at one input. -/
def fnExactJournalBlocksWrong : ChangeSpec := { name := "fnExactJournalBlocks", fn := fun _ => fun
  | [d1, d2] => { results := [.lit (.bool false)], args := [d1, d2] }
  | _ => none }
def FnExactJournalBlocksWrongFalsely : Prop := fnExactJournalBlocksRow.holds Try.pinned (OpenSpec.ofChange fnExactJournalBlocksWrong)

/- THE SECOND FORM. 'bulk': how many values and letters a reading holds, each counted each time it is reached (what is shared counts as often as it is met; a slice's spare places count too). A statement '..UptoSaid' is the law's where the arguments, and the package variables that the reading takes, are together of bulk at most 1048576: NARROWER than '..Said'. Prove '..Said' where nothing that the law and all that it calls make is longer than what came in: it says more and counts as full. Else prove '..UptoSaid'. A law counts once. -/
mutual
def uptoBulk {H : Type} : DataW H → Nat
  | .lit (.string bytes) => bytes.length + 1
  | .lit _ => 1
  | .nil => 1
  | .ptr d => uptoBulk d + 1
  | .slice elems spare => uptoBulkAll elems + uptoBulkAll spare + 1
  | .agg parts => uptoBulkAll parts + 1
  | .iface _ d => uptoBulk d + 1
  | .map entries => uptoBulkEntries entries + 1
  | .held _ => 1
def uptoBulkAll {H : Type} : List (DataW H) → Nat
  | [] => 0
  | d :: r => uptoBulk d + uptoBulkAll r
def uptoBulkEntries {H : Type} : List (Lit × DataW H) → Nat
  | [] => 0
  | x :: r => uptoBulkEntry x + uptoBulkEntries r
def uptoBulkEntry {H : Type} : Lit × DataW H → Nat
  | (.string bytes, d) => bytes.length + uptoBulk d + 1
  | (_, d) => uptoBulk d + 1
 end
def uptoSmall : (H : Type) → List (DataW H) → Bool := fun _ ds => decide (uptoBulkAll ds ≤ 1048576)
def OpenSpec.upto (s : _root_.Go.ChangeSpec) : _root_.Go.OpenSpec := { _root_.Go.OpenSpec.ofChange s with cond := some uptoSmall }

/-- 'laws.FnExactJournalValid', WHERE WHAT IT READS IS OF BULK AT MOST 1048576: true; the input reads as it did. -/
def fnExactJournalValidUptoRow : OpenClaim := { program := "ytihjjnmhionibaa", sum := "addfaafe614909f626c3484ee184b935a299a8a4abffae0043e3c9dc876f081d", func := "loop.example/feedswarm/laws.FnExactJournalValid", spec := "fnExactJournalValid", apart := false, narrowed := true }
def FnExactJournalValidUptoSaid : Prop := fnExactJournalValidUptoRow.holds Try.pinned (OpenSpec.upto fnExactJournalValidSpec)

/-- 'laws.FnJournalAdd', WHERE WHAT IT READS IS OF BULK AT MOST 1048576: true; the input reads as it did. -/
def fnJournalAddUptoRow : OpenClaim := { program := "ytihjjnmhionibaa", sum := "addfaafe614909f626c3484ee184b935a299a8a4abffae0043e3c9dc876f081d", func := "loop.example/feedswarm/laws.FnJournalAdd", spec := "fnJournalAdd", apart := false, narrowed := true }
def FnJournalAddUptoSaid : Prop := fnJournalAddUptoRow.holds Try.pinned (OpenSpec.upto fnJournalAddSpec)

/-- 'laws.FnJournalFull', WHERE WHAT IT READS IS OF BULK AT MOST 1048576: true; the input reads as it did. -/
def fnJournalFullUptoRow : OpenClaim := { program := "ytihjjnmhionibaa", sum := "addfaafe614909f626c3484ee184b935a299a8a4abffae0043e3c9dc876f081d", func := "loop.example/feedswarm/laws.FnJournalFull", spec := "fnJournalFull", apart := false, narrowed := true }
def FnJournalFullUptoSaid : Prop := fnJournalFullUptoRow.holds Try.pinned (OpenSpec.upto fnJournalFullSpec)

/-- 'laws.FnJournalSync', WHERE WHAT IT READS IS OF BULK AT MOST 1048576: true; the input reads as it did. -/
def fnJournalSyncUptoRow : OpenClaim := { program := "ytihjjnmhionibaa", sum := "addfaafe614909f626c3484ee184b935a299a8a4abffae0043e3c9dc876f081d", func := "loop.example/feedswarm/laws.FnJournalSync", spec := "fnJournalSync", apart := false, narrowed := true }
def FnJournalSyncUptoSaid : Prop := fnJournalSyncUptoRow.holds Try.pinned (OpenSpec.upto fnJournalSyncSpec)

/-- 'laws.FnJournalCrash', WHERE WHAT IT READS IS OF BULK AT MOST 1048576: true; the input reads as it did. -/
def fnJournalCrashUptoRow : OpenClaim := { program := "ytihjjnmhionibaa", sum := "addfaafe614909f626c3484ee184b935a299a8a4abffae0043e3c9dc876f081d", func := "loop.example/feedswarm/laws.FnJournalCrash", spec := "fnJournalCrash", apart := false, narrowed := true }
def FnJournalCrashUptoSaid : Prop := fnJournalCrashUptoRow.holds Try.pinned (OpenSpec.upto fnJournalCrashSpec)

/-- 'laws.FnJournalCrashTwice', WHERE WHAT IT READS IS OF BULK AT MOST 1048576: true; the input reads as it did. -/
def fnJournalCrashTwiceUptoRow : OpenClaim := { program := "ytihjjnmhionibaa", sum := "addfaafe614909f626c3484ee184b935a299a8a4abffae0043e3c9dc876f081d", func := "loop.example/feedswarm/laws.FnJournalCrashTwice", spec := "fnJournalCrashTwice", apart := false, narrowed := true }
def FnJournalCrashTwiceUptoSaid : Prop := fnJournalCrashTwiceUptoRow.holds Try.pinned (OpenSpec.upto fnJournalCrashTwiceSpec)

/-- 'laws.FnJournalLost', WHERE WHAT IT READS IS OF BULK AT MOST 1048576: true; the input reads as it did. -/
def fnJournalLostUptoRow : OpenClaim := { program := "ytihjjnmhionibaa", sum := "addfaafe614909f626c3484ee184b935a299a8a4abffae0043e3c9dc876f081d", func := "loop.example/feedswarm/laws.FnJournalLost", spec := "fnJournalLost", apart := false, narrowed := true }
def FnJournalLostUptoSaid : Prop := fnJournalLostUptoRow.holds Try.pinned (OpenSpec.upto fnJournalLostSpec)

/-- 'laws.FnJournalBlocksAdd', WHERE WHAT IT READS IS OF BULK AT MOST 1048576: true; the input reads as it did. -/
def fnJournalBlocksAddUptoRow : OpenClaim := { program := "ytihjjnmhionibaa", sum := "addfaafe614909f626c3484ee184b935a299a8a4abffae0043e3c9dc876f081d", func := "loop.example/feedswarm/laws.FnJournalBlocksAdd", spec := "fnJournalBlocksAdd", apart := false, narrowed := true }
def FnJournalBlocksAddUptoSaid : Prop := fnJournalBlocksAddUptoRow.holds Try.pinned (OpenSpec.upto fnJournalBlocksAddSpec)

/-- 'laws.FnJournalBlocksKept', WHERE WHAT IT READS IS OF BULK AT MOST 1048576: true; the input reads as it did. -/
def fnJournalBlocksKeptUptoRow : OpenClaim := { program := "ytihjjnmhionibaa", sum := "addfaafe614909f626c3484ee184b935a299a8a4abffae0043e3c9dc876f081d", func := "loop.example/feedswarm/laws.FnJournalBlocksKept", spec := "fnJournalBlocksKept", apart := false, narrowed := true }
def FnJournalBlocksKeptUptoSaid : Prop := fnJournalBlocksKeptUptoRow.holds Try.pinned (OpenSpec.upto fnJournalBlocksKeptSpec)

/-- 'laws.FnExactJournalCrash', WHERE WHAT IT READS IS OF BULK AT MOST 1048576: true; the input reads as it did. -/
def fnExactJournalCrashUptoRow : OpenClaim := { program := "ytihjjnmhionibaa", sum := "addfaafe614909f626c3484ee184b935a299a8a4abffae0043e3c9dc876f081d", func := "loop.example/feedswarm/laws.FnExactJournalCrash", spec := "fnExactJournalCrash", apart := false, narrowed := true }
def FnExactJournalCrashUptoSaid : Prop := fnExactJournalCrashUptoRow.holds Try.pinned (OpenSpec.upto fnExactJournalCrashSpec)

/-- 'laws.FnJournalBlocks', WHERE WHAT IT READS IS OF BULK AT MOST 1048576: true; the input reads as it did. -/
def fnJournalBlocksUptoRow : OpenClaim := { program := "ytihjjnmhionibaa", sum := "addfaafe614909f626c3484ee184b935a299a8a4abffae0043e3c9dc876f081d", func := "loop.example/feedswarm/laws.FnJournalBlocks", spec := "fnJournalBlocks", apart := false, narrowed := true }
def FnJournalBlocksUptoSaid : Prop := fnJournalBlocksUptoRow.holds Try.pinned (OpenSpec.upto fnJournalBlocksSpec)

/-- 'laws.FnJournalPart', WHERE WHAT IT READS IS OF BULK AT MOST 1048576: true; the input reads as it did. -/
def fnJournalPartUptoRow : OpenClaim := { program := "ytihjjnmhionibaa", sum := "addfaafe614909f626c3484ee184b935a299a8a4abffae0043e3c9dc876f081d", func := "loop.example/feedswarm/laws.FnJournalPart", spec := "fnJournalPart", apart := false, narrowed := true }
def FnJournalPartUptoSaid : Prop := fnJournalPartUptoRow.holds Try.pinned (OpenSpec.upto fnJournalPartSpec)

/-- 'laws.FnExactJournalSync', WHERE WHAT IT READS IS OF BULK AT MOST 1048576: true; the input reads as it did. -/
def fnExactJournalSyncUptoRow : OpenClaim := { program := "ytihjjnmhionibaa", sum := "addfaafe614909f626c3484ee184b935a299a8a4abffae0043e3c9dc876f081d", func := "loop.example/feedswarm/laws.FnExactJournalSync", spec := "fnExactJournalSync", apart := false, narrowed := true }
def FnExactJournalSyncUptoSaid : Prop := fnExactJournalSyncUptoRow.holds Try.pinned (OpenSpec.upto fnExactJournalSyncSpec)

/-- 'laws.FnExactJournalAdd', WHERE WHAT IT READS IS OF BULK AT MOST 1048576: true; the input reads as it did. -/
def fnExactJournalAddUptoRow : OpenClaim := { program := "ytihjjnmhionibaa", sum := "addfaafe614909f626c3484ee184b935a299a8a4abffae0043e3c9dc876f081d", func := "loop.example/feedswarm/laws.FnExactJournalAdd", spec := "fnExactJournalAdd", apart := false, narrowed := true }
def FnExactJournalAddUptoSaid : Prop := fnExactJournalAddUptoRow.holds Try.pinned (OpenSpec.upto fnExactJournalAddSpec)

/-- 'laws.FnExactJournalBlocks', WHERE WHAT IT READS IS OF BULK AT MOST 1048576: true; the input reads as it did. -/
def fnExactJournalBlocksUptoRow : OpenClaim := { program := "ytihjjnmhionibaa", sum := "addfaafe614909f626c3484ee184b935a299a8a4abffae0043e3c9dc876f081d", func := "loop.example/feedswarm/laws.FnExactJournalBlocks", spec := "fnExactJournalBlocks", apart := false, narrowed := true }
def FnExactJournalBlocksUptoSaid : Prop := fnExactJournalBlocksUptoRow.holds Try.pinned (OpenSpec.upto fnExactJournalBlocksSpec)

end Rows
end Go.Proofs.Ytihjjnmhionibaa
