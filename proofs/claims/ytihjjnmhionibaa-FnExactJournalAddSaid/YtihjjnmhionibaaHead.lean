/- The head's words of the program, read once and cheaply: what the rows ask of them. -/
import Derived.Test.YtihjjnmhionibaaRows
import Derived.Test.YtihjjnmhionibaaOpen
namespace Go.Proofs.Ytihjjnmhionibaa
open Go.ChangeShapes Go.WideShapes Go.ChangeAt Go.RowKit

theorem ws_word : ∀ (a r : List Char), (∀ c ∈ a, c ≠ Char.ofNat 32) → wordsSigns (a ++ Char.ofNat 32 :: r) = a :: wordsSigns r
  | [], r, _ => rfl
  | c :: a, r, h => by
    have hc : c ≠ Char.ofNat 32 := h c (by simp)
    have ih := ws_word a r (fun x hx => h x (by simp [hx]))
    rw [List.cons_append, wordsSigns.eq_def]
    split
    · rename_i h; cases h
    · rename_i h; injection h with h; exact (hc h).elim
    · rename_i h; injection h with h3 h4; subst h3; subst h4; rw [ih]
def cutW : List Char := [Char.ofNat 99, Char.ofNat 117, Char.ofNat 116]
def harW : List Char := [Char.ofNat 104, Char.ofNat 97, Char.ofNat 114, Char.ofNat 110, Char.ofNat 101, Char.ofNat 115, Char.ofNat 115]
theorem tl_cut : "cut".toList = cutW := String.toList_ofList (l := cutW)
theorem tl_har : "harness".toList = harW := String.toList_ofList (l := harW)
theorem sum_plain {s : List Char} (h : isSumSigns s = true) : ∀ c ∈ s, c ≠ Char.ofNat 32 := by
  intro c hc e
  unfold isSumSigns at h
  rw [Bool.and_eq_true] at h
  have := List.all_eq_true.1 h.2 c hc
  subst e
  revert this
  decide
theorem words_of {t : String} {s r : List Char} (h : t = String.ofList (harW ++ Char.ofNat 32 :: (s ++ Char.ofNat 32 :: (cutW ++ Char.ofNat 32 :: r)))) (hs : isSumSigns s = true) :
    behindMainWord (wordsSigns t.toList) = "cut".toList :: wordsSigns r := by
  rw [h, String.toList_ofList, ws_word harW _ (by decide), ws_word s _ (sum_plain hs), ws_word cutW _ (by decide), tl_cut]
  unfold behindMainWord
  rw [tl_har]
  show (if ((harW == harW || harW == "ownmain".toList) && isSumSigns s) = true then cutW :: wordsSigns r else harW :: s :: cutW :: wordsSigns r) = cutW :: wordsSigns r
  rw [hs]
  simp
theorem strip_cut (ws : List (List Char)) : stripLifts liftWords ("cut".toList :: ws) = ([], "cut".toList :: ws) := by kernel_rfl
theorem make_of {P : Program} {ws : List (List Char)} (h : behindMainWord (wordsSigns P.initOrder.toList) = "cut".toList :: ws) : P.make = some .cut := by
  unfold Program.make
  rw [h]
  kernel_rfl
theorem lifts_of {P : Program} {ws : List (List Char)} (h : behindMainWord (wordsSigns P.initOrder.toList) = "cut".toList :: ws) : P.liftsFinal = false := by
  unfold Program.liftsFinal Program.headLifts
  rw [h, strip_cut]
  kernel_rfl
theorem may_of {P : Program} {ws : List (List Char)} (h : behindMainWord (wordsSigns P.initOrder.toList) = "cut".toList :: ws) (h1 : P.laysLater = false) (h2 : P.bearsReflect = false) (h3 : P.doorFits [] = true) : P.mayEnter = true := by
  unfold Program.mayEnter
  rw [h]
  simp only [strip_cut, h1, h2, h3]
  rw [tl_cut]
  simp [cutW]

set_option maxRecDepth 1000000 in
def headL : { L : List Char // Try.pinned.checked.prog.initOrder = String.ofList L } := by
  apply Subtype.mk
  · conv => lhs; whnf
theorem head_is : Try.pinned.checked.prog.initOrder = String.ofList (harW ++ Char.ofNat 32 :: ((headL.1.drop 8).take 64 ++ Char.ofNat 32 :: (cutW ++ Char.ofNat 32 :: headL.1.drop 77))) :=
  headL.2.trans (congrArg String.ofList (by kernel_rfl))
theorem head_words : behindMainWord (wordsSigns Try.pinned.checked.prog.initOrder.toList) = "cut".toList :: wordsSigns (headL.1.drop 77) := words_of head_is (by kernel_rfl)
theorem head_make : Try.pinned.checked.prog.make = some .cut := make_of head_words
theorem head_lifts : Try.pinned.checked.prog.liftsFinal = false := lifts_of head_words
theorem head_may : Try.pinned.checked.prog.mayEnter = true := may_of head_words (by kernel_rfl) (by kernel_rfl) (by kernel_rfl)

end Go.Proofs.Ytihjjnmhionibaa
