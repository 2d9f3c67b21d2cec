/- Regions that draw their order, whose operations only read and whose callees may make memory: one walk, in the text's order (the kit's wp_region_quiet at the class "worlds behind w"). -/
import Derived.Test.YtihjjnmhionibaaBase
namespace Go.Proofs.Ytihjjnmhionibaa
open Go.RowKit

/-- A world behind w: what was there stands. -/
structure After (w : World) where
  w' : World
  h : Below w.heap.size w w'
theorem After.some (w : World) : Nonempty (After w) := ⟨⟨w, Below.refl _ _⟩⟩
theorem after_cell {w : World} {a : Addr} {v : Value} (h : w.cell? a = some v) (p : After w) : p.w'.cell? a = some v := cell_later p.h h
theorem After.step {w : World} (p : After w) {w2 : World} (h : Below p.w'.heap.size p.w' w2) : ∃ q : After w, w2 = q.w' := ⟨⟨w2, below_step p.h h⟩, rfl⟩
theorem After.same {w : World} (p : After w) {w2 : World} (h : p.w' = w2) : ∃ q : After w, w2 = q.w' := ⟨p, h.symm⟩
theorem Calls.after_of {P : Program} {f : FuncId} {args : Array Value} {w : World} {p : After w} {v : Value}
    (h : Calls P f args p.w' fun e w' => e = .returned v ∧ Below p.w'.heap.size p.w' w') : Calls P f args p.w' fun e w'' => e = .returned v ∧ ∃ q : After w, w'' = q.w' :=
  h.mono fun _ _ ⟨he, hb⟩ => ⟨he, p.step hb⟩
theorem Calls.after_of_same {P : Program} {f : FuncId} {args : Array Value} {w : World} {p : After w} {v : Value}
    (h : Calls P f args p.w' fun e w' => e = .returned v ∧ p.w' = w') : Calls P f args p.w' fun e w'' => e = .returned v ∧ ∃ q : After w, w'' = q.w' :=
  h.mono fun _ _ ⟨he, hb⟩ => ⟨he, p.same hb⟩
theorem wp_region_after {P : Program} {id : Nat} {Q : Exit → Act → World → Prop} {a : Act} {w : World} {l : List Oper} (hm : P.follows .mixedOrders = true) (hB : Region.lexB .any l.toArray = true)
    (h : wpQuiet P l.toArray (fun w' => ∃ p : After w, w' = p.w') (fun a' => ∀ w', (∃ p : After w, w' = p.w') → Q .normal a' w') l a) : (Code.region id l.toArray true).wp P Q a w :=
  wp_region_quiet (C := fun w' => ∃ p : After w, w' = p.w') hm hB ⟨⟨w.drew, (Below.refl _ _).drew⟩, rfl⟩ (by simpa using h)

end Go.Proofs.Ytihjjnmhionibaa
