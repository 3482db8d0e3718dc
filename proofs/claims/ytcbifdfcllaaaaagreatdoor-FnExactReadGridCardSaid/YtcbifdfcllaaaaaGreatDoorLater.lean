/- A region that draws its order, whose operations only read and whose callees may make memory but turn nothing that was there: one walk in the order of the text. -/
import Derived.Test.YtcbifdfcllaaaaaGreatDoorMem
import Derived.BigQuiet
namespace Go.Proofs.YtcbifdfcllaaaaaGreatDoor
open Go.RowKit Go.Deep
set_option linter.unusedVariables false

/-- A world that has come of W with nothing old turned. -/
structure Later (W : World) where
  w : World
  new : New W w

instance (W : World) : Inhabited (Later W) := ⟨⟨W, New.same W⟩⟩

theorem Later.cell {W : World} {a : Addr} {v : Value} (h : W.cell? a = some v) (hb : a.block < W.heap.size) : ∀ t : Later W, t.w.cell? a = some v := fun t => (t.new.cell hb).trans h

theorem wp_region_later {P : Program} {id : Nat} {Q : Exit → Act → World → Prop} {a : Act} {W : World} {l : List Oper} (hm : P.follows .mixedOrders = true) (hB : Region.lexB .any l.toArray = true)
    (h : wpQuiet P l.toArray (fun w' => ∃ t : Later W, w' = t.w) (fun a' => ∀ w', (∃ t : Later W, w' = t.w) → Q .normal a' w') l a) : (Code.region id l.toArray true).wp P Q a W :=
  wp_region_quiet (C := fun w' => ∃ t : Later W, w' = t.w) hm hB ⟨⟨W.drew, (New.same W).drew_⟩, rfl⟩ (by simpa using h)

/-- A callee's contract, met in a later world. -/
theorem later_of {P : Program} {f : FuncId} {args : Array Value} {W : World} {t : Later W} {v : Value} (h : Calls P f args t.w fun e w' => e = .returned v ∧ New t.w w') :
    Calls P f args t.w fun e w'' => e = .returned v ∧ ∃ t' : Later W, w'' = t'.w :=
  h.mono fun _ w' ⟨he, hn⟩ => ⟨he, ⟨w', t.new.step hn⟩, rfl⟩
/-- .. of one that leaves the world alone. -/
theorem later_same {P : Program} {f : FuncId} {args : Array Value} {W : World} {t : Later W} {v : Value} (h : Calls P f args t.w fun e w' => e = .returned v ∧ t.w = w') :
    Calls P f args t.w fun e w'' => e = .returned v ∧ ∃ t' : Later W, w'' = t'.w :=
  h.mono fun _ w' ⟨he, hn⟩ => ⟨he, t, hn.symm⟩

end Go.Proofs.YtcbifdfcllaaaaaGreatDoor
