/- A world that fits the lists of the row on reading shapes. -/
import Derived.Test.YtfnihmmkbnkmnaaDoorRdSh2
import Derived.Test.YtfnihmmkbnkmnaaDoorCards
import Derived.Test.YtfnihmmkbnkmnaaDoorTie
import Derived.OpenShut
import Derived.Deep.DeepHandedRow
import Derived.Stop.LaidErr
namespace Go.Proofs.YtfnihmmkbnkmnaaDoor
open Go.RowKit Go.Deep Go.ChangeShapes Go.WideShapes Go.ChangeAt

/-- the cells that a table's datum lays, a table of pairs too -/
def dataCellsN : DataW Unit → Array Value
  | .agg l => (l.flatMap fun x => match x with | .lit (.int k z) => [Value.int k z] | .agg m => m.map (fun y => match y with | .lit (.int k z) => Value.int k z | _ => .int .i64 0) | _ => [.int .i64 0]).toArray
  | _ => #[]
def laidInS (cs : Array Value) : Obj → Obj
  | .cells _ t frozen => .cells cs t frozen
  | o => o
/-- A world for the witness: the settled one, the tables holding what their initialisers lay. -/
noncomputable def laidWorldS (os : Os) : World :=
  { World.holding Tryd.prog os ⟨#[], #[], []⟩ with heap := ((World.holding Tryd.prog os ⟨#[], #[], []⟩).heap.modify 2 (laidInS (dataCellsN Rows.laid_unicode_utf8_acceptRanges))).modify 1 (laidInS (dataCellsN Rows.laid_unicode_utf8_first)) }
end Go.Proofs.YtfnihmmkbnkmnaaDoor
