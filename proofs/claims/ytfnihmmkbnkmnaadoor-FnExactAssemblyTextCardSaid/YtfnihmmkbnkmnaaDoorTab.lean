/- What the rows' lists of package-level tables give, and a world that fits them. -/
import Derived.Test.YtfnihmmkbnkmnaaDoorDec
import Derived.Test.YtfnihmmkbnkmnaaDoorCards
import Derived.Test.YtfnihmmkbnkmnaaDoorTie
import Derived.OpenShut
import Derived.Deep.DeepHandedRow
import Derived.Stop.LaidErr
namespace Go.Proofs.YtfnihmmkbnkmnaaDoor
open Go.RowKit Go.Deep Go.ChangeShapes Go.WideShapes Go.ChangeAt

theorem gPow : Tryd.prog.globalNamed "internal/strconv.uint64pow10" = some 3 := by kernel_rfl
theorem gPowType : (Tryd.prog.globals[3]?).map (·.type) = some 171 := by kernel_rfl
theorem cellsPow : Tryd.prog.cellsOf 171 = 20 := by kernel_rfl
theorem cellsU64 : Tryd.prog.cellsOf 158 = 1 := by kernel_rfl
theorem powData : (Rows.laid_internal_strconv_uint64pow10 : DataW Unit) = Lib.tabData .u64 Lib.pow10Tab := by kernel_rfl
theorem tabw_of {W : World} (h1 : laidMet Tryd.prog [("math/bits.deBruijn32tab", Rows.laid_math_bits_deBruijn32tab), ("math/bits.deBruijn64tab", Rows.laid_math_bits_deBruijn64tab), ("internal/strconv.uint64pow10", Rows.laid_internal_strconv_uint64pow10)] W) : TabW W := by
  have h2 := laidMet.tail (laidMet.tail h1)
  rw [powData] at h2
  exact Lib.tabIs_of_head (rest := []) gPow gPowType Tryd.underlying171 Tryd.underlying158 cellsU64 cellsPow h2

/-- the cells that a table's datum lays -/
def dataCells : DataW Unit → Array Value
  | .agg l => (l.map fun x => match x with | .lit (.int k z) => Value.int k z | _ => .int .i64 0).toArray
  | _ => #[]
def laidIn (cs : Array Value) : Obj → Obj
  | .cells _ t frozen => .cells cs t frozen
  | o => o
/-- A world for the witness: the settled one, the tables holding what their initialisers lay. -/
noncomputable def laidWorld (os : Os) : World :=
  { World.holding Tryd.prog os ⟨#[], #[], []⟩ with heap := (((World.holding Tryd.prog os ⟨#[], #[], []⟩).heap.modify 4 (laidIn (dataCells Rows.laid_math_bits_deBruijn32tab))).modify 5 (laidIn (dataCells Rows.laid_math_bits_deBruijn64tab))).modify 3 (laidIn (dataCells Rows.laid_internal_strconv_uint64pow10)) }
end Go.Proofs.YtfnihmmkbnkmnaaDoor
