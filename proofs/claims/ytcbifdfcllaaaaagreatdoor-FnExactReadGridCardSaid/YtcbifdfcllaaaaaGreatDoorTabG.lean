/- What the rows' lists of package-level tables give, and a world that fits them. -/
import Derived.Test.YtcbifdfcllaaaaaGreatDoorDec
import Derived.Test.YtcbifdfcllaaaaaGreatDoorCards
import Derived.Test.YtcbifdfcllaaaaaGreatDoorTie
import Derived.OpenShut
import Derived.Deep.DeepHandedRow
import Derived.Stop.LaidErr
import Derived.Test.YtcbifdfcllaaaaaGreatDoorReadI
import Derived.Deep.DeepWitnessRowRef
namespace Go.Proofs.YtcbifdfcllaaaaaGreatDoor
open Go.RowKit Go.Deep Go.ChangeShapes Go.WideShapes Go.ChangeAt

theorem gPow : Tryz.prog.globalNamed "internal/strconv.uint64pow10" = some 3 := by kernel_rfl
theorem gPowType : (Tryz.prog.globals[3]?).map (·.type) = some 175 := by kernel_rfl
theorem cellsPow : Tryz.prog.cellsOf 175 = 20 := by kernel_rfl
theorem cellsU64 : Tryz.prog.cellsOf 143 = 1 := by kernel_rfl
theorem powData : (Rows.laid_internal_strconv_uint64pow10 : DataW Unit) = Lib.tabData .u64 Lib.pow10Tab := by kernel_rfl
theorem tabw_of {W : World} (h1 : laidMet Tryz.prog [("math/bits.deBruijn32tab", Rows.laid_math_bits_deBruijn32tab), ("math/bits.deBruijn64tab", Rows.laid_math_bits_deBruijn64tab), ("internal/strconv.uint64pow10", Rows.laid_internal_strconv_uint64pow10)] W) : TabW W := by
  have h2 := laidMet.tail (laidMet.tail h1)
  rw [powData] at h2
  exact Lib.tabIs_of_head (rest := []) gPow gPowType Tryz.underlying175 Tryz.underlying143 cellsU64 cellsPow h2

/-- the cells that a table's datum lays -/
def dataCells : DataW Unit → Array Value
  | .agg l => (l.map fun x => match x with | .lit (.int k z) => Value.int k z | _ => .int .i64 0).toArray
  | _ => #[]
def laidIn (cs : Array Value) : Obj → Obj
  | .cells _ t frozen => .cells cs t frozen
  | o => o
/-- A world for the witness: the settled one, the tables holding what their initialisers lay. -/
noncomputable def laidWorld (os : Os) : World :=
  { World.holding Tryz.prog os ⟨#[], #[], []⟩ with heap := (((World.holding Tryz.prog os ⟨#[], #[], []⟩).heap.modify 4 (laidIn (dataCells Rows.laid_math_bits_deBruijn32tab))).modify 5 (laidIn (dataCells Rows.laid_math_bits_deBruijn64tab))).modify 3 (laidIn (dataCells Rows.laid_internal_strconv_uint64pow10)) }
end Go.Proofs.YtcbifdfcllaaaaaGreatDoor

/- What the longer lists (tables and errors) give, and a world that fits them. -/
namespace Go.Proofs.YtcbifdfcllaaaaaGreatDoor
open Go.RowKit Go.Deep Go.ChangeShapes Go.WideShapes Go.ChangeAt

theorem gES : Tryz.prog.globalNamed "strconv.ErrSyntax" = some 1 := by kernel_rfl
theorem gESType : (Tryz.prog.globals[1]?).map (·.type) = some 113 := by kernel_rfl
theorem gER : Tryz.prog.globalNamed "strconv.ErrRange" = some 2 := by kernel_rfl
theorem gERType : (Tryz.prog.globals[2]?).map (·.type) = some 113 := by kernel_rfl
theorem star_err : "*errors.errorString" = "*" ++ "errors.errorString" := by decide
theorem row_err (u : TypeId) (h : Tryz.prog.typeName? 3 u = some "*errors.errorString") : u = 170 :=
  typeName_ptr_named (nm := "errors.errorString") (by rw [← star_err]; kernel_rfl) (by kernel_rfl) (by decide) u (by rw [← star_err]; exact h)
theorem cellsErr : Tryz.prog.cellsOf 172 = 1 := by kernel_rfl
theorem cellsStr : Tryz.prog.cellsOf 9 = 1 := by kernel_rfl
theorem tabe_of {W : World} (h : laidMetH Tryz.prog Rows.fnExactReadGridRow.laid W) : TabW W ∧ ErrW W := by
  have h1 : laidMet Tryz.prog [("math/bits.deBruijn32tab", Rows.laid_math_bits_deBruijn32tab), ("math/bits.deBruijn64tab", Rows.laid_math_bits_deBruijn64tab), ("internal/strconv.uint64pow10", Rows.laid_internal_strconv_uint64pow10), ("strconv.ErrRange", Rows.laid_strconv_ErrRange), ("strconv.ErrSyntax", Rows.laid_strconv_ErrSyntax)] W := h
  have h2 := laidMet.tail (laidMet.tail h1)
  have h3 := laidMet.tail h2
  have h4 := laidMet.tail h3
  rw [powData] at h2
  obtain ⟨a0, s0, hv0, -, -, -⟩ := laid_sentinel h3 gER gERType Tryz.underlying113 row_err Tryz.underlying170 Tryz.underlying172 rfl rfl Tryz.underlying9 cellsErr cellsStr
  obtain ⟨a1, s1, hv1, -, -, -⟩ := laid_sentinel h4 gES gESType Tryz.underlying113 row_err Tryz.underlying170 Tryz.underlying172 rfl rfl Tryz.underlying9 cellsErr cellsStr
  exact ⟨Lib.tabIs_of_head gPow gPowType Tryz.underlying175 Tryz.underlying143 cellsU64 cellsPow h2, ⟨_, _, hv1⟩, ⟨_, _, hv0⟩⟩

abbrev synS : ByteArray := ⟨#[105, 110, 118, 97, 108, 105, 100, 32, 115, 121, 110, 116, 97, 120]⟩
abbrev rngS : ByteArray := ⟨#[118, 97, 108, 117, 101, 32, 111, 117, 116, 32, 111, 102, 32, 114, 97, 110, 103, 101]⟩
noncomputable def low : Nat := (World.holding Tryz.prog default ⟨#[], #[], []⟩).heap.size
/-- A world for the witness: the tables, and the two errors in blocks of their own. -/
noncomputable def laidWorld2 (os : Os) : World :=
  let w0 := World.holding Tryz.prog os ⟨#[.cells #[.string synS] 172, .cells #[.string rngS] 172], #[], []⟩
  { w0 with heap := (((((w0.heap.modify 4 (laidIn (dataCells Rows.laid_math_bits_deBruijn32tab))).modify 5 (laidIn (dataCells Rows.laid_math_bits_deBruijn64tab))).modify 3 (laidIn (dataCells Rows.laid_internal_strconv_uint64pow10))).modify 1
      (laidIn #[.iface 170 (.pointer (some ⟨low, 0, none⟩))])).modify 2 (laidIn #[.iface 170 (.pointer (some ⟨low + 1, 0, none⟩))])) }
end Go.Proofs.YtcbifdfcllaaaaaGreatDoor
