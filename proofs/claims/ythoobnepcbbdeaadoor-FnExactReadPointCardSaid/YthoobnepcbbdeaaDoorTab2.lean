/- What the longer lists (tables and errors) give, and a world that fits them. -/
import Derived.Test.YthoobnepcbbdeaaDoorTab
import Derived.Test.YthoobnepcbbdeaaDoorReadI
import Derived.Deep.DeepWitnessRowRef
namespace Go.Proofs.YthoobnepcbbdeaaDoor
open Go.RowKit Go.Deep Go.ChangeShapes Go.WideShapes Go.ChangeAt

theorem gES : Tryd.prog.globalNamed "strconv.ErrSyntax" = some 1 := by kernel_rfl
theorem gESType : (Tryd.prog.globals[1]?).map (·.type) = some 49 := by kernel_rfl
theorem gER : Tryd.prog.globalNamed "strconv.ErrRange" = some 2 := by kernel_rfl
theorem gERType : (Tryd.prog.globals[2]?).map (·.type) = some 49 := by kernel_rfl
theorem star_err : "*errors.errorString" = "*" ++ "errors.errorString" := by decide
theorem row_err (u : TypeId) (h : Tryd.prog.typeName? 3 u = some "*errors.errorString") : u = 89 :=
  typeName_ptr_named (nm := "errors.errorString") (by rw [← star_err]; kernel_rfl) (by kernel_rfl) (by decide) u (by rw [← star_err]; exact h)
theorem cellsErr : Tryd.prog.cellsOf 91 = 1 := by kernel_rfl
theorem cellsStr : Tryd.prog.cellsOf 9 = 1 := by kernel_rfl
theorem tabe_of {W : World} (h : laidMetH Tryd.prog Rows.fnExactReadDecimalRow.laid W) : TabW W ∧ ErrW W := by
  have h1 : laidMet Tryd.prog [("math/bits.deBruijn32tab", Rows.laid_math_bits_deBruijn32tab), ("math/bits.deBruijn64tab", Rows.laid_math_bits_deBruijn64tab), ("internal/strconv.uint64pow10", Rows.laid_internal_strconv_uint64pow10), ("strconv.ErrRange", Rows.laid_strconv_ErrRange), ("strconv.ErrSyntax", Rows.laid_strconv_ErrSyntax)] W := h
  have h2 := laidMet.tail (laidMet.tail h1)
  have h3 := laidMet.tail h2
  have h4 := laidMet.tail h3
  rw [powData] at h2
  obtain ⟨a0, s0, hv0, -, -, -⟩ := laid_sentinel h3 gER gERType Tryd.underlying49 row_err Tryd.underlying89 Tryd.underlying91 rfl rfl Tryd.underlying9 cellsErr cellsStr
  obtain ⟨a1, s1, hv1, -, -, -⟩ := laid_sentinel h4 gES gESType Tryd.underlying49 row_err Tryd.underlying89 Tryd.underlying91 rfl rfl Tryd.underlying9 cellsErr cellsStr
  exact ⟨Lib.tabIs_of_head gPow gPowType Tryd.underlying76 Tryd.underlying61 cellsU64 cellsPow h2, ⟨_, _, hv1⟩, ⟨_, _, hv0⟩⟩

abbrev synS : ByteArray := ⟨#[105, 110, 118, 97, 108, 105, 100, 32, 115, 121, 110, 116, 97, 120]⟩
abbrev rngS : ByteArray := ⟨#[118, 97, 108, 117, 101, 32, 111, 117, 116, 32, 111, 102, 32, 114, 97, 110, 103, 101]⟩
noncomputable def low : Nat := (World.holding Tryd.prog default ⟨#[], #[], []⟩).heap.size
/-- A world for the witness: the tables, and the two errors in blocks of their own. -/
noncomputable def laidWorld2 (os : Os) : World :=
  let w0 := World.holding Tryd.prog os ⟨#[.cells #[.string synS] 91, .cells #[.string rngS] 91], #[], []⟩
  { w0 with heap := (((((w0.heap.modify 4 (laidIn (dataCells Rows.laid_math_bits_deBruijn32tab))).modify 5 (laidIn (dataCells Rows.laid_math_bits_deBruijn64tab))).modify 0 (laidIn (dataCells Rows.laid_internal_strconv_uint64pow10))).modify 1
      (laidIn #[.iface 89 (.pointer (some ⟨low, 0, none⟩))])).modify 2 (laidIn #[.iface 89 (.pointer (some ⟨low + 1, 0, none⟩))])) }
end Go.Proofs.YthoobnepcbbdeaaDoor
