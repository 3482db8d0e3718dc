/- Contracts of the functions that move a shape home. -/
import Derived.Test.YtnbpcdnncfkgjaaBounds
import Derived.Test.YtnbpcdnncfkgjaaStep
import Derived.Test.YtnbpcdnncfkgjaaShapeOk
namespace Go.Proofs.Ytnbpcdnncfkgjaa
open Go.RowKit Go.Deep
set_option linter.unusedVariables false
set_option linter.unusedSimpArgs false

/-- all coordinates within a million -/
def bdL (zs : List (Int × Int)) : Prop := ∀ z ∈ zs, (-1000000 ≤ z.1 ∧ z.1 ≤ 1000000) ∧ -1000000 ≤ z.2 ∧ z.2 ≤ 1000000
theorem bdL_shp {zs : List (Int × Int)} (h : shpB zs = true) : bdL zs := fun z hz => by have := vp_bd (shpB_vp h) z hz; omega
theorem bdL_at {zs : List (Int × Int)} (h : bdL zs) {k : Nat} (hk : k < zs.length) : (-1000000 ≤ zs[k].1 ∧ zs[k].1 ≤ 1000000) ∧ -1000000 ≤ zs[k].2 ∧ zs[k].2 ≤ 1000000 := h _ (List.getElem_mem hk)
theorem bdL_low {zs : List (Int × Int)} (h : bdL zs) : (-1000000 ≤ lowX zs ∧ lowX zs ≤ 1000000) ∧ -1000000 ≤ lowY zs ∧ lowY zs ≤ 1000000 := low_bd (b := 1000000) h (by omega)

/-- the first k points, moved -/
def movT (zs : List (Int × Int)) (dx dy : Int) (k : Nat) : List (Int × Int) := movL (zs.take k) dx dy
theorem movT_zero (zs : List (Int × Int)) (dx dy : Int) : (movT zs dx dy 0).flatMap ptCells = [] := by simp only [movT, List.take_zero, movL, List.map_nil, List.flatMap_nil]
theorem movT_all (zs : List (Int × Int)) (dx dy : Int) : movT zs dx dy zs.length = movL zs dx dy := by simp [movT]
theorem movT_step {w' : World} {base : Nat} {e : TypeId} {v : Value} {zs : List (Int × Int)} {dx dy : Int} {k : Nat} (hk : k < zs.length)
    (h : w'.ownsRow base e 2 v (k + 1) ((movT zs dx dy k).flatMap ptCells ++ [.int .i64 (zs[k].1 + dx), .int .i64 (zs[k].2 + dy)])) : w'.ownsRow base e 2 v (k + 1) ((movT zs dx dy (k + 1)).flatMap ptCells) := by
  have : movT zs dx dy (k + 1) = movT zs dx dy k ++ [(zs[k].1 + dx, zs[k].2 + dy)] := by
    unfold movT movL
    rw [List.take_succ_eq_append_getElem hk, List.map_append]
    rfl
  rw [this, List.flatMap_append]
  simpa [ptCells] using h


set_option maxHeartbeats 400000 in
theorem c_plus (ax ay bx b_y : Int) (w : World) (h1 : -4611686018427387904 ≤ ax + bx) (h2 : ax + bx ≤ 4611686018427387904) (h3 : -4611686018427387904 ≤ ay + b_y) (h4 : ay + b_y ≤ 4611686018427387904) :
    Calls Try.prog 80 #[.agg #[.int .i64 ax, .int .i64 ay], .agg #[.int .i64 bx, .int .i64 b_y]] w fun e w' => e = .returned (.agg #[.int .i64 (ax + bx), .int .i64 (ay + b_y)]) ∧ New w w' := by
  go_enter Try.func80, Try.ntmps80
  go_wp2
  exact bodyPost_ret (v := .agg #[.int .i64 (ax + bx), .int .i64 (ay + b_y)]) (by simp [results, Try.results80, go_sem]) rfl ⟨rfl, by go_grown⟩


/-- the code of a shape and a condition on numbers -/
def shpC (zs : List (Int × Int)) (r : Bool) : Int := if shpB zs then (if r then 0 else 2) else 1


/-- a shape if it is valid, and a code -/
def vldL (zs : List (Int × Int)) : List (Int × Int) := if shpB zs then zs else []
def vldC (zs : List (Int × Int)) : Int := if shpB zs then 0 else 2
theorem vldL_len (zs : List (Int × Int)) : (vldL zs).length ≤ 500 := by
  unfold vldL
  split
  · rename_i h; exact (shpB_len h).2
  · simp


theorem own_nil (w : World) (hi : Nat) (hh : hi ≤ w.heap.size) (lo : Nat) (e : TypeId) (C : Nat) : Own w lo hi e C (.slice none 0 0) 0 [] := ⟨World.ownsRow_nil _ _ _ _, hh, fun g hg => by cases hg⟩

end Go.Proofs.Ytnbpcdnncfkgjaa
