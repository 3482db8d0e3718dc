/- Contracts of the functions that move a shape home. -/
import Derived.Test.YthafdlfhkcbjhaaBounds
import Derived.Test.YthafdlfhkcbjhaaStep
import Derived.Test.YthafdlfhkcbjhaaShapeOk
namespace Go.Proofs.Ythafdlfhkcbjhaa
open Go.RowKit Go.Deep
set_option linter.unusedVariables false
set_option linter.unusedSimpArgs false

/-- all coordinates within a million -/
def bdL (zs : List (Int × Int)) : Prop := ∀ z ∈ zs, (-1000000 ≤ z.1 ∧ z.1 ≤ 1000000) ∧ -1000000 ≤ z.2 ∧ z.2 ≤ 1000000
theorem bdL_shp {zs : List (Int × Int)} (h : shpB zs = true) : bdL zs := fun z hz => by have := vp_bd (shpB_vp h) z hz; omega
theorem bdL_at {zs : List (Int × Int)} (h : bdL zs) {k : Nat} (hk : k < zs.length) : (-1000000 ≤ zs[k].1 ∧ zs[k].1 ≤ 1000000) ∧ -1000000 ≤ zs[k].2 ∧ zs[k].2 ≤ 1000000 := h _ (List.getElem_mem hk)
theorem bdL_low {zs : List (Int × Int)} (h : bdL zs) : (-1000000 ≤ lowX zs ∧ lowX zs ≤ 1000000) ∧ -1000000 ≤ lowY zs ∧ lowY zs ≤ 1000000 := low_bd (b := 1000000) h (by omega)

/-- the first k points, moved -/
def movT (zs : List (Int × Int)) (dx dy : Int) (k : Nat) : List (Int × Int) := movL (zs.take k) dx dy
theorem movT_zero (zs : List (Int × Int)) (dx dy : Int) : (movT zs dx dy 0).flatMap ptCells = [] := by simp only [movT, List.take_zero, movL, List.map_nil, List.flatMap_nil]
theorem movT_all (zs : List (Int × Int)) (dx dy : Int) : movT zs dx dy zs.length = movL zs dx dy := by simp [movT]
theorem movT_step {w' : World} {base : Nat} {e : TypeId} {v : Value} {zs : List (Int × Int)} {dx dy : Int} {k : Nat} (hk : k < zs.length)
    (h : w'.ownsRow base e 2 v (k + 1) ((movT zs dx dy k).flatMap ptCells ++ [.int .i64 (zs[k].1 + dx), .int .i64 (zs[k].2 + dy)])) : w'.ownsRow base e 2 v (k + 1) ((movT zs dx dy (k + 1)).flatMap ptCells) := by
  have : movT zs dx dy (k + 1) = movT zs dx dy k ++ [(zs[k].1 + dx, zs[k].2 + dy)] := by
    unfold movT movL
    rw [List.take_succ_eq_append_getElem hk, List.map_append]
    rfl
  rw [this, List.flatMap_append]
  simpa [ptCells] using h




/-- the code of a shape and a condition on numbers -/
def shpC (zs : List (Int × Int)) (r : Bool) : Int := if shpB zs then (if r then 0 else 2) else 1

set_option maxHeartbeats 400000 in
theorem c_shapeCode (lo hi : Nat) (v : Value) (zs : List (Int × Int)) (r : Bool) (w : World) (h : Rd w lo hi 2 v zs.length (zs.flatMap ptCells)) :
    Calls Try.prog 57 #[v, .bool r] w fun e w' => e = .returned (.int .i64 (shpC zs r)) ∧ New w w' := by
  cases hs : shpB zs
  · have E := Lib.hid (show shpC zs r = 1 by simp [shpC, hs])
    go_enter Try.func57, Try.ntmps57
    go_wp2_with (go_at_call 77; refine (c_implValidShape lo hi _ zs _ h).mono ?_; rintro e w1 ⟨rfl, n1⟩)
    go_ret
    exact ⟨ret_int E.out.symm, n1⟩
  · cases r
    · have E := Lib.hid (show shpC zs false = 2 by simp [shpC, hs])
      go_enter Try.func57, Try.ntmps57
      go_wp2_with (go_at_call 77; refine (c_implValidShape lo hi _ zs _ h).mono ?_; rintro e w1 ⟨rfl, n1⟩)
      go_ret
      exact ⟨ret_int E.out.symm, n1⟩
    · have E := Lib.hid (show shpC zs true = 0 by simp [shpC, hs])
      go_enter Try.func57, Try.ntmps57
      go_wp2_with (go_at_call 77; refine (c_implValidShape lo hi _ zs _ h).mono ?_; rintro e w1 ⟨rfl, n1⟩)
      go_ret
      exact ⟨ret_int E.out.symm, n1⟩

/-- a shape if it is valid, and a code -/
def vldL (zs : List (Int × Int)) : List (Int × Int) := if shpB zs then zs else []
def vldC (zs : List (Int × Int)) : Int := if shpB zs then 0 else 2
theorem vldL_len (zs : List (Int × Int)) : (vldL zs).length ≤ 500 := by
  unfold vldL
  split
  · rename_i h; exact (shpB_len h).2
  · simp


theorem own_nil (w : World) (hi : Nat) (hh : hi ≤ w.heap.size) (lo : Nat) (e : TypeId) (C : Nat) : Own w lo hi e C (.slice none 0 0) 0 [] := ⟨World.ownsRow_nil _ _ _ _, hh, fun g hg => by cases hg⟩

end Go.Proofs.Ythafdlfhkcbjhaa
