/- Contracts of the reference's functions that put points into their order. -/
import Derived.Test.YtfnihmmkbnkmnaaDoorOwnPt
import Derived.Test.YtfnihmmkbnkmnaaDoorLater
import Derived.Test.YtfnihmmkbnkmnaaDoorStep
import Derived.Deep.DeepCutAuto
namespace Go.Proofs.YtfnihmmkbnkmnaaDoor
open Go.RowKit Go.Deep
set_option linter.unusedVariables false
set_option linter.unusedSimpArgs false

/-- whether the search for the place stops in front of place k -/
def stpB (zs : List (Int × Int)) (p : Int × Int) (k : Nat) : Bool := decide (k = 0) || ltQ (zs.getD (k - 1) (0, 0)) p
theorem stp_zero (zs : List (Int × Int)) (p : Int × Int) (k : Nat) (h : k = 0) : stpB zs p k = true := by simp [stpB, h]
theorem stp_suc {zs : List (Int × Int)} {p : Int × Int} {j k : Nat} (hj : j < zs.length) (e : k = j + 1) : stpB zs p k = ltP zs[j].1 zs[j].2 p.1 p.2 := by
  subst e
  simp [stpB, List.getD_eq_getElem?_getD, hj, ltQ]
theorem stp_pos {zs : List (Int × Int)} {p : Int × Int} {k : Nat} (hk : k ≤ zs.length) (h1 : ∀ j (hj : j < zs.length), k ≤ j → ltQ zs[j] p = false) (h2 : stpB zs p k = true) : posR zs p = k := by
  refine posR_of hk h1 fun h => ?_
  have h3 : ¬ k = 0 := by omega
  have h4 : k - 1 < zs.length := by omega
  simpa [stpB, h3, List.getD_eq_getElem?_getD, h4] using h2
/-- whether the point is there -/
def thrB (zs : List (Int × Int)) (p : Int × Int) (k : Nat) : Bool := decide (zs[k]? = some p)

theorem thr_at {zs : List (Int × Int)} {p : Int × Int} {k : Nat} (hk : k < zs.length) : thrB zs p k = (zs[k].1 == p.1 && zs[k].2 == p.2) := by
  unfold thrB
  rw [List.getElem?_eq_getElem hk, Bool.eq_iff_iff]
  simp [Prod.ext_iff]
theorem thr_no {zs : List (Int × Int)} {p : Int × Int} {k : Nat} (hk : zs.length ≤ k) : thrB zs p k = false := by
  unfold thrB
  rw [List.getElem?_eq_none hk]
  simp

/-- the list in which the places from k on have been moved on down to place i -/
def shfL (zs : List (Int × Int)) (q : Int × Int) (i : Nat) : List (Int × Int) := zs.take i ++ q :: zs.drop i
theorem shfL_len {zs : List (Int × Int)} {q : Int × Int} {i : Nat} (h : i ≤ zs.length) : (shfL zs q i).length = zs.length + 1 := by simp [shfL]; omega
theorem shfL_at {zs : List (Int × Int)} {q : Int × Int} {i j : Nat} (h : i ≤ zs.length) (hj : j < i) : (shfL zs q i)[j]'(by rw [shfL_len h]; omega) = zs[j] := by
  simp only [shfL]
  rw [List.getElem_append_left (by simp; omega)]
  simp
theorem shfL_set {zs : List (Int × Int)} {q r : Int × Int} {i : Nat} (h : i ≤ zs.length) : (shfL zs q i).set i r = shfL zs r i := by
  simp only [shfL]
  rw [List.set_append_right _ _ (by simp; omega)]
  simp [show i - min i zs.length = 0 by omega]
theorem shfL_down {zs : List (Int × Int)} {j : Nat} (h : j < zs.length) : shfL zs zs[j] (j + 1) = shfL zs zs[j] j := by
  simp only [shfL]
  rw [List.take_succ_eq_append_getElem h, List.append_assoc]
  congr 1
  rw [List.drop_eq_getElem_cons h]
  rfl
theorem shfL_top (zs : List (Int × Int)) (q : Int × Int) : shfL zs q zs.length = zs ++ [q] := by simp [shfL]
theorem putR_new {zs : List (Int × Int)} {p : Int × Int} {k : Nat} (h : posR zs p = k) (h2 : thrB zs p k = false) : putR zs p = shfL zs p k := by
  unfold putR shfL
  rw [h, if_neg (by simpa [thrB] using h2)]
theorem putR_old {zs : List (Int × Int)} {p : Int × Int} {k : Nat} (h : posR zs p = k) (h2 : thrB zs p k = true) : putR zs p = zs := by
  unfold putR
  rw [h, if_pos (by simpa [thrB] using h2)]

/-- A call hands back the row with one point more. -/
def GivesPut (w : World) (base : Nat) (e : TypeId) (ys : List (Int × Int)) (E : Ending) (w' : World) : Prop :=
  ∃ u, E = .returned u ∧ w'.ownsRow base e 2 u ys.length (ys.flatMap ptCells) ∧ Below base w w'


theorem sortR_take {zs : List (Int × Int)} {k : Nat} (hk : k < zs.length) : sortR (zs.take (k + 1)) = putR (sortR (zs.take k)) zs[k] := by rw [List.take_succ_eq_append_getElem hk, sortR_snoc]
theorem sortR_tlen (zs : List (Int × Int)) (k : Nat) : (sortR (zs.take k)).length ≤ k := by
  have := (sortR_spec (zs.take k)).2.2
  simp at this; omega


end Go.Proofs.YtfnihmmkbnkmnaaDoor
