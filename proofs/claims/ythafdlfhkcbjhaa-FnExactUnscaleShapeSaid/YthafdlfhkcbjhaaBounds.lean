/- Contracts of the functions that find the least and the greatest coordinates of points. -/
import Derived.Test.YthafdlfhkcbjhaaKeep
import Derived.Test.YthafdlfhkcbjhaaLater
import Derived.Deep.DeepCutAuto
import Derived.StillTailTactics
namespace Go.Proofs.Ythafdlfhkcbjhaa
open Go.RowKit Go.Deep
set_option linter.unusedVariables false
set_option linter.unusedSimpArgs false


theorem min_if (a b : Int) : min a b = if b < a then b else a := by split <;> omega
theorem max_if (a b : Int) : max a b = if a < b then b else a := by split <;> omega

/-! the least and greatest among the first k -/
def lxT (zs : List (Int × Int)) (k : Nat) : Int := minL (zs.headD (0, 0)).1 ((zs.take k).map Prod.fst)
def lyT (zs : List (Int × Int)) (k : Nat) : Int := minL (zs.headD (0, 0)).2 ((zs.take k).map Prod.snd)
def hxT (zs : List (Int × Int)) (k : Nat) : Int := maxL (zs.headD (0, 0)).1 ((zs.take k).map Prod.fst)
def hyT (zs : List (Int × Int)) (k : Nat) : Int := maxL (zs.headD (0, 0)).2 ((zs.take k).map Prod.snd)
theorem lT_succ {zs : List (Int × Int)} {k : Nat} (hk : k < zs.length) :
    (lxT zs (k + 1) = min (lxT zs k) zs[k].1 ∧ lyT zs (k + 1) = min (lyT zs k) zs[k].2) ∧ hxT zs (k + 1) = max (hxT zs k) zs[k].1 ∧ hyT zs (k + 1) = max (hyT zs k) zs[k].2 := by
  simp only [lxT, lyT, hxT, hyT, List.take_succ_eq_append_getElem hk, List.map_append, List.map_cons, List.map_nil, minL_snoc, maxL_snoc, and_self]
theorem lT_zero {zs : List (Int × Int)} (h : 0 < zs.length) : (lxT zs 0 = zs[0].1 ∧ lyT zs 0 = zs[0].2) ∧ hxT zs 0 = zs[0].1 ∧ hyT zs 0 = zs[0].2 := by
  cases zs with
  | nil => simp at h
  | cons x r => simp [lxT, lyT, hxT, hyT, minL, maxL]
theorem lT_one {zs : List (Int × Int)} (h : 0 < zs.length) : (lxT zs 1 = zs[0].1 ∧ lyT zs 1 = zs[0].2) ∧ hxT zs 1 = zs[0].1 ∧ hyT zs 1 = zs[0].2 := by
  cases zs with
  | nil => simp at h
  | cons x r => simp [lxT, lyT, hxT, hyT, minL, maxL]
theorem lT_all (zs : List (Int × Int)) : (lxT zs zs.length = lowX zs ∧ lyT zs zs.length = lowY zs) ∧ hxT zs zs.length = hghX zs ∧ hyT zs zs.length = hghY zs := by
  simp [lxT, lyT, hxT, hyT, lowX, lowY, hghX, hghY]

/-- the bounds of points, as they are handed back -/
abbrev bndV (zs : List (Int × Int)) : Value := .tuple #[.agg #[.int .i64 (lowX zs), .int .i64 (lowY zs)], .agg #[.int .i64 (hghX zs), .int .i64 (hghY zs)]]


end Go.Proofs.Ythafdlfhkcbjhaa
