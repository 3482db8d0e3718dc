/- How loaded cells are kept from world to world: points at two places. -/
import Derived.Test.YtcbifdfcllaaaaaGreatDoorPts2
import Derived.Test.YtcbifdfcllaaaaaGreatDoorBox
import Derived.Test.YtcbifdfcllaaaaaGreatDoorShapeP
namespace Go.Proofs.YtcbifdfcllaaaaaGreatDoor
open Go.RowKit

theorem keepP {w1 w2 : World} {b o : Nat} {x y : Value} (n : New w1 w2) (hb : b < w1.heap.size) (h0 : w1.cell? ⟨b, o, none⟩ = some x) (h1 : w1.cell? ⟨b, o + 1, none⟩ = some y) :
    w2.cell? ⟨b, o, none⟩ = some x ∧ w2.cell? ⟨b, o + 1, none⟩ = some y :=
  ⟨(n.cell (p := ⟨b, o, none⟩) hb).trans h0, (n.cell (p := ⟨b, o + 1, none⟩) hb).trans h1⟩
theorem keepP2 {w1 w2 : World} {b o b' o' : Nat} {x y x' y' : Value} (n : New w1 w2) (hb : b < w1.heap.size) (hb' : b' < w1.heap.size) (h0 : w1.cell? ⟨b, o, none⟩ = some x) (h1 : w1.cell? ⟨b, o + 1, none⟩ = some y)
    (h0' : w1.cell? ⟨b', o', none⟩ = some x') (h1' : w1.cell? ⟨b', o' + 1, none⟩ = some y') :
    w2.cell? ⟨b, o, none⟩ = some x ∧ w2.cell? ⟨b, o + 1, none⟩ = some y ∧ w2.cell? ⟨b', o', none⟩ = some x' ∧ w2.cell? ⟨b', o' + 1, none⟩ = some y' :=
  ⟨(keepP n hb h0 h1).1, (keepP n hb h0 h1).2, keepP n hb' h0' h1'⟩
/-- a point in a list that is read -/
theorem rd_pt {w wr : World} {lo hi : Nat} {v : Value} {zs : List (Int × Int)} (h : Rd w lo hi 2 v zs.length (zs.flatMap ptCells)) (n : New w wr) {b off c : Nat} (hv : v = .slice (some ⟨b, off, none⟩) zs.length c) {k : Nat} (hk : k < zs.length) :
    wr.cell? ⟨b, off + k * 2, none⟩ = some (.int .i64 zs[k].1) ∧ wr.cell? ⟨b, off + k * 2 + 1, none⟩ = some (.int .i64 zs[k].2) ∧ b < wr.heap.size := by
  obtain ⟨_, _, hh, A, c', hv', hrd⟩ := h
  rw [hv] at hv'
  obtain ⟨b', off', e, _, hb, hc⟩ := hrd (by omega)
  have hA : A = some ⟨b, off, none⟩ := by cases hv'; rfl
  rw [hA] at e
  obtain ⟨rfl, rfl⟩ : b = b' ∧ off = off' := by simpa using e
  have hs := n.size
  refine ⟨(n.cell (p := ⟨b, off + k * 2, none⟩) (by simp; omega)).trans (hc _ _ (pts_get0 hk)), ?_, by omega⟩
  exact (n.cell (p := ⟨b, off + k * 2 + 1, none⟩) (by simp; omega)).trans (hc (k * 2 + 1) _ (pts_get1 hk))

theorem okAt_of {zs : List (Int × Int)} {k : Nat} (hk : k < zs.length) : okAt zs k = (vpB zs[k].1 zs[k].2 && (decide (k = 0) || ltQ (zs.getD (k - 1) (0, 0)) zs[k])) := by
  simp [okAt, List.getD_eq_getElem?_getD, hk]
theorem okAt_suc {zs : List (Int × Int)} {j k : Nat} (hk : k < zs.length) (hj : j < zs.length) (e : k = j + 1) : okAt zs k = (vpB zs[k].1 zs[k].2 && ltP zs[j].1 zs[j].2 zs[k].1 zs[k].2) := by
  subst e
  rw [okAt_of hk]
  simp [List.getD_eq_getElem?_getD, hj, ltQ]
theorem okAt_zero {zs : List (Int × Int)} {k : Nat} (hk : k < zs.length) (e : k = 0) : okAt zs k = vpB zs[k].1 zs[k].2 := by
  rw [okAt_of hk]
  simp [e]

end Go.Proofs.YtcbifdfcllaaaaaGreatDoor
