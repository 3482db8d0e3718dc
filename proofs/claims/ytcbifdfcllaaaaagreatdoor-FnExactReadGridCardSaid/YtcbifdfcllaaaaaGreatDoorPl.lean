/- Slices of elements of three numbers: a point and a number each. -/
import Derived.Test.YtcbifdfcllaaaaaGreatDoorKeep
import Derived.Test.YtcbifdfcllaaaaaGreatDoorLater
import Derived.Test.YtcbifdfcllaaaaaGreatDoorOwnPt
namespace Go.Proofs.YtcbifdfcllaaaaaGreatDoor
open Go.RowKit Go.Deep

/-- the cells of a point and a number -/
def plCells (t : (Int × Int) × Int) : List Value := [.int .i64 t.1.1, .int .i64 t.1.2, .int .i64 t.2]
theorem pl_len (zs : List ((Int × Int) × Int)) : (zs.flatMap plCells).length = zs.length * 3 := flat_len plCells 3 (fun _ => rfl) zs
theorem pl_get0 {zs : List ((Int × Int) × Int)} {k : Nat} (hk : k < zs.length) : (zs.flatMap plCells)[k * 3]? = some (.int .i64 zs[k].1.1) := by
  have := flat_get plCells 3 (fun _ => rfl) zs k 0 hk (by omega)
  simpa [plCells] using this
theorem pl_get1 {zs : List ((Int × Int) × Int)} {k : Nat} (hk : k < zs.length) : (zs.flatMap plCells)[k * 3 + 1]? = some (.int .i64 zs[k].1.2) := by
  have := flat_get plCells 3 (fun _ => rfl) zs k 1 hk (by omega)
  simpa [plCells] using this
theorem pl_get2 {zs : List ((Int × Int) × Int)} {k : Nat} (hk : k < zs.length) : (zs.flatMap plCells)[k * 3 + 2]? = some (.int .i64 zs[k].2) := by
  have := flat_get plCells 3 (fun _ => rfl) zs k 2 hk (by omega)
  simpa [plCells] using this
theorem pl_succ {zs : List ((Int × Int) × Int)} {k : Nat} (hk : k < zs.length) : (zs.take (k + 1)).flatMap plCells = (zs.take k).flatMap plCells ++ [.int .i64 zs[k].1.1, .int .i64 zs[k].1.2, .int .i64 zs[k].2] := by
  rw [List.take_succ_eq_append_getElem hk, List.flatMap_append]
  simp [plCells]
theorem fill3_step {w : World} {base g : Nat} {e : TypeId} {zs : List ((Int × Int) × Int)} {k : Nat} (h : Fill w base e 3 g zs.length zs.length ((zs.take k).flatMap plCells)) (hk : k < zs.length) :
    Fill (((w.setCell ⟨g, k * 3, none⟩ (.int .i64 zs[k].1.1)).setCell ⟨g, k * 3 + 1, none⟩ (.int .i64 zs[k].1.2)).setCell ⟨g, k * 3 + 2, none⟩ (.int .i64 zs[k].2)) base e 3 g zs.length zs.length ((zs.take (k + 1)).flatMap plCells) := by
  have hl : ((zs.take k).flatMap plCells).length = k * 3 := by rw [pl_len]; simp; omega
  have h1 := h.put (by omega) (.int .i64 zs[k].1.1)
  have hl1 : ((zs.take k).flatMap plCells ++ [Value.int .i64 zs[k].1.1]).length = k * 3 + 1 := by simp [hl]
  have h2 := h1.put (by omega) (.int .i64 zs[k].1.2)
  have hl2 : ((zs.take k).flatMap plCells ++ [Value.int .i64 zs[k].1.1] ++ [Value.int .i64 zs[k].1.2]).length = k * 3 + 2 := by simp [hl]
  have h3 := h2.put (by omega) (.int .i64 zs[k].2)
  rw [hl2, hl1, hl] at h3
  rw [pl_succ hk]
  simpa using h3
theorem fill3_end {w w' : World} {e : TypeId} {zs : List ((Int × Int) × Int)} (h : Fill w' w.heap.size e 3 w.heap.size zs.length zs.length ((zs.take zs.length).flatMap plCells)) :
    Own w' w.heap.size w'.heap.size e 3 (.slice (some ⟨w.heap.size, 0, none⟩) zs.length zs.length) zs.length (zs.flatMap plCells) := by
  rw [List.take_length] at h
  exact Own.of (h.done (by rw [pl_len]))
theorem rd_pl {w wr : World} {lo hi : Nat} {v : Value} {zs : List ((Int × Int) × Int)} (h : Rd w lo hi 3 v zs.length (zs.flatMap plCells)) (n : New w wr) {b off c : Nat} (hv : v = .slice (some ⟨b, off, none⟩) zs.length c) {k : Nat} (hk : k < zs.length) :
    (wr.cell? ⟨b, off + k * 3, none⟩ = some (.int .i64 zs[k].1.1) ∧ wr.cell? ⟨b, off + k * 3 + 1, none⟩ = some (.int .i64 zs[k].1.2) ∧ wr.cell? ⟨b, off + k * 3 + 2, none⟩ = some (.int .i64 zs[k].2)) ∧ b < wr.heap.size := by
  obtain ⟨_, _, hh, A, c', hv', hrd⟩ := h
  rw [hv] at hv'
  obtain ⟨b', off', e, _, hb, hc⟩ := hrd (by omega)
  have hA : A = some ⟨b, off, none⟩ := by cases hv'; rfl
  rw [hA] at e
  obtain ⟨rfl, rfl⟩ : b = b' ∧ off = off' := by simpa using e
  have hs := n.size
  refine ⟨⟨(n.cell (p := ⟨b, off + k * 3, none⟩) (by simp; omega)).trans (hc _ _ (pl_get0 hk)), (n.cell (p := ⟨b, off + k * 3 + 1, none⟩) (by simp; omega)).trans (hc (k * 3 + 1) _ (pl_get1 hk)), ?_⟩, by omega⟩
  exact (n.cell (p := ⟨b, off + k * 3 + 2, none⟩) (by simp; omega)).trans (hc (k * 3 + 2) _ (pl_get2 hk))

theorem BoxV.three {w : World} {b : Nat} {x y z : Value} (h1 : w.cell? ⟨b, 0, none⟩ = some x) (h2 : w.cell? ⟨b, 1, none⟩ = some y) (h3 : w.cell? ⟨b, 2, none⟩ = some z) (f1 : w.frozen? ⟨b, 0, none⟩ = false) (f2 : w.frozen? ⟨b, 1, none⟩ = false) (f3 : w.frozen? ⟨b, 2, none⟩ = false) (h5 : b < w.heap.size) : BoxV w b [x, y, z] := by
  refine ⟨fun j u hj => ?_, fun j hj => ?_, h5⟩
  · match j, hj with
    | 0, hj => simp at hj; subst hj; exact h1
    | 1, hj => simp at hj; subst hj; exact h2
    | 2, hj => simp at hj; subst hj; exact h3
  · match j, hj with
    | 0, _ => exact f1
    | 1, _ => exact f2
    | 2, _ => exact f3
theorem BoxV.at3 {w : World} {b : Nat} {x y z : Value} (h : BoxV w b [x, y, z]) : (w.cell? ⟨b, 0, none⟩ = some x ∧ w.cell? ⟨b, 1, none⟩ = some y ∧ w.cell? ⟨b, 2, none⟩ = some z) ∧ (w.frozen? ⟨b, 0, none⟩ = false ∧ w.frozen? ⟨b, 1, none⟩ = false ∧ w.frozen? ⟨b, 2, none⟩ = false) ∧ b < w.heap.size :=
  ⟨⟨h.cell 0 x rfl, h.cell 1 y rfl, h.cell 2 z rfl⟩, ⟨h.free 0 (by simp), h.free 1 (by simp), h.free 2 (by simp)⟩, h.lt⟩
theorem BoxV.all3 {w : World} {b : Nat} {x y z : Value} (h : BoxV w b [x, y, z]) (u v t : Value) : BoxV (((w.setCell ⟨b, 0, none⟩ u).setCell ⟨b, 1, none⟩ v).setCell ⟨b, 2, none⟩ t) b [u, v, t] := by
  obtain ⟨⟨c, d, e⟩, ⟨f, g, i⟩, l⟩ := h.at3
  exact .three (by simp [go_sem, *]) (by simp [go_sem, *]) (by simp [go_sem, *]) (by simp [go_sem, *]) (by simp [go_sem, *]) (by simp [go_sem, *]) (by simp [go_sem, *])
theorem BoxV.one {w : World} {b : Nat} {x : Value} (h1 : w.cell? ⟨b, 0, none⟩ = some x) (f1 : w.frozen? ⟨b, 0, none⟩ = false) (h5 : b < w.heap.size) : BoxV w b [x] := by
  refine ⟨fun j u hj => ?_, fun j hj => ?_, h5⟩
  · match j, hj with
    | 0, hj => simp at hj; subst hj; exact h1
  · match j, hj with
    | 0, _ => exact f1
theorem BoxV.at1 {w : World} {b : Nat} {x : Value} (h : BoxV w b [x]) : w.cell? ⟨b, 0, none⟩ = some x ∧ w.frozen? ⟨b, 0, none⟩ = false ∧ b < w.heap.size :=
  ⟨h.cell 0 x rfl, h.free 0 (by simp), h.lt⟩

/-- what is left behind a count, or -1 -/
def szL (l n : Int) : Int := if l - n < 0 then -1 else l - n
theorem szL_no {l n : Int} (h : l - n < 0) : szL l n = -1 := by simp [szL, h]
theorem szL_yes {l n : Int} (h : ¬ l - n < 0) : szL l n = l - n := by simp [szL, h]

end Go.Proofs.YtcbifdfcllaaaaaGreatDoor
