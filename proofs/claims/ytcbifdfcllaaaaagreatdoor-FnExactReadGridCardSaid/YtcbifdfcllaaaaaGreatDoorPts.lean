/- Contracts of the laws' own helpers on slices of points: copying, comparing, marking. -/
import Derived.Test.YtcbifdfcllaaaaaGreatDoorPt
import Derived.Test.YtcbifdfcllaaaaaGreatDoorOpen
namespace Go.Proofs.YtcbifdfcllaaaaaGreatDoor
open Go.RowKit
set_option linter.unusedVariables false

theorem info_point : (Tryz.prog.info? 81).map (fun i => (i.zero, i.size, i.bytes)) = some (some (.agg #[.int .i64 0, .int .i64 0]), 2, 16) := by kernel_rfl

theorem pts_len (zs : List (Int × Int)) : (zs.flatMap ptCells).length = zs.length * 2 := flat_len ptCells 2 (fun _ => rfl) zs
theorem pts_get0 {zs : List (Int × Int)} {k : Nat} (hk : k < zs.length) : (zs.flatMap ptCells)[k * 2]? = some (.int .i64 zs[k].1) := by
  have := flat_get ptCells 2 (fun _ => rfl) zs k 0 hk (by omega)
  simpa [ptCells] using this
theorem pts_get1 {zs : List (Int × Int)} {k : Nat} (hk : k < zs.length) : (zs.flatMap ptCells)[k * 2 + 1]? = some (.int .i64 zs[k].2) := by
  have := flat_get ptCells 2 (fun _ => rfl) zs k 1 hk (by omega)
  simpa [ptCells] using this
theorem pts_succ {zs : List (Int × Int)} {k : Nat} (hk : k < zs.length) : (zs.take (k + 1)).flatMap ptCells = (zs.take k).flatMap ptCells ++ [.int .i64 zs[k].1, .int .i64 zs[k].2] := by
  rw [List.take_succ_eq_append_getElem hk, List.flatMap_append]
  simp [ptCells]

theorem fillp_step {w : World} {base g : Nat} {e : TypeId} {zs : List (Int × Int)} {k : Nat} (h : Fill w base e 2 g zs.length zs.length ((zs.take k).flatMap ptCells)) (hk : k < zs.length) :
    Fill ((w.setCell ⟨g, k * 2, none⟩ (.int .i64 zs[k].1)).setCell ⟨g, k * 2 + 1, none⟩ (.int .i64 zs[k].2)) base e 2 g zs.length zs.length ((zs.take (k + 1)).flatMap ptCells) := by
  have hl : ((zs.take k).flatMap ptCells).length = k * 2 := by rw [pts_len]; simp; omega
  have h1 := h.put (by omega) (.int .i64 zs[k].1)
  have hl1 : ((zs.take k).flatMap ptCells ++ [Value.int .i64 zs[k].1]).length = k * 2 + 1 := by simp [hl]
  have h2 := h1.put (by omega) (.int .i64 zs[k].2)
  rw [hl1, hl] at h2
  rw [pts_succ hk]
  simpa using h2

theorem fillp_end {w w' : World} {e : TypeId} {zs : List (Int × Int)} (h : Fill w' w.heap.size e 2 w.heap.size zs.length zs.length ((zs.take zs.length).flatMap ptCells)) :
    Own w' w.heap.size w'.heap.size e 2 (.slice (some ⟨w.heap.size, 0, none⟩) zs.length zs.length) zs.length (zs.flatMap ptCells) := by
  rw [List.take_length] at h
  exact Own.of (h.done (by rw [pts_len]))



end Go.Proofs.YtcbifdfcllaaaaaGreatDoor
