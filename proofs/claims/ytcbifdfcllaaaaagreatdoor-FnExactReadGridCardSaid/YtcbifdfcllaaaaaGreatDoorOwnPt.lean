/- Rows of points that the call owns: reading and writing an element; what becomes of blocks beside the row. -/
import Derived.Test.YtcbifdfcllaaaaaGreatDoorKeep
import Derived.Deep.AppendLies
namespace Go.Proofs.YtcbifdfcllaaaaaGreatDoor
open Go.RowKit Go.Deep
set_option linter.unusedVariables false

theorem pts_set (ys : List (Int × Int)) (i : Nat) (q : Int × Int) : ((ys.flatMap ptCells).set (i * 2) (.int .i64 q.1)).set (i * 2 + 1) (.int .i64 q.2) = (ys.set i q).flatMap ptCells := by
  induction ys generalizing i with
  | nil => simp
  | cons y r ih =>
    cases i with
    | zero => simp [ptCells]
    | succ i =>
      have e : (i + 1) * 2 = i * 2 + 1 + 1 := by omega
      rw [e]
      simp only [List.flatMap_cons, ptCells, List.cons_append, List.nil_append, List.set_cons_succ]
      rw [ih i]
theorem own_at {w : World} {base g n c : Nat} {e : TypeId} {ys : List (Int × Int)} (h : w.ownsRow base e 2 (.slice (some ⟨g, 0, none⟩) n c) n (ys.flatMap ptCells)) (i : Nat) (hi : i < ys.length) :
    (w.cell? ⟨g, i * 2, none⟩ = some (.int .i64 ys[i].1) ∧ w.cell? ⟨g, i * 2 + 1, none⟩ = some (.int .i64 ys[i].2)) ∧ (w.frozen? ⟨g, i * 2, none⟩ = false ∧ w.frozen? ⟨g, i * 2 + 1, none⟩ = false) ∧ g < w.heap.size ∧ base ≤ g := by
  have hl := h.1
  rw [pts_len] at hl
  refine ⟨⟨?_, ?_⟩, ⟨h.frozenAt _, h.frozenAt _⟩, (h.lt g rfl).2, (h.lt g rfl).1⟩
  · rw [h.cellAt _ (by omega)]; exact pts_get0 hi
  · rw [h.cellAt _ (by omega)]; exact pts_get1 hi
theorem own_put {w : World} {base g n c : Nat} {e : TypeId} {ys : List (Int × Int)} (h : w.ownsRow base e 2 (.slice (some ⟨g, 0, none⟩) n c) n (ys.flatMap ptCells)) (i : Nat) (q : Int × Int) :
    ((w.setCell ⟨g, i * 2, none⟩ (.int .i64 q.1)).setCell ⟨g, i * 2 + 1, none⟩ (.int .i64 q.2)).ownsRow base e 2 (.slice (some ⟨g, 0, none⟩) n c) n ((ys.set i q).flatMap ptCells) := by
  rw [← pts_set]
  exact ((h.stored (i * 2) _).1.stored (i * 2 + 1) _).1
/-- the form of a row that is not empty -/
theorem own_form {w : World} {base C n : Nat} {e : TypeId} {v : Value} {xs : List Value} (h : w.ownsRow base e C v n xs) (hn : 0 < n) : ∃ g c, v = .slice (some ⟨g, 0, none⟩) n c := by
  rcases h.2 with ⟨_, h0⟩ | ⟨g, c, _, rfl, _⟩
  · omega
  · exact ⟨g, c, rfl⟩
/-- a row as a slice value -/
theorem own_slc {w : World} {base C n : Nat} {e : TypeId} {v : Value} {xs : List Value} (h : w.ownsRow base e C v n xs) : ∃ A c, v = .slice A n c := by
  rcases h.2 with ⟨rfl, rfl⟩ | ⟨g, c, _, rfl, _⟩
  · exact ⟨_, _, rfl⟩
  · exact ⟨_, _, rfl⟩
/-- a block beside the row that grew -/
theorem BoxV.grown {w w' : World} {b : Nat} {cs : List Value} {row : Option Nat} (h : BoxV w b cs) (hg : w.grownBy w' row) (hne : some b ≠ row) : BoxV w' b cs :=
  ⟨fun j u hj => (hg.cell_far ⟨b, j, none⟩ h.lt hne).trans (h.cell j u hj), fun j hj => (hg.frozen_far ⟨b, j, none⟩ h.lt hne).trans (h.free j hj), Nat.lt_of_lt_of_le h.lt hg.size⟩
theorem ownsRow_pts_len {w : World} {base n : Nat} {e : TypeId} {v : Value} {ys : List (Int × Int)} (h : w.ownsRow base e 2 v n (ys.flatMap ptCells)) : ys.length = n := by
  have := h.1
  rw [pts_len] at this
  omega

end Go.Proofs.YtcbifdfcllaaaaaGreatDoor
