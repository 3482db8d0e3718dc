/- Contracts of the functions that mark the elements of a slice of Placed and look for the marks. -/
import Derived.Test.YtfnihmmkbnkmnaaDoorMarks
namespace Go.Proofs.YtfnihmmkbnkmnaaDoor
open Go.RowKit
set_option linter.unusedVariables false

theorem mark3_step {w : World} {base g n c : Nat} {e : TypeId} {m q : Int} {k : Nat} (h : Fill w base e 3 g n c ((marks m (k * 3)).map (Value.int .i64))) (hk : k < n) (hq : q = m + ((k * 3 : Nat) : Int)) :
    Fill (((w.setCell ⟨g, k * 3, none⟩ (.int .i64 (q))).setCell ⟨g, k * 3 + 1, none⟩ (.int .i64 (q + 1))).setCell ⟨g, k * 3 + 2, none⟩ (.int .i64 (q + 1 + 1))) base e 3 g n c ((marks m ((k + 1) * 3)).map (Value.int .i64)) := by
  subst hq
  have l0 : ((marks m (k * 3)).map (Value.int .i64)).length = k * 3 := by simp [marks_len]
  have h1 := h.put (by omega) (.int .i64 (m + ((k * 3 : Nat) : Int)))
  rw [l0, ← mark_map_succ] at h1
  have l1 : ((marks m (k * 3 + 1)).map (Value.int .i64)).length = k * 3 + 1 := by simp [marks_len]
  have h2 := h1.put (by omega) (.int .i64 (m + ((k * 3 + 1 : Nat) : Int)))
  rw [l1, ← mark_map_succ] at h2
  have l2 : ((marks m (k * 3 + 1 + 1)).map (Value.int .i64)).length = k * 3 + 2 := by simp [marks_len]
  have h3 := h2.put (by omega) (.int .i64 (m + ((k * 3 + 2 : Nat) : Int)))
  rw [l2, ← mark_map_succ] at h3
  have e1 : m + ((k * 3 : Nat) : Int) + 1 = m + ((k * 3 + 1 : Nat) : Int) := by omega
  have e2 : m + ((k * 3 : Nat) : Int) + 1 + 1 = m + ((k * 3 + 2 : Nat) : Int) := by omega
  rw [e2, e1]
  rw [show (k + 1) * 3 = k * 3 + 1 + 1 + 1 by omega]
  exact h3



end Go.Proofs.YtfnihmmkbnkmnaaDoor
