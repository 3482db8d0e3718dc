/- Rows of numbers in ascending order, as the laws' own marks. -/
import Derived.Test.YtcbifdfcllaaaaaGreatDoorInts
namespace Go.Proofs.YtcbifdfcllaaaaaGreatDoor
open Go.RowKit

theorem mark_map_succ (m : Int) (n : Nat) : (marks m (n + 1)).map (Value.int .i64) = (marks m n).map (Value.int .i64) ++ [.int .i64 (m + (n : Int))] := by simp [marks_succ]
theorem mark_get_map {m q : Int} {n k : Nat} (h : k < n) (hq : q = m + (k : Int)) : ((marks m n).map (Value.int .i64))[k]? = some (.int .i64 q) := by
  subst hq
  simp [marks_get m n k h]

/-- A call marks a row of elements of C cells: it hands back the next number; the row holds the numbers; nothing else has turned. -/
def MarkedC (w : World) (lo hi : Nat) (e : TypeId) (v : Value) (m : Int) (n C : Nat) (E : Ending) (w' : World) : Prop :=
  E = .returned (.int .i64 (m + ((n * C : Nat) : Int))) ∧ Own w' lo hi e C v n ((marks m (n * C)).map (Value.int .i64)) ∧ Fr lo hi w w'

theorem mark_endC {w w' : World} {lo hi g n c C : Nat} {e : TypeId} {m : Int} (h : Fill w' lo e C g n c ((marks m (n * C)).map (Value.int .i64))) (hh : hi ≤ w.heap.size) (hn : Fr lo hi w w') (hg : g < hi) :
    Own w' lo hi e C (.slice (some ⟨g, 0, none⟩) n c) n ((marks m (n * C)).map (Value.int .i64)) :=
  ⟨h.done (by simp [marks_len]), Nat.le_trans hh hn.size, fun g' hg' => by simp [Value.ownBlock] at hg'; omega⟩

end Go.Proofs.YtcbifdfcllaaaaaGreatDoor
