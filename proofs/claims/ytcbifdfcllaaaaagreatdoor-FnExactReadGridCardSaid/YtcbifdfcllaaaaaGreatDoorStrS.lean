/- Contracts of the laws' own helpers on rows of strings: comparing, marking, looking for the marks. -/
import Derived.Test.YtcbifdfcllaaaaaGreatDoorMarkText
import Derived.Test.YtcbifdfcllaaaaaGreatDoorInts
namespace Go.Proofs.YtcbifdfcllaaaaaGreatDoor
open Go.RowKit Go.Deep
set_option linter.unusedVariables false
set_option linter.unusedSimpArgs false

/-- the marks from m on, as strings -/
def mkS (m n : Nat) : List ByteArray := (List.range n).map fun k => mtS (m + k)
theorem mkS_len (m n : Nat) : (mkS m n).length = n := by simp [mkS]
theorem mkS_succ (m n : Nat) : mkS m (n + 1) = mkS m n ++ [mtS (m + n)] := by simp [mkS, List.range_succ]
theorem mkS_get (m n k : Nat) (h : k < n) : ((mkS m n).map Value.string)[k]? = some (.string (mtS (m + k))) := by simp [mkS, h]
theorem markS_step {w : World} {base g n c : Nat} {e : TypeId} {m k : Nat} (h : Fill w base e 1 g n c ((mkS m k).map Value.string)) (hk : k < n) :
    Fill (w.setCell ⟨g, k, none⟩ (.string (mtS (m + k)))) base e 1 g n c ((mkS m (k + 1)).map Value.string) := by
  have hl : ((mkS m k).map Value.string).length = k := by simp [mkS_len]
  have := h.put (by omega) (.string (mtS (m + k)))
  rw [hl] at this
  rw [mkS_succ, List.map_append]
  exact this



end Go.Proofs.YtcbifdfcllaaaaaGreatDoor
