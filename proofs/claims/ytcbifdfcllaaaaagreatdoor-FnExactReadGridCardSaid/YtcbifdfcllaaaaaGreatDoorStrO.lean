/- Rows of strings that a call owns; bytes of a string: plain words. -/
import Derived.Test.YtcbifdfcllaaaaaGreatDoorNum
namespace Go.Proofs.YtcbifdfcllaaaaaGreatDoor
open Go.RowKit Go.Deep
set_option linter.unusedVariables false

theorem list_at (s : ByteArray) {k : Nat} (h : k < s.size) : s.data.toList[k]? = some s[k] := by
  have h' : k < s.data.size := h
  rw [Array.getElem?_toList, Array.getElem?_eq_getElem h']
  rfl
theorem own_sl {w : World} {base : Nat} {e : TypeId} {v : Value} {n : Nat} {xs : List Value} (h : w.ownsRow base e 1 v n xs) : ∃ A c, v = .slice A n c := by
  obtain ⟨_, _, _, A, c, rfl, _⟩ := (Own.of h).rd
  exact ⟨A, c, rfl⟩
theorem info_Str : (Tryz.prog.info? 9).map (fun i => (i.zero, i.size, i.bytes)) = some (some (.string ⟨#[]⟩), 1, 16) := by kernel_rfl
theorem row_Str : ElemRow Tryz.prog 46 9 1 16 := elemRow Tryz.underlying46 info_Str rfl (by omega)
end Go.Proofs.YtcbifdfcllaaaaaGreatDoor
