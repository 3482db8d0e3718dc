/- Contracts of the two comparisons of sets. -/
import Derived.Test.YtcbifdfcllaaaaaGreatDoorSet
import Derived.Test.YtcbifdfcllaaaaaGreatDoorFind
namespace Go.Proofs.YtcbifdfcllaaaaaGreatDoor
open Go.RowKit Go.Deep
set_option linter.unusedVariables false
set_option linter.unusedSimpArgs false

abbrev RdI (w : World) (lo hi : Nat) (v : Value) (zs : List Int) : Prop := Rd w lo hi 1 v zs.length (zs.map (Value.int .i64))
/-- an integer in a list that is read -/
theorem rd_i {w wr : World} {lo hi : Nat} {v : Value} {zs : List Int} (h : RdI w lo hi v zs) (n : New w wr) {b off c : Nat} (hv : v = .slice (some ⟨b, off, none⟩) zs.length c) {k : Nat} (hk : k < zs.length) :
    wr.cell? ⟨b, off + k, none⟩ = some (.int .i64 zs[k]) ∧ b < wr.heap.size := rd_cell h n hv (by omega) (by simp [hk])









end Go.Proofs.YtcbifdfcllaaaaaGreatDoor
