/- Contracts of the two tests that two shapes are the same. -/
import Derived.Test.YtbhgjkfpgdgkfaaPts2
namespace Go.Proofs.Ytbhgjkfpgdgkfaa
open Go.RowKit

set_option maxHeartbeats 400000 in
theorem c_specSameShape (lo hi lo' hi' : Nat) (v u : Value) (xs ys : List (Int × Int)) (w : World) (h : Rd w lo hi 2 v xs.length (xs.flatMap ptCells)) (h' : Rd w lo' hi' 2 u ys.length (ys.flatMap ptCells)) :
    Calls Try.prog 30 #[v, u] w fun e w' => e = .returned (.bool (eqL xs ys)) ∧ New w w' := by
  have HR := Lib.hid h
  have HS := Lib.hid h'
  obtain ⟨_, _, _, A, c, rfl, _⟩ := h
  obtain ⟨_, _, _, A', c', rfl, _⟩ := h'
  go_enter Try.func30, Try.ntmps30
  go_wp2_with (go_at_call 66; refine (c_l04Same _ _ _ _ _ _ xs ys _ HR.out HS.out).mono ?_; rintro e w1 ⟨rfl, n1⟩)
  go_ret
  exact ⟨rfl, n1⟩

set_option maxHeartbeats 400000 in
theorem c_implSameShape (lo hi lo' hi' : Nat) (v u : Value) (xs ys : List (Int × Int)) (w : World) (h : Rd w lo hi 2 v xs.length (xs.flatMap ptCells)) (h' : Rd w lo' hi' 2 u ys.length (ys.flatMap ptCells)) :
    Calls Try.prog 32 #[v, u] w fun e w' => e = .returned (.bool (eqL xs ys)) ∧ New w w' := by
  have HR := Lib.hid h
  have HS := Lib.hid h'
  obtain ⟨_, _, _, A, c, rfl, _⟩ := h
  obtain ⟨_, _, _, A', c', rfl, _⟩ := h'
  go_enter Try.func32, Try.ntmps32
  go_wp2_with (go_at_call 68; refine (c_equal_point _ _ _ _ _ _ xs ys _ HR.out HS.out).mono ?_; rintro e w1 ⟨rfl, n1⟩)
  go_ret
  exact ⟨rfl, n1⟩

end Go.Proofs.Ytbhgjkfpgdgkfaa
