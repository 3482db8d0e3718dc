/- Contracts of the functions that compare slices of points. -/
import Derived.Test.YtcbifdfcllaaaaaGreatDoorPts
import Derived.Test.YtcbifdfcllaaaaaGreatDoorInts
import Derived.Deep.DeepCutAuto
namespace Go.Proofs.YtcbifdfcllaaaaaGreatDoor
open Go.RowKit
set_option linter.unusedVariables false

set_option maxHeartbeats 400000 in
theorem c_eqPoint (p q : Int × Int) (w : World) : Calls Tryz.prog 83 #[.agg #[.int .i64 p.1, .int .i64 p.2], .agg #[.int .i64 q.1, .int .i64 q.2]] w fun e w' => e = .returned (.bool (decide (p = q))) ∧ New w w' := by
  by_cases h0 : p.1 = q.1
  · by_cases h1 : p.2 = q.2
    · have E := Lib.hid (show decide (p = q) = true from decide_eq_true (Prod.ext h0 h1))
      have g0 : (p.1 != q.1) = false := by simpa using h0
      have g1 : (p.2 != q.2) = false := by simpa using h1
      have k0 : (p.1 == q.1) = true := by simpa using h0
      have k1 : (p.2 == q.2) = true := by simpa using h1
      clear h0 h1
      go_enter Tryz.func83, Tryz.ntmps83
      go_wp2
      go_ret
      exact ⟨ret_bool E.out.symm, by go_grown⟩
    · have E := Lib.hid (show decide (p = q) = false from decide_eq_false (fun e => h1 (by rw [e])))
      have g0 : (p.1 != q.1) = false := by simpa using h0
      have g1 : (p.2 != q.2) = true := by simpa using h1
      have k0 : (p.1 == q.1) = true := by simpa using h0
      have k1 : (p.2 == q.2) = false := by simpa using h1
      clear h0 h1
      go_enter Tryz.func83, Tryz.ntmps83
      go_wp2
      go_ret
      exact ⟨ret_bool E.out.symm, by go_grown⟩
  · have E := Lib.hid (show decide (p = q) = false from decide_eq_false (fun e => h0 (by rw [e])))
    have g0 : (p.1 != q.1) = true := by simpa using h0
    have k0 : (p.1 == q.1) = false := by simpa using h0
    clear h0
    go_enter Tryz.func83, Tryz.ntmps83
    go_wp2
    go_ret
    exact ⟨ret_bool E.out.symm, by go_grown⟩




end Go.Proofs.YtcbifdfcllaaaaaGreatDoor
