/- Contracts of the two functions that divide and round down. -/
import Derived.Test.YthafdlfhkcbjhaaUnP
namespace Go.Proofs.Ythafdlfhkcbjhaa
open Go.RowKit Go.Deep
set_option linter.unusedVariables false
set_option linter.unusedSimpArgs false

set_option maxHeartbeats 1000000 in
theorem c_l04Down (a k : Int) (w : World) (h1 : -60 ≤ a) (h2 : a ≤ 60) (k1 : 1 ≤ k) (k2 : k ≤ 60) : Calls Try.prog 53 #[.int .i64 a, .int .i64 k] w fun e w' => e = .returned (.int .i64 (a / k)) ∧ w = w' := by
  have hk0 : k ≠ 0 := by omega
  have z1 : (k == 0) = false := by simp; omega
  have d2 : decide (k < 0) = false := by simp; omega
  have Q : -60 ≤ a / k ∧ a / k ≤ 60 := fd_bd h1 h2 k1
  obtain ⟨q1, q2⟩ := Q
  by_cases hr : Int.tmod a k = 0
  · have HE := Lib.hid (down_no hr)
    have E1 : IntKind.i64.wrap (Int.tdiv a k) = a / k := by rw [HE.out]; exact IntWalk.i64_in _ (by omega)
    have t1 : (Int.tmod a k == 0) = true := by simp [hr]
    go_enter Try.func53, Try.ntmps53
    go_wp2
    go_ret
    exact ⟨rfl, rfl⟩
  · have t1 : (Int.tmod a k == 0) = false := by simp [hr]
    by_cases h0 : a < 0
    · have HE := Lib.hid (down_yes h0 k1 hr)
      have E1 : IntKind.i64.wrap (Int.tdiv a k) = Int.tdiv a k := IntWalk.i64_in _ (by have := HE.out; omega)
      have E2 : IntKind.i64.wrap (Int.tdiv a k - 1) = a / k := by rw [HE.out]; exact IntWalk.i64_in _ (by omega)
      have d1 : decide (a < 0) = true := by simp; omega
      go_enter Try.func53, Try.ntmps53
      go_wp2
      go_ret
      exact ⟨rfl, rfl⟩
    · have HE := Lib.hid (down_pos (k := k) (show 0 ≤ a by omega))
      have E1 : IntKind.i64.wrap (Int.tdiv a k) = a / k := by rw [HE.out]; exact IntWalk.i64_in _ (by omega)
      have d1 : decide (a < 0) = false := by simp; omega
      have t2 : (a % k != 0) = true := by
        have : Int.tmod a k = a % k := Int.tmod_eq_emod_of_nonneg (by omega)
        rw [← this]; simp [hr]
      go_enter Try.func53, Try.ntmps53
      go_wp2
      all_goals (go_ret; exact ⟨rfl, rfl⟩)
set_option maxHeartbeats 1000000 in
theorem c_floorDiv (a k : Int) (w : World) (h1 : -60 ≤ a) (h2 : a ≤ 60) (k1 : 1 ≤ k) (k2 : k ≤ 60) : Calls Try.prog 59 #[.int .i64 a, .int .i64 k] w fun e w' => e = .returned (.int .i64 (a / k)) ∧ w = w' := by
  have hk0 : k ≠ 0 := by omega
  have z1 : (k == 0) = false := by simp; omega
  obtain ⟨q1, q2⟩ := (fd_bd h1 h2 k1 : -60 ≤ a / k ∧ a / k ≤ 60)
  by_cases h0 : a < 0
  · have HN := Lib.hid (fdiv_neg (a := a) k1)
    have HD := Lib.hid (down_pos (k := k) (show 0 ≤ -a + k - 1 by omega))
    have E0 : IntKind.i64.wrap (-a) = -a := IntWalk.i64_in _ (by omega)
    have E1 : IntKind.i64.wrap (Int.tdiv (-a + k - 1) k) = (-a + k - 1) / k := by rw [HD.out]; exact IntWalk.i64_in _ (by have := HN.out; omega)
    have E2 : IntKind.i64.wrap (-((-a + k - 1) / k)) = a / k := by rw [HN.out]; exact IntWalk.i64_in _ (by omega)
    go_enter Try.func59, Try.ntmps59
    go_wp2
    go_ret
    exact ⟨rfl, rfl⟩
  · have HE := Lib.hid (down_pos (k := k) (show 0 ≤ a by omega))
    have E1 : IntKind.i64.wrap (Int.tdiv a k) = a / k := by rw [HE.out]; exact IntWalk.i64_in _ (by omega)
    go_enter Try.func59, Try.ntmps59
    go_wp2
    go_ret
    exact ⟨rfl, rfl⟩
end Go.Proofs.Ythafdlfhkcbjhaa
