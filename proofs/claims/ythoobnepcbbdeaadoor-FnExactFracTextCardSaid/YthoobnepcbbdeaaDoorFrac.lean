/- Contracts of the functions on fractions. -/
import Derived.Test.YthoobnepcbbdeaaDoorNum
import Derived.Test.YthoobnepcbbdeaaDoorGcd
import Derived.StillTailTactics
namespace Go.Proofs.YthoobnepcbbdeaaDoor
open Go.RowKit

theorem w_of {P : Program} {f : FuncId} {args : Array Value} {w : World} {v : Value} (h : Calls P f args w fun e w' => e = .returned v ∧ w = w') : Calls P f args w fun e w' => e = .returned v ∧ w' = w :=
  h.mono fun _ _ ⟨h1, h2⟩ => ⟨h1, h2.symm⟩

set_option maxHeartbeats 1000000 in
theorem c_gcd (a b : Int) (w : World) (a1 : -4000000000000000000 ≤ a) (a2 : a ≤ 4000000000000000000) (b1 : -4000000000000000000 ≤ b) (b2 : b ≤ 4000000000000000000) :
    Calls Tryd.prog 35 #[.int .i64 a, .int .i64 b] w fun e w' => e = .returned (.int .i64 (gI a b)) ∧ New w w' := by
  go_enter Tryd.func35, Tryd.ntmps35
  go_wp2
  go_loopw [0, 1] (fun s t wr => ∃ x y : Int, s = .int .i64 x ∧ t = .int .i64 y ∧ (-4000000000000000000 ≤ x ∧ x ≤ 4000000000000000000) ∧ (-4000000000000000000 ≤ y ∧ y ≤ 4000000000000000000) ∧ Hid (gI x y = gI a b) ∧ New w wr) (fun _ t _ => (intOf t).natAbs)
  case atStart => exact ⟨a, b, rfl, rfl, ⟨a1, a2⟩, ⟨b1, b2⟩, Lib.hid rfl, New.same _⟩
  case round =>
    obtain ⟨x, y, rfl, rfl, ⟨x1, x2⟩, ⟨y1, y2⟩, HG, hN⟩ := hrel
    by_cases hy : y = 0
    · subst hy
      rcases Int.lt_or_le x 0 with hx | hx
      · have HX := Lib.hid (show -x = gI a b by rw [← HG.out, gI_zero]; omega)
        go_wp2
        go_ret
        exact ⟨ret_int HX.out, hN⟩
      · have HX := Lib.hid (show x = gI a b by rw [← HG.out, gI_zero]; omega)
        go_wp2
        go_ret
        exact ⟨ret_int HX.out, hN⟩
    · have hy1 : (y != 0) = true := by simpa using hy
      have hy2 : (y == 0) = false := by simpa using hy
      have HM := Lib.hid (tmod_bd (a := x) hy)
      obtain ⟨m1, m2⟩ := tmod_in (a := x) hy y1 y2
      have HS := Lib.hid ((gI_step x y).trans HG.out)
      go_wp2_with fail
      go_quiet (fail)
      go_wp2
      go_roundw
      case rel => exact ⟨y, x.tmod y, rfl, rfl, ⟨y1, y2⟩, ⟨m1, m2⟩, HS, hN.draws _⟩
      case measure => exact HM.out

set_option maxHeartbeats 400000 in
theorem c_l01Abs (a : Int) (w : World) (a1 : -4000000000000000000 ≤ a) (a2 : a ≤ 4000000000000000000) :
    Calls Tryd.prog 34 #[.int .i64 a] w fun e w' => e = .returned (.int .i64 (a.natAbs : Int)) ∧ w = w' := by
  rcases Int.lt_or_le a 0 with h | h
  · have HX := Lib.hid (show -a = (a.natAbs : Int) by omega)
    go_enter Tryd.func34, Tryd.ntmps34
    go_wp2
    go_ret
    exact ⟨ret_int HX.out, rfl⟩
  · have HX := Lib.hid (show a = (a.natAbs : Int) by omega)
    go_enter Tryd.func34, Tryd.ntmps34
    go_wp2
    go_ret
    exact ⟨ret_int HX.out, rfl⟩

set_option maxHeartbeats 1000000 in
theorem c_l01Gcd (a b : Int) (w : World) (a1 : 0 ≤ a) (a2 : a ≤ 4000000000000000000) (b1 : 0 ≤ b) (b2 : b ≤ 4000000000000000000) :
    Calls Tryd.prog 33 #[.int .i64 a, .int .i64 b] w fun e w' => e = .returned (.int .i64 (gI a b)) ∧ w = w' := by
  go_enter Tryd.func33, Tryd.ntmps33
  go_wp2
  go_loop [0, 1, 5] (fun s t _ => ∃ x y : Int, s = .int .i64 x ∧ t = .int .i64 y ∧ (0 ≤ x ∧ x ≤ 4000000000000000000) ∧ (0 ≤ y ∧ y ≤ 4000000000000000000) ∧ Hid (gI x y = gI a b)) (fun _ t _ => (intOf t).toNat)
  case atStart => exact ⟨a, b, rfl, rfl, ⟨a1, a2⟩, ⟨b1, b2⟩, Lib.hid rfl⟩
  case round =>
    obtain ⟨x, y, rfl, rfl, ⟨x1, x2⟩, ⟨y1, y2⟩, HG⟩ := hrel
    by_cases hy : y = 0
    · subst hy
      have HX := Lib.hid (show x = gI a b by rw [← HG.out, gI_zero]; omega)
      go_wp2
      go_ret
      exact ⟨ret_int HX.out, rfl⟩
    · have hy1 : 0 < y := by omega
      have m1 := Int.emod_nonneg x hy
      have m2 := Int.emod_lt_of_pos x hy1
      have HS := Lib.hid ((gI_step' x1).trans HG.out)
      go_wp2
      go_round
      case rel => exact ⟨y, x % y, rfl, rfl, ⟨y1, y2⟩, by omega, HS⟩
      case measure => simp [intOf]; omega

/-- a valid fraction -/
def vfB (n d : Int) : Bool := inB n (-1000000000) 1000000000 && inB d 1 1000000000 && decide (gI n d = 1)
theorem vfB_iff {n d : Int} : vfB n d = true ↔ ((-1000000000 ≤ n ∧ n ≤ 1000000000) ∧ 1 ≤ d ∧ d ≤ 1000000000) ∧ gI n d = 1 := by
  simp [vfB, inB_iff]

set_option maxHeartbeats 1000000 in
theorem c_implValidFrac (n d : Int) (w : World) : Calls Tryd.prog 25 #[.agg #[.int .i64 n, .int .i64 d]] w fun e w' => e = .returned (.bool (vfB n d)) ∧ New w w' := by
  cases h1 : inB n (-1000000000) 1000000000
  · have HV := Lib.hid (show vfB n d = false by simp [vfB, h1])
    go_enter Tryd.func25, Tryd.ntmps25
    go_wp2_with (go_at_call 29; refine (c_within _ _ _ _).mono ?_; rintro e w' ⟨rfl, rfl⟩)
    go_ret
    exact ⟨ret_bool HV.out.symm, (New.same _).box _⟩
  · cases h2 : inB d 1 1000000000
    · have HV := Lib.hid (show vfB n d = false by simp [vfB, h2])
      go_enter Tryd.func25, Tryd.ntmps25
      go_wp2_with (go_at_call 29; refine (c_within _ _ _ _).mono ?_; rintro e w' ⟨rfl, rfl⟩)
      go_ret
      exact ⟨ret_bool HV.out.symm, (New.same _).box _⟩
    · have HV := Lib.hid (show vfB n d = (gI n d == 1) by simp [vfB, h1, h2]; rfl)
      obtain ⟨b1, b2⟩ := inB_iff.1 h1
      obtain ⟨b3, b4⟩ := inB_iff.1 h2
      go_enter Tryd.func25, Tryd.ntmps25
      go_wp2_with (first | (go_at_call 29; refine (c_within _ _ _ _).mono ?_; rintro e w' ⟨rfl, rfl⟩) | (go_at_call 35; refine (c_gcd n d _ (by omega) (by omega) (by omega) (by omega)).mono ?_; rintro e w1 ⟨rfl, n1⟩))
      go_ret
      exact ⟨ret_bool HV.out.symm, ((New.same _).box _).step n1⟩

set_option maxHeartbeats 1000000 in
theorem c_l01Frac (n d : Int) (w : World) : Calls Tryd.prog 24 #[.agg #[.int .i64 n, .int .i64 d]] w fun e w' => e = .returned (.bool (vfB n d)) ∧ New w w' := by
  cases h1 : inB n (-1000000000) 1000000000
  · have HV := Lib.hid (show vfB n d = false by simp [vfB, h1])
    go_enter Tryd.func24, Tryd.ntmps24
    go_wp2_with fail
    go_quiet ((go_at_call 27; refine Calls.quiet_of_same (w_of (c_l00In _ _ _ _))))
    go_wp2
    go_ret
    exact ⟨ret_bool HV.out.symm, ((New.same _).box _).draws _⟩
  · cases h2 : inB d 1 1000000000
    · have HV := Lib.hid (show vfB n d = false by simp [vfB, h2])
      go_enter Tryd.func24, Tryd.ntmps24
      go_wp2_with fail
      go_quiet ((go_at_call 27; refine Calls.quiet_of_same (w_of (c_l00In _ _ _ _))))
      go_wp2
      go_ret
      exact ⟨ret_bool HV.out.symm, ((New.same _).box _).draws _⟩
    · have HV := Lib.hid (show vfB n d = (gI n d == 1) by simp [vfB, h1, h2]; rfl)
      obtain ⟨b1, b2⟩ := inB_iff.1 h1
      obtain ⟨b3, b4⟩ := inB_iff.1 h2
      have e1 : gI (n.natAbs : Int) d = gI n d := gI_abs n d
      go_enter Tryd.func24, Tryd.ntmps24
      go_wp2_with fail
      go_quiet ((first | (go_at_call 27; exact Calls.quiet_of_same (w_of (c_l00In _ _ _ _))) | (go_at_call 34; exact Calls.quiet_of_same (w_of (c_l01Abs n _ (by omega) (by omega)))) | (go_at_call 33; exact Calls.quiet_of_same (w_of (c_l01Gcd _ _ _ (by omega) (by omega) (by omega) (by omega))))))
      go_wp2
      go_ret
      exact ⟨ret_bool HV.out.symm, ((New.same _).box _).draws _⟩

end Go.Proofs.YthoobnepcbbdeaaDoor
