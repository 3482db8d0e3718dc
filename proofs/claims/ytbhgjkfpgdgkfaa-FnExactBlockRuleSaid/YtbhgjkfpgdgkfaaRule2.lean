/- Contract of the specification's test of a rule. -/
import Derived.Test.YtbhgjkfpgdgkfaaRule
namespace Go.Proofs.Ytbhgjkfpgdgkfaa
open Go.RowKit
set_option linter.unusedVariables false

theorem w_of {P : Program} {f : FuncId} {args : Array Value} {w : World} {v : Value} (h : Calls P f args w fun e w' => e = .returned v ∧ w = w') : Calls P f args w fun e w' => e = .returned v ∧ w' = w :=
  h.mono fun _ _ ⟨h1, h2⟩ => ⟨h1, h2.symm⟩

set_option maxHeartbeats 2000000 in
theorem c_l16Rule (s : Int) (B : Nat) (lo hi : Nat) (v : Value) (zs : List Int) (w : World) (h : Rd w lo hi 1 v zs.length (zs.map (Value.int .i64))) (hB : BoxV w B [.int .i64 s, v]) :
    Calls Try.prog 72 #[.pointer (some ⟨B, 0, none⟩)] w fun e w' => e = .returned (.bool (rulB s zs)) ∧ New w w' := by
  obtain ⟨_, hm, hh, A, c, rfl, hrd⟩ := h
  have HBX := Lib.hid hB
  obtain ⟨⟨c1, d1⟩, -, z1⟩ := hB.at2
  clear hB
  cases h1 : inB s 1 5
  · have E := Lib.hid (show rulB s zs = false by simp [rulB, h1])
    go_enter Try.func72, Try.ntmps72
    go_wp2_with fail
    go_quiet ((go_at_call 58; exact Calls.quiet_of_same (w_of (c_l00In _ _ _ _))))
    go_wp2
    go_ret
    exact ⟨ret_bool E.out.symm, (New.same _).draws _⟩
  · obtain ⟨b1, b2⟩ := inB_iff.1 h1
    have P1 : 1 ≤ s * s ∧ s * s ≤ 25 := by
      have : s = 1 ∨ s = 2 ∨ s = 3 ∨ s = 4 ∨ s = 5 := by omega
      rcases this with rfl | rfl | rfl | rfl | rfl <;> simp
    have P2 : IntKind.i64.wrap (s * s) = s * s := IntWalk.i64_in _ (by omega)
    by_cases h2 : (zs.length : Int) = s * s
    · have E := Lib.hid (show rulB s zs = !(zs.any fun d => !inB d 0 (s - 1)) by simp [rulB, belB, h1, h2])
      have h2' : ((zs.length : Int) == s * s) = true := by simpa using h2
      have h2'' : ((zs.length : Int) != s * s) = false := by simpa using h2
      have E3 := Lib.hid (show IntKind.i64.wrap (s - 1) = s - 1 from IntWalk.i64_in _ (by omega))
      clear h2
      go_enter Try.func72, Try.ntmps72
      go_wp2_with fail
      go_quiet ((go_at_call 58; exact Calls.quiet_of_same (w_of (c_l00In _ _ _ _))))
      clear c1 d1
      go_wp2
      go_loopw [3] (fun i wr => ∃ k : Nat, k ≤ zs.length ∧ i = .int .i64 k ∧ Hid (∀ j (hj : j < zs.length), j < k → (!inB zs[j] 0 (s - 1)) = false) ∧ New w wr) (fun i _ => zs.length - (intOf i).toNat)
      case atStart => exact ⟨0, Nat.zero_le _, rfl, Lib.hid (fun j _ hj => absurd hj (Nat.not_lt_zero _)), (New.same _).draws _⟩
      case round =>
        obtain ⟨k, hk, rfl, HJ, hN⟩ := hrel
        obtain ⟨⟨c1, d1⟩, -, z1⟩ := (HBX.out.new hN).at2
        by_cases hlt : k < zs.length
        · obtain ⟨b, off, rfl, _, hb1, hc⟩ := hrd (by omega)
          have hx : wr.cell? ⟨b, off + k, none⟩ = some (.int .i64 zs[k]) := by
            rw [hN.cell (p := ⟨b, off + k, none⟩) (by simp; omega)]
            exact hc k _ (by simp [hlt])
          clear hc hrd
          have p0 : (0 : Int) ≤ (k : Int) := by omega
          have p1 : (k : Int) < (zs.length : Int) := by omega
          cases hp : inB zs[k] 0 (s - 1)
          · have HP := Lib.hid (any_hit (p := fun n => !inB n 0 (s - 1)) hlt (by simp [hp]))
            go_upto_region 6 with fail
            have e3 := E3.out
            go_quiet ((go_at_call 58; exact Calls.quiet_of_same (w_of (c_l00In _ _ _ _))))
            go_wp2
            go_ret
            exact ⟨ret_bool (by rw [E.out, HP.out]; rfl), hN.draws _⟩
          · have HP := Lib.hid hp
            go_upto_region 6 with fail
            have e3 := E3.out
            go_quiet ((go_at_call 58; exact Calls.quiet_of_same (w_of (c_l00In _ _ _ _))))
            clear e3
            go_wp2
            go_roundw
            case rel =>
              refine ⟨k + 1, by omega, by go_num, Lib.hid (fun j hj hjk => ?_), hN.draws _⟩
              by_cases e : j = k
              · subst e; rw [HP.out]; rfl
              · exact HJ.out j hj (by omega)
            case measure => simp [intOf]; omega
        · have hk' : k = zs.length := by omega
          subst hk'
          go_wp2
          go_ret
          exact ⟨ret_bool (by rw [E.out, any_miss (fun j hj => HJ.out j hj hj)]; rfl), hN⟩
    · have E := Lib.hid (show rulB s zs = false by simp [rulB, h2])
      have h2' : ((zs.length : Int) == s * s) = false := by simpa using h2
      have h2'' : ((zs.length : Int) != s * s) = true := by simpa using h2
      go_enter Try.func72, Try.ntmps72
      go_wp2_with fail
      go_quiet ((go_at_call 58; exact Calls.quiet_of_same (w_of (c_l00In _ _ _ _))))
      go_wp2
      go_ret
      exact ⟨ret_bool E.out.symm, (New.same _).draws _⟩

set_option maxHeartbeats 1000000 in
theorem c_specValidRule (s : Int) (lo hi : Nat) (v : Value) (zs : List Int) (w : World) (h : Rd w lo hi 1 v zs.length (zs.map (Value.int .i64))) :
    Calls Try.prog 39 #[.agg #[.int .i64 s, v]] w fun e w' => e = .returned (.bool (rulB s zs)) ∧ New w w' := by
  have HR := Lib.hid h
  obtain ⟨_, _, hh, A, c, rfl, _⟩ := h
  have n0 : New w (w.alloc (.cells #[.int .i64 s, .slice A zs.length c] 50)) := (New.same w).box _
  have B0 := Lib.hid (show BoxV (w.alloc (.cells #[.int .i64 s, .slice A zs.length c] 50)) w.heap.size [.int .i64 s, .slice A zs.length c] from .two (by go_simp) (by go_simp) (by go_simp) (by go_simp) (by simp))
  go_enter Try.func39, Try.ntmps39
  go_wp2_with (go_at_call 72; refine (c_l16Rule s _ lo hi _ zs _ (HR.out.new n0) B0.out).mono ?_; rintro e w1 ⟨rfl, n1⟩)
  go_ret
  exact ⟨rfl, n0.step n1⟩

end Go.Proofs.Ytbhgjkfpgdgkfaa
