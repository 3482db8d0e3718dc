/- The law FnExactCodeName returns true for every input that can be read as data. No condition. -/
import Derived.Test.YtcgnbmobemhkiaaNum
namespace Go.Proofs.Ytcgnbmobemhkiaa
open Go.ChangeShapes Go.WideShapes Go.ChangeAt Go.RowKit
namespace fnExactCodeName
set_option maxHeartbeats 4000000 in
theorem walk (w : World) (a0 : Int) (b0 : -9223372036854775808 ≤ a0 ∧ a0 ≤ 9223372036854775807) : Calls Try.prog 8 #[.int .i64 a0] w fun e w' => e = .returned (.bool true) ∧ New w w' := by
  rcases (show (a0 < 0 ∨ 10 < a0) ∨ a0 = 0 ∨ a0 = 1 ∨ a0 = 2 ∨ a0 = 3 ∨ a0 = 4 ∨ a0 = 5 ∨ a0 = 6 ∨ a0 = 7 ∨ a0 = 8 ∨ a0 = 9 ∨ a0 = 10 from by omega) with h | rfl | rfl | rfl | rfl | rfl | rfl | rfl | rfl | rfl | rfl | rfl
  · have hi : inB a0 0 10 = false := inB_no h
    clear h
    go_enter Try.func8, Try.ntmps8
    go_wp2_with (first | (go_at_call 42; refine (c_l00In _ _ _ _).mono ?_; rintro e w' ⟨rfl, rfl⟩) | (go_at_call 50; refine (c_isIndex _ _ _ (by omega) (by omega)).mono ?_; rintro e w' ⟨rfl, rfl⟩) | go_in)
    go_ret
    exact ⟨rfl, by go_grown⟩
  · have hi : inB 0 0 10 = true := inB_yes (by omega) (by omega)
    go_enter Try.func8, Try.ntmps8
    go_wp2_with (first | (go_at_call 42; refine (c_l00In _ _ _ _).mono ?_; rintro e w' ⟨rfl, rfl⟩) | (go_at_call 50; refine (c_isIndex _ _ _ (by omega) (by omega)).mono ?_; rintro e w' ⟨rfl, rfl⟩) | go_in)
    go_ret
    exact ⟨rfl, by go_grown⟩
  · have hi : inB 1 0 10 = true := inB_yes (by omega) (by omega)
    go_enter Try.func8, Try.ntmps8
    go_wp2_with (first | (go_at_call 42; refine (c_l00In _ _ _ _).mono ?_; rintro e w' ⟨rfl, rfl⟩) | (go_at_call 50; refine (c_isIndex _ _ _ (by omega) (by omega)).mono ?_; rintro e w' ⟨rfl, rfl⟩) | go_in)
    go_ret
    exact ⟨rfl, by go_grown⟩
  · have hi : inB 2 0 10 = true := inB_yes (by omega) (by omega)
    go_enter Try.func8, Try.ntmps8
    go_wp2_with (first | (go_at_call 42; refine (c_l00In _ _ _ _).mono ?_; rintro e w' ⟨rfl, rfl⟩) | (go_at_call 50; refine (c_isIndex _ _ _ (by omega) (by omega)).mono ?_; rintro e w' ⟨rfl, rfl⟩) | go_in)
    go_ret
    exact ⟨rfl, by go_grown⟩
  · have hi : inB 3 0 10 = true := inB_yes (by omega) (by omega)
    go_enter Try.func8, Try.ntmps8
    go_wp2_with (first | (go_at_call 42; refine (c_l00In _ _ _ _).mono ?_; rintro e w' ⟨rfl, rfl⟩) | (go_at_call 50; refine (c_isIndex _ _ _ (by omega) (by omega)).mono ?_; rintro e w' ⟨rfl, rfl⟩) | go_in)
    go_ret
    exact ⟨rfl, by go_grown⟩
  · have hi : inB 4 0 10 = true := inB_yes (by omega) (by omega)
    go_enter Try.func8, Try.ntmps8
    go_wp2_with (first | (go_at_call 42; refine (c_l00In _ _ _ _).mono ?_; rintro e w' ⟨rfl, rfl⟩) | (go_at_call 50; refine (c_isIndex _ _ _ (by omega) (by omega)).mono ?_; rintro e w' ⟨rfl, rfl⟩) | go_in)
    go_ret
    exact ⟨rfl, by go_grown⟩
  · have hi : inB 5 0 10 = true := inB_yes (by omega) (by omega)
    go_enter Try.func8, Try.ntmps8
    go_wp2_with (first | (go_at_call 42; refine (c_l00In _ _ _ _).mono ?_; rintro e w' ⟨rfl, rfl⟩) | (go_at_call 50; refine (c_isIndex _ _ _ (by omega) (by omega)).mono ?_; rintro e w' ⟨rfl, rfl⟩) | go_in)
    go_ret
    exact ⟨rfl, by go_grown⟩
  · have hi : inB 6 0 10 = true := inB_yes (by omega) (by omega)
    go_enter Try.func8, Try.ntmps8
    go_wp2_with (first | (go_at_call 42; refine (c_l00In _ _ _ _).mono ?_; rintro e w' ⟨rfl, rfl⟩) | (go_at_call 50; refine (c_isIndex _ _ _ (by omega) (by omega)).mono ?_; rintro e w' ⟨rfl, rfl⟩) | go_in)
    go_ret
    exact ⟨rfl, by go_grown⟩
  · have hi : inB 7 0 10 = true := inB_yes (by omega) (by omega)
    go_enter Try.func8, Try.ntmps8
    go_wp2_with (first | (go_at_call 42; refine (c_l00In _ _ _ _).mono ?_; rintro e w' ⟨rfl, rfl⟩) | (go_at_call 50; refine (c_isIndex _ _ _ (by omega) (by omega)).mono ?_; rintro e w' ⟨rfl, rfl⟩) | go_in)
    go_ret
    exact ⟨rfl, by go_grown⟩
  · have hi : inB 8 0 10 = true := inB_yes (by omega) (by omega)
    go_enter Try.func8, Try.ntmps8
    go_wp2_with (first | (go_at_call 42; refine (c_l00In _ _ _ _).mono ?_; rintro e w' ⟨rfl, rfl⟩) | (go_at_call 50; refine (c_isIndex _ _ _ (by omega) (by omega)).mono ?_; rintro e w' ⟨rfl, rfl⟩) | go_in)
    go_ret
    exact ⟨rfl, by go_grown⟩
  · have hi : inB 9 0 10 = true := inB_yes (by omega) (by omega)
    go_enter Try.func8, Try.ntmps8
    go_wp2_with (first | (go_at_call 42; refine (c_l00In _ _ _ _).mono ?_; rintro e w' ⟨rfl, rfl⟩) | (go_at_call 50; refine (c_isIndex _ _ _ (by omega) (by omega)).mono ?_; rintro e w' ⟨rfl, rfl⟩) | go_in)
    go_ret
    exact ⟨rfl, by go_grown⟩
  · have hi : inB 10 0 10 = true := inB_yes (by omega) (by omega)
    go_enter Try.func8, Try.ntmps8
    go_wp2_with (first | (go_at_call 42; refine (c_l00In _ _ _ _).mono ?_; rintro e w' ⟨rfl, rfl⟩) | (go_at_call 50; refine (c_isIndex _ _ _ (by omega) (by omega)).mono ?_; rintro e w' ⟨rfl, rfl⟩) | go_in)
    go_ret
    exact ⟨rfl, by go_grown⟩

set_option maxRecDepth 100000 in
theorem lifted (os : Os) (started : os.Started) (H : Type) (enc : TypeId × Value → H) :
    ReturnsInHanded {} Try.checked os 8 .any (Rows.fnExactCodeNameSpec.pre6 enc Try.prog Try.f8 Rows.fnExactCodeNameRow.domain false) (Rows.fnExactCodeNameSpec.post enc Try.prog Try.f8 false true false false) := by
  refine returnsInHanded_of_change (C := Try.checked) prog_own started (by kernel_rfl) Try.func8
    (ChangeSpec.witness6 (enc := enc) (C := Try.checked) false ⟨#[], #[.int .i64 0], []⟩ 8 (by kernel_rfl) (by kernel_rfl) (by kernel_rfl) (by kernel_rfl)) ?_
  intro W base args ds gs before hval0 hW _ _
  have hval : ∀ (j : Nat) t v, Try.f8.params[j]? = some t → args[j]? = some v → Value.okWide Try.prog W .any base t v := hval0
  have hW' := hW
  obtain ⟨p, q, hA0, hV, rfl, _, _⟩ := hW
  have hA : DataW.TrodAll enc Try.prog W 0 (fun _ => true) true Try.f8.params.toList args.toList ds p := hA0
  rw [Try.params8] at hA hval
  obtain ⟨v0, vs0, d0, ds0, p0, q0, hargs, rfl, rfl, h0, r0⟩ := trodAll_cons hA
  obtain ⟨rfl, rfl, rfl⟩ := trodAll_nil r0
  obtain rfl : args = #[v0] := by cases args; simp_all
  obtain ⟨a0, rfl, b0⟩ := open_i64 Try.underlying2 (hval 0 2 v0 rfl rfl) h0
  refine (walk W a0 b0).mono fun e W' ⟨he, hb⟩ => ⟨_, he, ?_⟩
  exact law_post prog_laid (by kernel_rfl) rfl Try.underlying4 rfl (by intro ds h; rw [Try.params8] at h; match ds, h with | [_], _ => exact ⟨rfl, rfl, rfl⟩) hW' hb

theorem over : Rows.fnExactCodeNameRow.holds Try.pinned (OpenSpec.ofChange Rows.fnExactCodeNameSpec) :=
  OpenClaim.holds_of_wide 8 Try.f8 rfl rfl rfl rfl rfl rfl rfl ⟨rfl, rfl, rfl, rfl, rfl⟩ rfl rfl rfl rfl rfl (by kernel_rfl) Try.func8 (by kernel_rfl)
    (of_decide_eq_true (by kernel_rfl)) (by unfold Func.isWrapper; first | (rw [if_pos (by decide +kernel)]; kernel_rfl) | (rw [if_neg (by decide +kernel)]; exact ⟨rfl, rfl⟩))
    (fun os started H enc _ => lifted os started H enc)

theorem proved : Rows.FnExactCodeNameSaid := over
end fnExactCodeName
#print axioms fnExactCodeName.proved

end Go.Proofs.Ytcgnbmobemhkiaa
