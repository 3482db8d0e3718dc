/- The law FnExactProofName returns true for every input that can be read as data. No condition. -/
import Derived.Test.YtcgnbmobemhkiaaNum
namespace Go.Proofs.Ytcgnbmobemhkiaa
open Go.ChangeShapes Go.WideShapes Go.ChangeAt Go.RowKit
namespace fnExactProofName
set_option maxHeartbeats 4000000 in
theorem walk (w : World) (a0 : Int) (b0 : -9223372036854775808 ≤ a0 ∧ a0 ≤ 9223372036854775807) : Calls Try.prog 4 #[.int .i64 a0] w fun e w' => e = .returned (.bool true) ∧ New w w' := by
  rcases (show (a0 < 1 ∨ 6 < a0) ∨ a0 = 1 ∨ a0 = 2 ∨ a0 = 3 ∨ a0 = 4 ∨ a0 = 5 ∨ a0 = 6 from by omega) with h | rfl | rfl | rfl | rfl | rfl | rfl
  · have hi : inB a0 1 6 = false := inB_no h
    clear h
    go_enter Try.func4, Try.ntmps4
    go_wp2_with (first | (go_at_call 42; refine (c_l00In _ _ _ _).mono ?_; rintro e w' ⟨rfl, rfl⟩) | (go_at_call 43; refine (c_within _ _ _ _).mono ?_; rintro e w' ⟨rfl, rfl⟩) | go_in)
    go_ret
    exact ⟨rfl, by go_grown⟩
  · have hi : inB 1 1 6 = true := inB_yes (by omega) (by omega)
    have ix : ∀ w, (Instr.index 49 (.agg #[Value.string ⟨#[]⟩, Value.string ⟨#[103, 114, 111, 119, 110]⟩, Value.string ⟨#[116, 101, 114, 109, 105, 110, 97, 108]⟩, Value.string ⟨#[117, 110, 105, 113, 117, 101]⟩, Value.string ⟨#[99, 111, 110, 102, 108, 105, 99, 116]⟩, Value.string ⟨#[115, 116, 97, 98, 108, 101]⟩, Value.string ⟨#[108, 111, 111, 115, 101]⟩]) (.int .i64 1)).run Try.prog w = .ok (Value.string ⟨#[103, 114, 111, 119, 110]⟩) w := fun _ => by kernel_rfl
    go_enter Try.func4, Try.ntmps4
    go_wp2_with (first | (go_at_call 42; refine (c_l00In _ _ _ _).mono ?_; rintro e w' ⟨rfl, rfl⟩) | (go_at_call 43; refine (c_within _ _ _ _).mono ?_; rintro e w' ⟨rfl, rfl⟩) | go_in)
    go_ret
    exact ⟨rfl, by go_grown⟩
  · have hi : inB 2 1 6 = true := inB_yes (by omega) (by omega)
    have ix : ∀ w, (Instr.index 49 (.agg #[Value.string ⟨#[]⟩, Value.string ⟨#[103, 114, 111, 119, 110]⟩, Value.string ⟨#[116, 101, 114, 109, 105, 110, 97, 108]⟩, Value.string ⟨#[117, 110, 105, 113, 117, 101]⟩, Value.string ⟨#[99, 111, 110, 102, 108, 105, 99, 116]⟩, Value.string ⟨#[115, 116, 97, 98, 108, 101]⟩, Value.string ⟨#[108, 111, 111, 115, 101]⟩]) (.int .i64 2)).run Try.prog w = .ok (Value.string ⟨#[116, 101, 114, 109, 105, 110, 97, 108]⟩) w := fun _ => by kernel_rfl
    go_enter Try.func4, Try.ntmps4
    go_wp2_with (first | (go_at_call 42; refine (c_l00In _ _ _ _).mono ?_; rintro e w' ⟨rfl, rfl⟩) | (go_at_call 43; refine (c_within _ _ _ _).mono ?_; rintro e w' ⟨rfl, rfl⟩) | go_in)
    go_ret
    exact ⟨rfl, by go_grown⟩
  · have hi : inB 3 1 6 = true := inB_yes (by omega) (by omega)
    have ix : ∀ w, (Instr.index 49 (.agg #[Value.string ⟨#[]⟩, Value.string ⟨#[103, 114, 111, 119, 110]⟩, Value.string ⟨#[116, 101, 114, 109, 105, 110, 97, 108]⟩, Value.string ⟨#[117, 110, 105, 113, 117, 101]⟩, Value.string ⟨#[99, 111, 110, 102, 108, 105, 99, 116]⟩, Value.string ⟨#[115, 116, 97, 98, 108, 101]⟩, Value.string ⟨#[108, 111, 111, 115, 101]⟩]) (.int .i64 3)).run Try.prog w = .ok (Value.string ⟨#[117, 110, 105, 113, 117, 101]⟩) w := fun _ => by kernel_rfl
    go_enter Try.func4, Try.ntmps4
    go_wp2_with (first | (go_at_call 42; refine (c_l00In _ _ _ _).mono ?_; rintro e w' ⟨rfl, rfl⟩) | (go_at_call 43; refine (c_within _ _ _ _).mono ?_; rintro e w' ⟨rfl, rfl⟩) | go_in)
    go_ret
    exact ⟨rfl, by go_grown⟩
  · have hi : inB 4 1 6 = true := inB_yes (by omega) (by omega)
    have ix : ∀ w, (Instr.index 49 (.agg #[Value.string ⟨#[]⟩, Value.string ⟨#[103, 114, 111, 119, 110]⟩, Value.string ⟨#[116, 101, 114, 109, 105, 110, 97, 108]⟩, Value.string ⟨#[117, 110, 105, 113, 117, 101]⟩, Value.string ⟨#[99, 111, 110, 102, 108, 105, 99, 116]⟩, Value.string ⟨#[115, 116, 97, 98, 108, 101]⟩, Value.string ⟨#[108, 111, 111, 115, 101]⟩]) (.int .i64 4)).run Try.prog w = .ok (Value.string ⟨#[99, 111, 110, 102, 108, 105, 99, 116]⟩) w := fun _ => by kernel_rfl
    go_enter Try.func4, Try.ntmps4
    go_wp2_with (first | (go_at_call 42; refine (c_l00In _ _ _ _).mono ?_; rintro e w' ⟨rfl, rfl⟩) | (go_at_call 43; refine (c_within _ _ _ _).mono ?_; rintro e w' ⟨rfl, rfl⟩) | go_in)
    go_ret
    exact ⟨rfl, by go_grown⟩
  · have hi : inB 5 1 6 = true := inB_yes (by omega) (by omega)
    have ix : ∀ w, (Instr.index 49 (.agg #[Value.string ⟨#[]⟩, Value.string ⟨#[103, 114, 111, 119, 110]⟩, Value.string ⟨#[116, 101, 114, 109, 105, 110, 97, 108]⟩, Value.string ⟨#[117, 110, 105, 113, 117, 101]⟩, Value.string ⟨#[99, 111, 110, 102, 108, 105, 99, 116]⟩, Value.string ⟨#[115, 116, 97, 98, 108, 101]⟩, Value.string ⟨#[108, 111, 111, 115, 101]⟩]) (.int .i64 5)).run Try.prog w = .ok (Value.string ⟨#[115, 116, 97, 98, 108, 101]⟩) w := fun _ => by kernel_rfl
    go_enter Try.func4, Try.ntmps4
    go_wp2_with (first | (go_at_call 42; refine (c_l00In _ _ _ _).mono ?_; rintro e w' ⟨rfl, rfl⟩) | (go_at_call 43; refine (c_within _ _ _ _).mono ?_; rintro e w' ⟨rfl, rfl⟩) | go_in)
    go_ret
    exact ⟨rfl, by go_grown⟩
  · have hi : inB 6 1 6 = true := inB_yes (by omega) (by omega)
    have ix : ∀ w, (Instr.index 49 (.agg #[Value.string ⟨#[]⟩, Value.string ⟨#[103, 114, 111, 119, 110]⟩, Value.string ⟨#[116, 101, 114, 109, 105, 110, 97, 108]⟩, Value.string ⟨#[117, 110, 105, 113, 117, 101]⟩, Value.string ⟨#[99, 111, 110, 102, 108, 105, 99, 116]⟩, Value.string ⟨#[115, 116, 97, 98, 108, 101]⟩, Value.string ⟨#[108, 111, 111, 115, 101]⟩]) (.int .i64 6)).run Try.prog w = .ok (Value.string ⟨#[108, 111, 111, 115, 101]⟩) w := fun _ => by kernel_rfl
    go_enter Try.func4, Try.ntmps4
    go_wp2_with (first | (go_at_call 42; refine (c_l00In _ _ _ _).mono ?_; rintro e w' ⟨rfl, rfl⟩) | (go_at_call 43; refine (c_within _ _ _ _).mono ?_; rintro e w' ⟨rfl, rfl⟩) | go_in)
    go_ret
    exact ⟨rfl, by go_grown⟩

set_option maxRecDepth 100000 in
theorem lifted (os : Os) (started : os.Started) (H : Type) (enc : TypeId × Value → H) :
    ReturnsInHanded {} Try.checked os 4 .any (Rows.fnExactProofNameSpec.pre6 enc Try.prog Try.f4 Rows.fnExactProofNameRow.domain false) (Rows.fnExactProofNameSpec.post enc Try.prog Try.f4 false true false false) := by
  refine returnsInHanded_of_change (C := Try.checked) prog_own started (by kernel_rfl) Try.func4
    (ChangeSpec.witness6 (enc := enc) (C := Try.checked) false ⟨#[], #[.int .i64 0], []⟩ 8 (by kernel_rfl) (by kernel_rfl) (by kernel_rfl) (by kernel_rfl)) ?_
  intro W base args ds gs before hval0 hW _ _
  have hval : ∀ (j : Nat) t v, Try.f4.params[j]? = some t → args[j]? = some v → Value.okWide Try.prog W .any base t v := hval0
  have hW' := hW
  obtain ⟨p, q, hA0, hV, rfl, _, _⟩ := hW
  have hA : DataW.TrodAll enc Try.prog W 0 (fun _ => true) true Try.f4.params.toList args.toList ds p := hA0
  rw [Try.params4] at hA hval
  obtain ⟨v0, vs0, d0, ds0, p0, q0, hargs, rfl, rfl, h0, r0⟩ := trodAll_cons hA
  obtain ⟨rfl, rfl, rfl⟩ := trodAll_nil r0
  obtain rfl : args = #[v0] := by cases args; simp_all
  obtain ⟨a0, rfl, b0⟩ := open_i64 Try.underlying2 (hval 0 2 v0 rfl rfl) h0
  refine (walk W a0 b0).mono fun e W' ⟨he, hb⟩ => ⟨_, he, ?_⟩
  exact law_post prog_laid (by kernel_rfl) rfl Try.underlying4 rfl (by intro ds h; rw [Try.params4] at h; match ds, h with | [_], _ => exact ⟨rfl, rfl, rfl⟩) hW' hb

theorem over : Rows.fnExactProofNameRow.holds Try.pinned (OpenSpec.ofChange Rows.fnExactProofNameSpec) :=
  OpenClaim.holds_of_wide 4 Try.f4 rfl rfl rfl rfl rfl rfl rfl ⟨rfl, rfl, rfl, rfl, rfl⟩ rfl rfl rfl rfl rfl (by kernel_rfl) Try.func4 (by kernel_rfl)
    (of_decide_eq_true (by kernel_rfl)) (by unfold Func.isWrapper; first | (rw [if_pos (by decide +kernel)]; kernel_rfl) | (rw [if_neg (by decide +kernel)]; exact ⟨rfl, rfl⟩))
    (fun os started H enc _ => lifted os started H enc)

theorem proved : Rows.FnExactProofNameSaid := over
end fnExactProofName
#print axioms fnExactProofName.proved

end Go.Proofs.Ytcgnbmobemhkiaa
