/- The law FnExactDirName returns true for every input that can be read as data. No condition. -/
import Derived.Test.YtcgnbmobemhkiaaNum
namespace Go.Proofs.Ytcgnbmobemhkiaa
open Go.ChangeShapes Go.WideShapes Go.ChangeAt Go.RowKit
namespace fnExactDirName
set_option maxHeartbeats 4000000 in
theorem walk (w : World) (a0 : Int) (b0 : -9223372036854775808 ≤ a0 ∧ a0 ≤ 9223372036854775807) : Calls Try.prog 6 #[.int .i64 a0] w fun e w' => e = .returned (.bool true) ∧ New w w' := by
  rcases (show (a0 < 0 ∨ 3 < a0) ∨ a0 = 0 ∨ a0 = 1 ∨ a0 = 2 ∨ a0 = 3 from by omega) with h | rfl | rfl | rfl | rfl
  · have hi : inB a0 0 3 = false := inB_no h
    clear h
    go_enter Try.func6, Try.ntmps6
    go_wp2_with (first | (go_at_call 45; refine (c_l01Dir _ _).mono ?_; rintro e w' ⟨rfl, rfl⟩) | (go_at_call 46; refine (c_isDir _ _).mono ?_; rintro e w' ⟨rfl, rfl⟩) | go_in)
    go_ret
    exact ⟨rfl, by go_grown⟩
  · have hi : inB 0 0 3 = true := inB_yes (by omega) (by omega)
    have ix : ∀ w, (Instr.index 50 (.agg #[Value.string ⟨#[110, 111, 114, 116, 104]⟩, Value.string ⟨#[101, 97, 115, 116]⟩, Value.string ⟨#[115, 111, 117, 116, 104]⟩, Value.string ⟨#[119, 101, 115, 116]⟩]) (.int .i64 0)).run Try.prog w = .ok (Value.string ⟨#[110, 111, 114, 116, 104]⟩) w := fun _ => by kernel_rfl
    go_enter Try.func6, Try.ntmps6
    go_wp2_with (first | (go_at_call 45; refine (c_l01Dir _ _).mono ?_; rintro e w' ⟨rfl, rfl⟩) | (go_at_call 46; refine (c_isDir _ _).mono ?_; rintro e w' ⟨rfl, rfl⟩) | go_in)
    go_ret
    exact ⟨rfl, by go_grown⟩
  · have hi : inB 1 0 3 = true := inB_yes (by omega) (by omega)
    have ix : ∀ w, (Instr.index 50 (.agg #[Value.string ⟨#[110, 111, 114, 116, 104]⟩, Value.string ⟨#[101, 97, 115, 116]⟩, Value.string ⟨#[115, 111, 117, 116, 104]⟩, Value.string ⟨#[119, 101, 115, 116]⟩]) (.int .i64 1)).run Try.prog w = .ok (Value.string ⟨#[101, 97, 115, 116]⟩) w := fun _ => by kernel_rfl
    go_enter Try.func6, Try.ntmps6
    go_wp2_with (first | (go_at_call 45; refine (c_l01Dir _ _).mono ?_; rintro e w' ⟨rfl, rfl⟩) | (go_at_call 46; refine (c_isDir _ _).mono ?_; rintro e w' ⟨rfl, rfl⟩) | go_in)
    go_ret
    exact ⟨rfl, by go_grown⟩
  · have hi : inB 2 0 3 = true := inB_yes (by omega) (by omega)
    have ix : ∀ w, (Instr.index 50 (.agg #[Value.string ⟨#[110, 111, 114, 116, 104]⟩, Value.string ⟨#[101, 97, 115, 116]⟩, Value.string ⟨#[115, 111, 117, 116, 104]⟩, Value.string ⟨#[119, 101, 115, 116]⟩]) (.int .i64 2)).run Try.prog w = .ok (Value.string ⟨#[115, 111, 117, 116, 104]⟩) w := fun _ => by kernel_rfl
    go_enter Try.func6, Try.ntmps6
    go_wp2_with (first | (go_at_call 45; refine (c_l01Dir _ _).mono ?_; rintro e w' ⟨rfl, rfl⟩) | (go_at_call 46; refine (c_isDir _ _).mono ?_; rintro e w' ⟨rfl, rfl⟩) | go_in)
    go_ret
    exact ⟨rfl, by go_grown⟩
  · have hi : inB 3 0 3 = true := inB_yes (by omega) (by omega)
    have ix : ∀ w, (Instr.index 50 (.agg #[Value.string ⟨#[110, 111, 114, 116, 104]⟩, Value.string ⟨#[101, 97, 115, 116]⟩, Value.string ⟨#[115, 111, 117, 116, 104]⟩, Value.string ⟨#[119, 101, 115, 116]⟩]) (.int .i64 3)).run Try.prog w = .ok (Value.string ⟨#[119, 101, 115, 116]⟩) w := fun _ => by kernel_rfl
    go_enter Try.func6, Try.ntmps6
    go_wp2_with (first | (go_at_call 45; refine (c_l01Dir _ _).mono ?_; rintro e w' ⟨rfl, rfl⟩) | (go_at_call 46; refine (c_isDir _ _).mono ?_; rintro e w' ⟨rfl, rfl⟩) | go_in)
    go_ret
    exact ⟨rfl, by go_grown⟩

set_option maxRecDepth 100000 in
theorem lifted (os : Os) (started : os.Started) (H : Type) (enc : TypeId × Value → H) :
    ReturnsInHanded {} Try.checked os 6 .any (Rows.fnExactDirNameSpec.pre6 enc Try.prog Try.f6 Rows.fnExactDirNameRow.domain false) (Rows.fnExactDirNameSpec.post enc Try.prog Try.f6 false true false false) := by
  refine returnsInHanded_of_change (C := Try.checked) prog_own started (by kernel_rfl) Try.func6
    (ChangeSpec.witness6 (enc := enc) (C := Try.checked) false ⟨#[], #[.int .i64 0], []⟩ 8 (by kernel_rfl) (by kernel_rfl) (by kernel_rfl) (by kernel_rfl)) ?_
  intro W base args ds gs before hval0 hW _ _
  have hval : ∀ (j : Nat) t v, Try.f6.params[j]? = some t → args[j]? = some v → Value.okWide Try.prog W .any base t v := hval0
  have hW' := hW
  obtain ⟨p, q, hA0, hV, rfl, _, _⟩ := hW
  have hA : DataW.TrodAll enc Try.prog W 0 (fun _ => true) true Try.f6.params.toList args.toList ds p := hA0
  rw [Try.params6] at hA hval
  obtain ⟨v0, vs0, d0, ds0, p0, q0, hargs, rfl, rfl, h0, r0⟩ := trodAll_cons hA
  obtain ⟨rfl, rfl, rfl⟩ := trodAll_nil r0
  obtain rfl : args = #[v0] := by cases args; simp_all
  obtain ⟨a0, rfl, b0⟩ := open_i64 Try.underlying2 (hval 0 2 v0 rfl rfl) h0
  refine (walk W a0 b0).mono fun e W' ⟨he, hb⟩ => ⟨_, he, ?_⟩
  exact law_post prog_laid (by kernel_rfl) rfl Try.underlying4 rfl (by intro ds h; rw [Try.params6] at h; match ds, h with | [_], _ => exact ⟨rfl, rfl, rfl⟩) hW' hb

theorem over : Rows.fnExactDirNameRow.holds Try.pinned (OpenSpec.ofChange Rows.fnExactDirNameSpec) :=
  OpenClaim.holds_of_wide 6 Try.f6 rfl rfl rfl rfl rfl rfl rfl ⟨rfl, rfl, rfl, rfl, rfl⟩ rfl rfl rfl rfl rfl (by kernel_rfl) Try.func6 (by kernel_rfl)
    (of_decide_eq_true (by kernel_rfl)) (by unfold Func.isWrapper; first | (rw [if_pos (by decide +kernel)]; kernel_rfl) | (rw [if_neg (by decide +kernel)]; exact ⟨rfl, rfl⟩))
    (fun os started H enc _ => lifted os started H enc)

theorem proved : Rows.FnExactDirNameSaid := over
end fnExactDirName
#print axioms fnExactDirName.proved

end Go.Proofs.Ytcgnbmobemhkiaa
