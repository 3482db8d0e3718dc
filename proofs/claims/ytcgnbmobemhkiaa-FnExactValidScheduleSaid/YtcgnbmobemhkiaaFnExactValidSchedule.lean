/- The law FnExactValidSchedule returns true for every input that can be read as data. No condition. -/
import Derived.Test.YtcgnbmobemhkiaaSched
namespace Go.Proofs.Ytcgnbmobemhkiaa
open Go.ChangeShapes Go.WideShapes Go.ChangeAt Go.RowKit
namespace fnExactValidSchedule
set_option linter.unusedVariables false
set_option maxHeartbeats 2000000 in
theorem walk (w : World) (v0 : Value) (z0 : List Int) (r0 : Rd w 0 w.heap.size 1 v0 z0.length (z0.map (Value.int .i64))) (b0 : ∀ z ∈ z0, -9223372036854775808 ≤ z ∧ z ≤ 9223372036854775807) : Calls Try.prog 12 #[v0] w fun e w' => e = .returned (.bool true) ∧ New w w' := by
  have HR := Lib.hid r0
  obtain ⟨_, hm, hh, A, c, rfl, _⟩ := r0
  by_cases hl : z0.length ≤ 1048576
  · have hs := eqL_self z0
    go_enter Try.func12, Try.ntmps12
    go_wp2_with fail
    refine (c_toInt64S _ _ _ z0 _ HR.out hl).mono ?_
    rintro e w1 ⟨v1, rfl, hO, n1⟩
    go_wp2_with fail
    refine (c_specSched _ _ _ z0 _ hO.rd).mono ?_
    rintro e w2 ⟨rfl, n2⟩
    go_wp2_with fail
    refine (c_toInt64S _ _ _ z0 _ ((HR.out.new n1).new n2) hl).mono ?_
    rintro e w3 ⟨v3, rfl, hP, n3⟩
    go_wp2_with fail
    refine (c_implSched _ _ _ z0 _ hP.rd).mono ?_
    rintro e w4 ⟨rfl, n4⟩
    go_wp2_with fail
    refine (c_toInt64S _ _ _ z0 _ ((((HR.out.new n1).new n2).new n3).new n4) hl).mono ?_
    rintro e w5 ⟨v5, rfl, hQ, n5⟩
    go_wp2_with fail
    refine (c_eqInt64S _ _ _ _ _ _ z0 z0 _ ((hP.rd.new n4).new n5) hQ.rd).mono ?_
    rintro e w6 ⟨rfl, n6⟩
    go_wp2
    go_ret
    exact ⟨rfl, ((((n1.step n2).step n3).step n4).step n5).step n6⟩
  · go_enter Try.func12, Try.ntmps12
    go_wp2
    go_ret
    exact ⟨rfl, New.same _⟩

set_option maxRecDepth 100000 in
theorem lifted (os : Os) (started : os.Started) (H : Type) (enc : TypeId × Value → H) :
    ReturnsInHanded {} Try.checked os 12 .any (Rows.fnExactValidScheduleSpec.pre6 enc Try.prog Try.f12 Rows.fnExactValidScheduleRow.domain false) (Rows.fnExactValidScheduleSpec.post enc Try.prog Try.f12 false true false false) := by
  refine returnsInHanded_of_change (C := Try.checked) prog_own started (by kernel_rfl) Try.func12
    (ChangeSpec.witness6 (enc := enc) (C := Try.checked) false ⟨#[], #[.slice none 0 0], []⟩ 8 (by kernel_rfl) (by kernel_rfl) (by kernel_rfl) (by kernel_rfl)) ?_
  intro W base args ds gs before hval0 hW _ _
  have hval : ∀ (j : Nat) t v, Try.f12.params[j]? = some t → args[j]? = some v → Value.okWide Try.prog W .any base t v := hval0
  have hW' := hW
  obtain ⟨p, q, hA0, hV, rfl, _, _⟩ := hW
  have hA : DataW.TrodAll enc Try.prog W 0 (fun _ => true) true Try.f12.params.toList args.toList ds p := hA0
  rw [Try.params12] at hA hval
  have hlt : ∀ x ∈ p, x.block < W.heap.size := fun x hx => hW'.lt x (List.mem_append_left _ hx)
  obtain ⟨v0, vs0, d0, ds0, p0, q0, hargs, rfl, rfl, h0, r0⟩ := trodAll_cons hA
  obtain ⟨rfl, rfl, rfl⟩ := trodAll_nil r0
  obtain rfl : args = #[v0] := by cases args; simp_all
  have hlt0 : ∀ x ∈ p0, x.block < W.heap.size := fun x hx => hlt x (List.mem_append_left _ hx)
  obtain ⟨z0, r0, b0⟩ := open_ints_rd Try.underlying38 Try.underlying2 (by kernel_rfl) (hval 0 38 v0 rfl rfl) h0 hlt0
  refine (walk W v0 z0 r0 b0).mono fun e W' ⟨he, hb⟩ => ⟨_, he, ?_⟩
  exact law_post prog_laid (by kernel_rfl) rfl Try.underlying4 rfl (by intro ds h; rw [Try.params12] at h; match ds, h with | [_], _ => exact ⟨rfl, rfl, rfl⟩) hW' hb

theorem over : Rows.fnExactValidScheduleRow.holds Try.pinned (OpenSpec.ofChange Rows.fnExactValidScheduleSpec) :=
  OpenClaim.holds_of_wide 12 Try.f12 rfl rfl rfl rfl rfl rfl rfl ⟨rfl, rfl, rfl, rfl, rfl⟩ rfl rfl rfl rfl rfl (by kernel_rfl) Try.func12 (by kernel_rfl)
    (of_decide_eq_true (by kernel_rfl)) (by unfold Func.isWrapper; first | (rw [if_pos (by decide +kernel)]; kernel_rfl) | (rw [if_neg (by decide +kernel)]; exact ⟨rfl, rfl⟩))
    (fun os started H enc _ => lifted os started H enc)

theorem proved : Rows.FnExactValidScheduleSaid := over
end fnExactValidSchedule
#print axioms fnExactValidSchedule.proved

end Go.Proofs.Ytcgnbmobemhkiaa
