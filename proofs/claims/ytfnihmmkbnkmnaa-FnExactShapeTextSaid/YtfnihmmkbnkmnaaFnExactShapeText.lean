/- The law FnExactShapeText returns true for every input that can be read as data. No condition. -/
import Derived.Test.YtfnihmmkbnkmnaaShText2
namespace Go.Proofs.Ytfnihmmkbnkmnaa
open Go.ChangeShapes Go.WideShapes Go.ChangeAt Go.RowKit
open Go.ChangeMaps (open_string)
namespace fnExactShapeText
set_option linter.unusedVariables false
set_option maxHeartbeats 4000000 in
theorem walk (w : World) (v0 : Value) (z0 : List (Int × Int)) (r0 : Rd w 0 w.heap.size 2 v0 z0.length (z0.flatMap ptCells)) (b0 : ∀ z ∈ z0, (-9223372036854775808 ≤ z.1 ∧ z.1 ≤ 9223372036854775807) ∧ -9223372036854775808 ≤ z.2 ∧ z.2 ≤ 9223372036854775807) : Calls Try.prog 4 #[v0] w fun e w' => e = .returned (.bool true) ∧ New w w' := by
  have R0 := r0
  obtain ⟨_, hm0, _, A0, c0, rfl, _⟩ := r0
  by_cases hl0 : z0.length ≤ 1048576
  · have N := New.same w
    have E0 : szP (1048576) z0.length = 1048576 - z0.length := by unfold szP; rw [if_neg (by omega)]
    have el0 := eqL_self z0
    have eX : ((shTxt z0).toList == (shTxt z0).toList) = true := beq_self_eq_true _
    go_enter Try.func4, Try.ntmps4
    go_wp2_with fail
    refine (c_szPointS A0 _ c0 (1048576) _ hm0 (by omega) (by omega)).mono ?_
    rintro e w' ⟨rfl, rfl⟩
    rw [E0]
    clear E0
    go_wp2_with fail
    refine (c_toPointS _ _ _ z0 _ R0 (by omega)).mono ?_
    rintro e w1 ⟨v1, rfl, X1, n1⟩
    have q1 := n1.size
    replace N := N.step n1
    replace R0 := R0.new n1
    go_wp2_with fail
    refine (c_specShapeText _ _ _ z0 _ (X1.rd)).mono ?_
    rintro e w2 ⟨rfl, n2⟩
    have q2 := n2.size
    replace N := N.step n2
    replace R0 := R0.new n2
    replace X1 := X1.new n2
    go_wp2_with fail
    refine (c_toPointS _ _ _ z0 _ R0 (by omega)).mono ?_
    rintro e w3 ⟨v3, rfl, X3, n3⟩
    have q3 := n3.size
    replace N := N.step n3
    replace R0 := R0.new n3
    go_wp2_with fail
    refine (c_implShapeText _ _ _ z0 _ (X3.rd)).mono ?_
    rintro e w4 ⟨rfl, n4⟩
    have q4 := n4.size
    replace N := N.step n4
    replace R0 := R0.new n4
    replace X3 := X3.new n4
    go_wp2_with fail
    refine (c_toPointS _ _ _ z0 _ R0 (by omega)).mono ?_
    rintro e w5 ⟨v5, rfl, X5, n5⟩
    have q5 := n5.size
    replace N := N.step n5
    replace R0 := R0.new n5
    replace X3 := X3.new n5
    go_wp2_with fail
    refine (c_eqPointS _ _ _ _ _ _ z0 z0 _ (X3.rd) (X5.rd)).mono ?_
    rintro e w6 ⟨rfl, n6⟩
    have q6 := n6.size
    replace N := N.step n6
    replace R0 := R0.new n6
    replace X3 := X3.new n6
    replace X5 := X5.new n6
    go_wp2
    go_ret
    exact ⟨rfl, N⟩
  · have E0 : szP (1048576) z0.length = -1 := by unfold szP; rw [if_pos (by omega)]
    go_enter Try.func4, Try.ntmps4
    go_wp2_with fail
    refine (c_szPointS A0 _ c0 (1048576) _ hm0 (by omega) (by omega)).mono ?_
    rintro e w' ⟨rfl, rfl⟩
    rw [E0]
    go_wp2
    go_ret
    exact ⟨rfl, New.same _⟩

set_option maxRecDepth 100000 in
theorem lifted (os : Os) (started : os.Started) (H : Type) (enc : TypeId × Value → H) :
    ReturnsInHanded {} Try.checked os 4 .any (Rows.fnExactShapeTextSpec.pre6 enc Try.prog Try.f4 Rows.fnExactShapeTextRow.domain false) (Rows.fnExactShapeTextSpec.post enc Try.prog Try.f4 false true false false) := by
  refine returnsInHanded_of_change (C := Try.checked) prog_own started (by kernel_rfl) Try.func4
    (ChangeSpec.witness6 (enc := enc) (C := Try.checked) false ⟨#[], #[.slice none 0 0], []⟩ 8 (by kernel_rfl) (by kernel_rfl) (by kernel_rfl) (by kernel_rfl)) ?_
  intro W base args ds gs before hval0 hW _ _
  have hval : ∀ (j : Nat) t v, Try.f4.params[j]? = some t → args[j]? = some v → Value.okWide Try.prog W .any base t v := hval0
  have hW' := hW
  obtain ⟨p, q, hA0, hV, rfl, _, _⟩ := hW
  have hA : DataW.TrodAll enc Try.prog W 0 (fun _ => true) true Try.f4.params.toList args.toList ds p := hA0
  rw [Try.params4] at hA hval
  have hlt : ∀ x ∈ p, x.block < W.heap.size := fun x hx => hW'.lt x (List.mem_append_left _ hx)
  obtain ⟨v0, vs0, d0, ds0, p0, q0, hargs, rfl, rfl, h0, t0⟩ := trodAll_cons hA
  obtain ⟨rfl, rfl, rfl⟩ := trodAll_nil t0
  obtain rfl : args = #[v0] := by cases args; simp_all
  have hlt0 : ∀ x ∈ p0, x.block < W.heap.size := fun x hx => hlt x (List.mem_append_left _ hx)
  obtain ⟨z0, r0, b0⟩ := open_pts_rd Try.underlying40 Try.underlying76 (by kernel_rfl) rfl rfl rfl rfl (by kernel_rfl) (by kernel_rfl) Try.underlying2 Try.underlying2 (hval 0 40 v0 rfl rfl) h0 hlt0
  refine (walk W v0 z0 r0 b0).mono fun e W' ⟨he, hb⟩ => ⟨_, he, ?_⟩
  exact law_post prog_laid (by kernel_rfl) rfl Try.underlying4 rfl (by intro ds h; rw [Try.params4] at h; match ds, h with | [_], _ => exact ⟨rfl, rfl, rfl⟩) hW' hb

theorem over : Rows.fnExactShapeTextRow.holds Try.pinned (OpenSpec.ofChange Rows.fnExactShapeTextSpec) :=
  OpenClaim.holds_of_wide 4 Try.f4 rfl rfl rfl rfl rfl rfl rfl ⟨rfl, rfl, rfl, rfl, rfl⟩ rfl rfl rfl rfl rfl (by kernel_rfl) Try.func4 (by kernel_rfl)
    (of_decide_eq_true (by kernel_rfl)) (by unfold Func.isWrapper; first | (rw [if_pos (by decide +kernel)]; kernel_rfl) | (rw [if_neg (by decide +kernel)]; exact ⟨rfl, rfl⟩))
    (fun os started H enc _ => lifted os started H enc)

theorem proved : Rows.FnExactShapeTextSaid := over
end fnExactShapeText
#print axioms fnExactShapeText.proved

end Go.Proofs.Ytfnihmmkbnkmnaa
