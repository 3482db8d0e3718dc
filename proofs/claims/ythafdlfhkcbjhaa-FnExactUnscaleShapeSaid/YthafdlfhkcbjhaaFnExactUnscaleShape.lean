/- The law FnExactUnscaleShape returns true for every input that can be read as data. No condition. -/
import Derived.Test.YthafdlfhkcbjhaaMkPoint
import Derived.Test.YthafdlfhkcbjhaaUnscale2
namespace Go.Proofs.Ythafdlfhkcbjhaa
open Go.ChangeShapes Go.WideShapes Go.ChangeAt Go.RowKit
open Go.ChangeMaps (open_string)
namespace fnExactUnscaleShape
set_option linter.unusedVariables false
set_option maxHeartbeats 4000000 in
theorem walk (w : World) (v0 : Value) (z0 : List (Int × Int)) (r0 : Rd w 0 w.heap.size 2 v0 z0.length (z0.flatMap ptCells)) (b0 : ∀ z ∈ z0, (-9223372036854775808 ≤ z.1 ∧ z.1 ≤ 9223372036854775807) ∧ -9223372036854775808 ≤ z.2 ∧ z.2 ≤ 9223372036854775807) (a1 : Int) (b1 : -9223372036854775808 ≤ a1 ∧ a1 ≤ 9223372036854775807) : Calls Try.prog 6 #[v0, .int .i64 a1] w fun e w' => e = .returned (.bool true) ∧ New w w' := by
  have R0 := r0
  obtain ⟨_, hm0, _, A0, c0, rfl, _⟩ := r0
  by_cases hl0 : z0.length ≤ 1048576
  · have N := New.same w
    have E0 : szP (1048576) z0.length = 1048576 - z0.length := by unfold szP; rw [if_neg (by omega)]
    have el0 := eqL_self z0
    have elr := eqL_self (unscaleRes z0 a1)
    have hln := unscaleRes_len z0 a1
    go_enter Try.func6, Try.ntmps6
    go_wp2_with fail
    refine (c_szPointS A0 _ c0 (1048576) _ hm0 (by omega) (by omega)).mono ?_
    rintro e w' ⟨rfl, rfl⟩
    rw [E0]
    clear E0
    go_wp2_with fail
    refine (c_toPointS _ _ _ z0 _ R0 (by omega)).mono ?_
    rintro e w1 ⟨v1, rfl, X1, n1⟩
    have q1 := n1.size
    replace N := N.step n1
    replace R0 := R0.new n1
    go_wp2_with fail
    refine (c_specUnscale _ _ _ z0 a1 _ (X1.rd)).mono ?_
    rintro e w2 ⟨v2, rfl, X2, n2⟩
    have q2 := n2.size
    replace N := N.step n2
    replace R0 := R0.new n2
    replace X1 := X1.new n2
    go_wp2_with fail
    refine (c_toPointS _ _ _ z0 _ R0 (by omega)).mono ?_
    rintro e w3 ⟨v3, rfl, X3, n3⟩
    have q3 := n3.size
    replace N := N.step n3
    replace R0 := R0.new n3
    replace X2 := X2.new n3
    go_wp2_with fail
    refine (c_implUnscale _ _ _ z0 a1 _ (X3.rd)).mono ?_
    rintro e w4 ⟨v4, rfl, X4, n4⟩
    have q4 := n4.size
    replace N := N.step n4
    replace R0 := R0.new n4
    replace X2 := X2.new n4
    replace X3 := X3.new n4
    go_wp2_with fail
    refine (c_eqPointS _ _ _ _ _ _ (unscaleRes z0 a1) (unscaleRes z0 a1) _ (X4.rd) (X2.rd)).mono ?_
    rintro e w5 ⟨rfl, n5⟩
    have q5 := n5.size
    replace N := N.step n5
    replace R0 := R0.new n5
    replace X2 := X2.new n5
    replace X3 := X3.new n5
    replace X4 := X4.new n5
    go_wp2_with fail
    refine (c_toPointS _ _ _ z0 _ R0 (by omega)).mono ?_
    rintro e w6 ⟨v6, rfl, X6, n6⟩
    have q6 := n6.size
    replace N := N.step n6
    replace R0 := R0.new n6
    replace X2 := X2.new n6
    replace X3 := X3.new n6
    replace X4 := X4.new n6
    go_wp2_with fail
    refine (c_eqPointS _ _ _ _ _ _ z0 z0 _ (X3.rd) (X6.rd)).mono ?_
    rintro e w7 ⟨rfl, n7⟩
    have q7 := n7.size
    replace N := N.step n7
    replace R0 := R0.new n7
    replace X2 := X2.new n7
    replace X3 := X3.new n7
    replace X4 := X4.new n7
    replace X6 := X6.new n7
    go_wp2_with fail
    refine (c_markPointS _ _ _ _ _ _ _ X3 (by omega) (by omega)).mono ?_
    rintro e w8 ⟨rfl, Y8, f8⟩
    have q8 := f8.size
    replace N := N.fr f8 (by omega)
    replace R0 := R0.fr f8 (by omega)
    replace X2 := X2.fr f8 (by omega)
    replace X4 := X4.fr f8 (by omega)
    go_wp2_with fail
    refine (c_eqPointS _ _ _ _ _ _ (unscaleRes z0 a1) (unscaleRes z0 a1) _ (X4.rd) (X2.rd)).mono ?_
    rintro e w9 ⟨rfl, n9⟩
    have q9 := n9.size
    replace N := N.step n9
    replace R0 := R0.new n9
    replace X2 := X2.new n9
    replace X4 := X4.new n9
    go_wp2_with fail
    refine (c_markPointS _ _ _ _ _ _ _ X4 (by omega) (by omega)).mono ?_
    rintro e w10 ⟨rfl, Y10, f10⟩
    have q10 := f10.size
    replace N := N.fr f10 (by omega)
    replace R0 := R0.fr f10 (by omega)
    replace X2 := X2.fr f10 (by omega)
    go_wp2_with fail
    refine (c_heldPointS _ _ _ _ _ _ Y10.rd (by omega) (by omega)).mono ?_
    rintro e w11 ⟨rfl, n11⟩
    have q11 := n11.size
    replace N := N.step n11
    replace R0 := R0.new n11
    replace X2 := X2.new n11
    replace Y10 := Y10.new n11
    go_wp2_with fail
    refine (c_toPointS _ _ _ z0 _ R0 (by omega)).mono ?_
    rintro e w12 ⟨v12, rfl, X12, n12⟩
    have q12 := n12.size
    replace N := N.step n12
    replace R0 := R0.new n12
    replace X2 := X2.new n12
    replace Y10 := Y10.new n12
    go_wp2_with fail
    refine (c_implUnscale _ _ _ z0 a1 _ (X12.rd)).mono ?_
    rintro e w13 ⟨v13, rfl, X13, n13⟩
    have q13 := n13.size
    replace N := N.step n13
    replace R0 := R0.new n13
    replace X2 := X2.new n13
    replace Y10 := Y10.new n13
    replace X12 := X12.new n13
    go_wp2_with fail
    refine (c_eqPointS _ _ _ _ _ _ (unscaleRes z0 a1) (unscaleRes z0 a1) _ (X13.rd) (X2.rd)).mono ?_
    rintro e w14 ⟨rfl, n14⟩
    have q14 := n14.size
    replace N := N.step n14
    replace R0 := R0.new n14
    replace X2 := X2.new n14
    replace Y10 := Y10.new n14
    replace X13 := X13.new n14
    go_wp2_with fail
    refine (c_heldPointS _ _ _ _ _ _ Y10.rd (by omega) (by omega)).mono ?_
    rintro e w15 ⟨rfl, n15⟩
    have q15 := n15.size
    replace N := N.step n15
    replace R0 := R0.new n15
    replace X2 := X2.new n15
    replace Y10 := Y10.new n15
    replace X13 := X13.new n15
    go_wp2
    go_ret
    exact ⟨rfl, N⟩
  · have E0 : szP (1048576) z0.length = -1 := by unfold szP; rw [if_pos (by omega)]
    go_enter Try.func6, Try.ntmps6
    go_wp2_with fail
    refine (c_szPointS A0 _ c0 (1048576) _ hm0 (by omega) (by omega)).mono ?_
    rintro e w' ⟨rfl, rfl⟩
    rw [E0]
    go_wp2
    go_ret
    exact ⟨rfl, New.same _⟩

set_option maxRecDepth 100000 in
theorem lifted (os : Os) (started : os.Started) (H : Type) (enc : TypeId × Value → H) :
    ReturnsInHanded {} Try.checked os 6 .any (Rows.fnExactUnscaleShapeSpec.pre6 enc Try.prog Try.f6 Rows.fnExactUnscaleShapeRow.domain false) (Rows.fnExactUnscaleShapeSpec.post enc Try.prog Try.f6 false true false false) := by
  refine returnsInHanded_of_change (C := Try.checked) prog_own started (by kernel_rfl) Try.func6
    (ChangeSpec.witness6 (enc := enc) (C := Try.checked) false ⟨#[], #[.slice none 0 0, .int .i64 0], []⟩ 8 (by kernel_rfl) (by kernel_rfl) (by kernel_rfl) (by kernel_rfl)) ?_
  intro W base args ds gs before hval0 hW _ _
  have hval : ∀ (j : Nat) t v, Try.f6.params[j]? = some t → args[j]? = some v → Value.okWide Try.prog W .any base t v := hval0
  have hW' := hW
  obtain ⟨p, q, hA0, hV, rfl, _, _⟩ := hW
  have hA : DataW.TrodAll enc Try.prog W 0 (fun _ => true) true Try.f6.params.toList args.toList ds p := hA0
  rw [Try.params6] at hA hval
  have hlt : ∀ x ∈ p, x.block < W.heap.size := fun x hx => hW'.lt x (List.mem_append_left _ hx)
  obtain ⟨v0, vs0, d0, ds0, p0, q0, hargs, rfl, rfl, h0, t0⟩ := trodAll_cons hA
  obtain ⟨v1, vs1, d1, ds1, p1, q1, rfl, rfl, rfl, h1, t1⟩ := trodAll_cons t0
  obtain ⟨rfl, rfl, rfl⟩ := trodAll_nil t1
  obtain rfl : args = #[v0, v1] := by cases args; simp_all
  have hlt0 : ∀ x ∈ p0, x.block < W.heap.size := fun x hx => hlt x (List.mem_append_left _ hx)
  obtain ⟨z0, r0, b0⟩ := open_pts_rd Try.underlying44 Try.underlying75 (by kernel_rfl) rfl rfl rfl rfl (by kernel_rfl) (by kernel_rfl) Try.underlying2 Try.underlying2 (hval 0 44 v0 rfl rfl) h0 hlt0
  obtain ⟨a1, rfl, b1⟩ := open_i64 Try.underlying2 (hval 1 2 v1 rfl rfl) h1
  refine (walk W v0 z0 r0 b0 a1 b1).mono fun e W' ⟨he, hb⟩ => ⟨_, he, ?_⟩
  exact law_post prog_laid (by kernel_rfl) rfl Try.underlying4 rfl (by intro ds h; rw [Try.params6] at h; match ds, h with | [_, _], _ => exact ⟨rfl, rfl, rfl⟩) hW' hb

theorem over : Rows.fnExactUnscaleShapeRow.holds Try.pinned (OpenSpec.ofChange Rows.fnExactUnscaleShapeSpec) :=
  OpenClaim.holds_of_wide 6 Try.f6 rfl rfl rfl rfl rfl rfl rfl ⟨rfl, rfl, rfl, rfl, rfl⟩ rfl rfl rfl rfl rfl (by kernel_rfl) Try.func6 (by kernel_rfl)
    (of_decide_eq_true (by kernel_rfl)) (by unfold Func.isWrapper; first | (rw [if_pos (by decide +kernel)]; kernel_rfl) | (rw [if_neg (by decide +kernel)]; exact ⟨rfl, rfl⟩))
    (fun os started H enc _ => lifted os started H enc)

theorem proved : Rows.FnExactUnscaleShapeSaid := over
end fnExactUnscaleShape
#print axioms fnExactUnscaleShape.proved

end Go.Proofs.Ythafdlfhkcbjhaa
