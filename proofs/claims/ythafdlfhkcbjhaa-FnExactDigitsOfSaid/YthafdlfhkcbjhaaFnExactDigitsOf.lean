/- The law FnExactDigitsOf returns true for every input that can be read as data. No condition. -/
import Derived.Test.YthafdlfhkcbjhaaBackI
namespace Go.Proofs.Ythafdlfhkcbjhaa
open Go.ChangeShapes Go.WideShapes Go.ChangeAt Go.RowKit
open Go.ChangeMaps (open_string)
namespace fnExactDigitsOf
set_option linter.unusedVariables false
set_option maxHeartbeats 4000000 in
theorem walk (w : World) (a0 : Int) (b0 : -9223372036854775808 ≤ a0 ∧ a0 ≤ 9223372036854775807) (a1 : Int) (b1 : -9223372036854775808 ≤ a1 ∧ a1 ≤ 9223372036854775807) (a2 : Int) (b2 : -9223372036854775808 ≤ a2 ∧ a2 ≤ 9223372036854775807) : Calls Try.prog 3 #[.int .i64 a0, .int .i64 a1, .int .i64 a2] w fun e w' => e = .returned (.bool true) ∧ New w w' := by
  have N := New.same w
  have elr := eqL_self (dgV a0 a1 a2)
  have hln := dgV_len a0 a1 a2
  go_enter Try.func3, Try.ntmps3
  go_wp2_with fail
  refine (c_specDigitsOf a0 a1 a2 _ ).mono ?_
  rintro e w1 ⟨v1, rfl, X1, n1⟩
  have q1 := n1.size
  replace N := N.step n1
  go_wp2_with fail
  refine (c_implDigitsOf a0 a1 a2 _ ).mono ?_
  rintro e w2 ⟨v2, rfl, X2, n2⟩
  have q2 := n2.size
  replace N := N.step n2
  replace X1 := X1.new n2
  go_wp2_with fail
  refine (c_eqInt64S _ _ _ _ _ _ (dgV a0 a1 a2) (dgV a0 a1 a2) _ (X2.rd) (X1.rd)).mono ?_
  rintro e w3 ⟨rfl, n3⟩
  have q3 := n3.size
  replace N := N.step n3
  replace X1 := X1.new n3
  replace X2 := X2.new n3
  go_wp2_with fail
  refine (c_markInt64S _ _ _ _ _ _ _ X2 (by omega) (by omega)).mono ?_
  rintro e w4 ⟨rfl, Y4, f4⟩
  have q4 := f4.size
  replace N := N.fr f4 (by omega)
  replace X1 := X1.fr f4 (by omega)
  go_wp2_with fail
  refine (c_heldInt64S _ _ _ _ _ _ Y4.rd (by omega) (by omega)).mono ?_
  rintro e w5 ⟨rfl, n5⟩
  have q5 := n5.size
  replace N := N.step n5
  replace X1 := X1.new n5
  replace Y4 := Y4.new n5
  go_wp2_with fail
  refine (c_implDigitsOf a0 a1 a2 _ ).mono ?_
  rintro e w6 ⟨v6, rfl, X6, n6⟩
  have q6 := n6.size
  replace N := N.step n6
  replace X1 := X1.new n6
  replace Y4 := Y4.new n6
  go_wp2_with fail
  refine (c_eqInt64S _ _ _ _ _ _ (dgV a0 a1 a2) (dgV a0 a1 a2) _ (X6.rd) (X1.rd)).mono ?_
  rintro e w7 ⟨rfl, n7⟩
  have q7 := n7.size
  replace N := N.step n7
  replace X1 := X1.new n7
  replace Y4 := Y4.new n7
  replace X6 := X6.new n7
  go_wp2_with fail
  refine (c_heldInt64S _ _ _ _ _ _ Y4.rd (by omega) (by omega)).mono ?_
  rintro e w8 ⟨rfl, n8⟩
  have q8 := n8.size
  replace N := N.step n8
  replace X1 := X1.new n8
  replace Y4 := Y4.new n8
  replace X6 := X6.new n8
  go_wp2
  go_ret
  exact ⟨rfl, N⟩

set_option maxRecDepth 100000 in
theorem lifted (os : Os) (started : os.Started) (H : Type) (enc : TypeId × Value → H) :
    ReturnsInHanded {} Try.checked os 3 .any (Rows.fnExactDigitsOfSpec.pre6 enc Try.prog Try.f3 Rows.fnExactDigitsOfRow.domain false) (Rows.fnExactDigitsOfSpec.post enc Try.prog Try.f3 false true false false) := by
  refine returnsInHanded_of_change (C := Try.checked) prog_own started (by kernel_rfl) Try.func3
    (ChangeSpec.witness6 (enc := enc) (C := Try.checked) false ⟨#[], #[.int .i64 0, .int .i64 0, .int .i64 0], []⟩ 8 (by kernel_rfl) (by kernel_rfl) (by kernel_rfl) (by kernel_rfl)) ?_
  intro W base args ds gs before hval0 hW _ _
  have hval : ∀ (j : Nat) t v, Try.f3.params[j]? = some t → args[j]? = some v → Value.okWide Try.prog W .any base t v := hval0
  have hW' := hW
  obtain ⟨p, q, hA0, hV, rfl, _, _⟩ := hW
  have hA : DataW.TrodAll enc Try.prog W 0 (fun _ => true) true Try.f3.params.toList args.toList ds p := hA0
  rw [Try.params3] at hA hval
  obtain ⟨v0, vs0, d0, ds0, p0, q0, hargs, rfl, rfl, h0, t0⟩ := trodAll_cons hA
  obtain ⟨v1, vs1, d1, ds1, p1, q1, rfl, rfl, rfl, h1, t1⟩ := trodAll_cons t0
  obtain ⟨v2, vs2, d2, ds2, p2, q2, rfl, rfl, rfl, h2, t2⟩ := trodAll_cons t1
  obtain ⟨rfl, rfl, rfl⟩ := trodAll_nil t2
  obtain rfl : args = #[v0, v1, v2] := by cases args; simp_all
  obtain ⟨a0, rfl, b0⟩ := open_i64 Try.underlying2 (hval 0 2 v0 rfl rfl) h0
  obtain ⟨a1, rfl, b1⟩ := open_i64 Try.underlying2 (hval 1 2 v1 rfl rfl) h1
  obtain ⟨a2, rfl, b2⟩ := open_i64 Try.underlying2 (hval 2 2 v2 rfl rfl) h2
  refine (walk W a0 b0 a1 b1 a2 b2).mono fun e W' ⟨he, hb⟩ => ⟨_, he, ?_⟩
  exact law_post prog_laid (by kernel_rfl) rfl Try.underlying4 rfl (by intro ds h; rw [Try.params3] at h; match ds, h with | [_, _, _], _ => exact ⟨rfl, rfl, rfl⟩) hW' hb

theorem over : Rows.fnExactDigitsOfRow.holds Try.pinned (OpenSpec.ofChange Rows.fnExactDigitsOfSpec) :=
  OpenClaim.holds_of_wide 3 Try.f3 rfl rfl rfl rfl rfl rfl rfl ⟨rfl, rfl, rfl, rfl, rfl⟩ rfl rfl rfl rfl rfl (by kernel_rfl) Try.func3 (by kernel_rfl)
    (of_decide_eq_true (by kernel_rfl)) (by unfold Func.isWrapper; first | (rw [if_pos (by decide +kernel)]; kernel_rfl) | (rw [if_neg (by decide +kernel)]; exact ⟨rfl, rfl⟩))
    (fun os started H enc _ => lifted os started H enc)

theorem proved : Rows.FnExactDigitsOfSaid := over
end fnExactDigitsOf
#print axioms fnExactDigitsOf.proved

end Go.Proofs.Ythafdlfhkcbjhaa
