/- The law FnExactCountFrom returns true for every input that can be read as data. No condition. -/
import Derived.Test.YtcgnbmobemhkiaaCount
namespace Go.Proofs.Ytcgnbmobemhkiaa
open Go.ChangeShapes Go.WideShapes Go.ChangeAt Go.RowKit
namespace fnExactCountFrom
set_option linter.unusedVariables false
set_option maxHeartbeats 2000000 in
theorem walk (w : World) (a0 : Int) (b0 : -9223372036854775808 ≤ a0 ∧ a0 ≤ 9223372036854775807) (a1 : Int) (b1 : -9223372036854775808 ≤ a1 ∧ a1 ≤ 9223372036854775807) (a2 : Int) (b2 : -9223372036854775808 ≤ a2 ∧ a2 ≤ 9223372036854775807) (a3 : Int) (b3 : -9223372036854775808 ≤ a3 ∧ a3 ≤ 9223372036854775807) : Calls Try.prog 13 #[.int .i64 a0, .int .i64 a1, .int .i64 a2, .int .i64 a3] w fun e w' => e = .returned (.bool true) ∧ New w w' := by
  have hs := eqL_self (cfList a0 a1 a2 a3)
  have hlen : (cfList a0 a1 a2 a3).length ≤ 1048576 := cfList_len a0 a1 a2 a3
  go_enter Try.func13, Try.ntmps13
  go_wp2_with fail
  refine (c_specCountFrom _ _ _ _ _).mono ?_
  rintro e w1 ⟨v, rfl, hO, n1⟩
  go_wp2_with fail
  refine (c_implCountFrom _ _ _ _ _).mono ?_
  rintro e w2 ⟨u, rfl, hP, n2⟩
  have hO2 := hO.rd.new n2
  go_wp2_with fail
  refine (c_eqInt64S _ _ _ _ _ _ (cfList a0 a1 a2 a3) (cfList a0 a1 a2 a3) _ hP.rd hO2).mono ?_
  rintro e w3 ⟨rfl, n3⟩
  have hO3 := hO2.new n3
  go_wp2_with fail
  refine (c_markInt64S _ _ _ _ _ _ _ (hP.new n3) (by omega) (by omega)).mono ?_
  rintro e w4 ⟨rfl, hM, f4⟩
  have hO4 := hO3.fr f4 (.inl (Nat.le_refl _))
  go_wp2_with fail
  refine (c_heldInt64S _ _ _ _ _ _ hM.rd (by omega) (by omega)).mono ?_
  rintro e w5 ⟨rfl, n5⟩
  go_wp2_with fail
  refine (c_implCountFrom _ _ _ _ _).mono ?_
  rintro e w6 ⟨u2, rfl, hQ, n6⟩
  go_wp2_with fail
  refine (c_eqInt64S _ _ _ _ _ _ (cfList a0 a1 a2 a3) (cfList a0 a1 a2 a3) _ hQ.rd ((hO4.new n5).new n6)).mono ?_
  rintro e w7 ⟨rfl, n7⟩
  go_wp2_with fail
  refine (c_heldInt64S _ _ _ _ _ _ (((hM.rd.new n5).new n6).new n7) (by omega) (by omega)).mono ?_
  rintro e w8 ⟨rfl, n8⟩
  go_wp2
  go_ret
  exact ⟨rfl, (((((n1.step n2).step n3).fr f4 n1.size).step n5).step n6 |>.step n7).step n8⟩

set_option maxRecDepth 100000 in
theorem lifted (os : Os) (started : os.Started) (H : Type) (enc : TypeId × Value → H) :
    ReturnsInHanded {} Try.checked os 13 .any (Rows.fnExactCountFromSpec.pre6 enc Try.prog Try.f13 Rows.fnExactCountFromRow.domain false) (Rows.fnExactCountFromSpec.post enc Try.prog Try.f13 false true false false) := by
  refine returnsInHanded_of_change (C := Try.checked) prog_own started (by kernel_rfl) Try.func13
    (ChangeSpec.witness6 (enc := enc) (C := Try.checked) false ⟨#[], #[.int .i64 0, .int .i64 0, .int .i64 0, .int .i64 0], []⟩ 8 (by kernel_rfl) (by kernel_rfl) (by kernel_rfl) (by kernel_rfl)) ?_
  intro W base args ds gs before hval0 hW _ _
  have hval : ∀ (j : Nat) t v, Try.f13.params[j]? = some t → args[j]? = some v → Value.okWide Try.prog W .any base t v := hval0
  have hW' := hW
  obtain ⟨p, q, hA0, hV, rfl, _, _⟩ := hW
  have hA : DataW.TrodAll enc Try.prog W 0 (fun _ => true) true Try.f13.params.toList args.toList ds p := hA0
  rw [Try.params13] at hA hval
  obtain ⟨v0, vs0, d0, ds0, p0, q0, hargs, rfl, rfl, h0, r0⟩ := trodAll_cons hA
  obtain ⟨v1, vs1, d1, ds1, p1, q1, rfl, rfl, rfl, h1, r1⟩ := trodAll_cons r0
  obtain ⟨v2, vs2, d2, ds2, p2, q2, rfl, rfl, rfl, h2, r2⟩ := trodAll_cons r1
  obtain ⟨v3, vs3, d3, ds3, p3, q3, rfl, rfl, rfl, h3, r3⟩ := trodAll_cons r2
  obtain ⟨rfl, rfl, rfl⟩ := trodAll_nil r3
  obtain rfl : args = #[v0, v1, v2, v3] := by cases args; simp_all
  obtain ⟨a0, rfl, b0⟩ := open_i64 Try.underlying2 (hval 0 2 v0 rfl rfl) h0
  obtain ⟨a1, rfl, b1⟩ := open_i64 Try.underlying2 (hval 1 2 v1 rfl rfl) h1
  obtain ⟨a2, rfl, b2⟩ := open_i64 Try.underlying2 (hval 2 2 v2 rfl rfl) h2
  obtain ⟨a3, rfl, b3⟩ := open_i64 Try.underlying2 (hval 3 2 v3 rfl rfl) h3
  refine (walk W a0 b0 a1 b1 a2 b2 a3 b3).mono fun e W' ⟨he, hb⟩ => ⟨_, he, ?_⟩
  exact law_post prog_laid (by kernel_rfl) rfl Try.underlying4 rfl (by intro ds h; rw [Try.params13] at h; match ds, h with | [_, _, _, _], _ => exact ⟨rfl, rfl, rfl⟩) hW' hb

theorem over : Rows.fnExactCountFromRow.holds Try.pinned (OpenSpec.ofChange Rows.fnExactCountFromSpec) :=
  OpenClaim.holds_of_wide 13 Try.f13 rfl rfl rfl rfl rfl rfl rfl ⟨rfl, rfl, rfl, rfl, rfl⟩ rfl rfl rfl rfl rfl (by kernel_rfl) Try.func13 (by kernel_rfl)
    (of_decide_eq_true (by kernel_rfl)) (by unfold Func.isWrapper; first | (rw [if_pos (by decide +kernel)]; kernel_rfl) | (rw [if_neg (by decide +kernel)]; exact ⟨rfl, rfl⟩))
    (fun os started H enc _ => lifted os started H enc)

theorem proved : Rows.FnExactCountFromSaid := over
end fnExactCountFrom
#print axioms fnExactCountFrom.proved

end Go.Proofs.Ytcgnbmobemhkiaa
