/- The law FnExactMakeFrac returns true for every input that can be read as data. No condition. -/
import Derived.Test.YtbhgjkfpgdgkfaaFrac4
namespace Go.Proofs.Ytbhgjkfpgdgkfaa
open Go.ChangeShapes Go.WideShapes Go.ChangeAt Go.RowKit
open Go.ChangeMaps (open_string)
namespace fnExactMakeFrac
set_option linter.unusedVariables false
set_option maxHeartbeats 1000000 in
theorem walk (w : World) (a0 : Int) (b0 : -9223372036854775808 ≤ a0 ∧ a0 ≤ 9223372036854775807) (a1 : Int) (b1 : -9223372036854775808 ≤ a1 ∧ a1 ≤ 9223372036854775807) : Calls Try.prog 4 #[.int .i64 a0, .int .i64 a1] w fun e w' => e = .returned (.bool true) ∧ New w w' := by
  have S1 := c_specMakeFrac a0 a1
  have S2 := c_implMakeFrac a0 a1
  generalize opN (okM a0 a1) a0 a1 = RN at S1 S2
  generalize opD (okM a0 a1) a0 a1 = RD at S1 S2
  generalize opC (okM a0 a1) 2 a0 a1 = RC at S1 S2
  go_enter Try.func4, Try.ntmps4
  go_wp2_with fail
  refine (S1 _).mono ?_
  rintro e w1 ⟨rfl, n1⟩
  go_wp2_with fail
  refine (S2 _).mono ?_
  rintro e w2 ⟨rfl, n2⟩
  have N2 : New w w2 := (n1.box _).step n2
  have B2 := (BoxK.alloc w1 RN RD 25).new n2
  obtain ⟨⟨c1, d1⟩, -, z1⟩ := B2.at
  have c2 := (((New.same w2).box (.cells #[.int .i64 RN, .int .i64 RD] 25)).cell (p := ⟨w1.heap.size, 0, none⟩) z1).trans c1
  have d2 := (((New.same w2).box (.cells #[.int .i64 RN, .int .i64 RD] 25)).cell (p := ⟨w1.heap.size, 1, none⟩) z1).trans d1
  clear n2 B2 S1 S2
  go_wp2_with fail
  refine (c_eqFrac_self _ _ _).mono ?_
  rintro e w3 ⟨rfl, n3⟩
  go_wp2
  go_ret
  exact ⟨rfl, (N2.box _).step n3⟩

set_option maxRecDepth 100000 in
theorem lifted (os : Os) (started : os.Started) (H : Type) (enc : TypeId × Value → H) :
    ReturnsInHanded {} Try.checked os 4 .any (Rows.fnExactMakeFracSpec.pre6 enc Try.prog Try.f4 Rows.fnExactMakeFracRow.domain false) (Rows.fnExactMakeFracSpec.post enc Try.prog Try.f4 false true false false) := by
  refine returnsInHanded_of_change (C := Try.checked) prog_own started (by kernel_rfl) Try.func4
    (ChangeSpec.witness6 (enc := enc) (C := Try.checked) false ⟨#[], #[.int .i64 0, .int .i64 0], []⟩ 8 (by kernel_rfl) (by kernel_rfl) (by kernel_rfl) (by kernel_rfl)) ?_
  intro W base args ds gs before hval0 hW _ _
  have hval : ∀ (j : Nat) t v, Try.f4.params[j]? = some t → args[j]? = some v → Value.okWide Try.prog W .any base t v := hval0
  have hW' := hW
  obtain ⟨p, q, hA0, hV, rfl, _, _⟩ := hW
  have hA : DataW.TrodAll enc Try.prog W 0 (fun _ => true) true Try.f4.params.toList args.toList ds p := hA0
  rw [Try.params4] at hA hval
  obtain ⟨v0, vs0, d0, ds0, p0, q0, hargs, rfl, rfl, h0, r0⟩ := trodAll_cons hA
  obtain ⟨v1, vs1, d1, ds1, p1, q1, rfl, rfl, rfl, h1, r1⟩ := trodAll_cons r0
  obtain ⟨rfl, rfl, rfl⟩ := trodAll_nil r1
  obtain rfl : args = #[v0, v1] := by cases args; simp_all
  obtain ⟨a0, rfl, b0⟩ := open_i64 Try.underlying2 (hval 0 2 v0 rfl rfl) h0
  obtain ⟨a1, rfl, b1⟩ := open_i64 Try.underlying2 (hval 1 2 v1 rfl rfl) h1
  refine (walk W a0 b0 a1 b1).mono fun e W' ⟨he, hb⟩ => ⟨_, he, ?_⟩
  exact law_post prog_laid (by kernel_rfl) rfl Try.underlying4 rfl (by intro ds h; rw [Try.params4] at h; match ds, h with | [_, _], _ => exact ⟨rfl, rfl, rfl⟩) hW' hb

theorem over : Rows.fnExactMakeFracRow.holds Try.pinned (OpenSpec.ofChange Rows.fnExactMakeFracSpec) :=
  OpenClaim.holds_of_wide 4 Try.f4 rfl rfl rfl rfl rfl rfl rfl ⟨rfl, rfl, rfl, rfl, rfl⟩ rfl rfl rfl rfl rfl (by kernel_rfl) Try.func4 (by kernel_rfl)
    (of_decide_eq_true (by kernel_rfl)) (by unfold Func.isWrapper; first | (rw [if_pos (by decide +kernel)]; kernel_rfl) | (rw [if_neg (by decide +kernel)]; exact ⟨rfl, rfl⟩))
    (fun os started H enc _ => lifted os started H enc)

theorem proved : Rows.FnExactMakeFracSaid := over
end fnExactMakeFrac
#print axioms fnExactMakeFrac.proved

end Go.Proofs.Ytbhgjkfpgdgkfaa
