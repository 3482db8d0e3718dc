/- The law FnExactValidFrac returns true for every input that can be read as data. No condition. -/
import Derived.Test.YtbhgjkfpgdgkfaaFrac4
namespace Go.Proofs.Ytbhgjkfpgdgkfaa
open Go.ChangeShapes Go.WideShapes Go.ChangeAt Go.RowKit
open Go.ChangeMaps (open_string)
namespace fnExactValidFrac
set_option linter.unusedVariables false
set_option maxHeartbeats 1000000 in
theorem walk (w : World) (x0 y0 : Int) (bx0 : -9223372036854775808 ≤ x0 ∧ x0 ≤ 9223372036854775807) (by0 : -9223372036854775808 ≤ y0 ∧ y0 ≤ 9223372036854775807) : Calls Try.prog 3 #[.agg #[.int .i64 x0, .int .i64 y0]] w fun e w' => e = .returned (.bool true) ∧ New w w' := by
  go_enter Try.func3, Try.ntmps3
  go_wp2_with fail
  have n0 : New w (w.alloc (.cells #[.int .i64 x0, .int .i64 y0] 23)) := (New.same w).box _
  have z0 : w.heap.size < (w.alloc (.cells #[.int .i64 x0, .int .i64 y0] 23)).heap.size := by simp
  have c0 : (w.alloc (.cells #[.int .i64 x0, .int .i64 y0] 23)).cell? ⟨w.heap.size, 0, none⟩ = some (.int .i64 x0) := by go_simp
  have d0 : (w.alloc (.cells #[.int .i64 x0, .int .i64 y0] 23)).cell? ⟨w.heap.size, 1, none⟩ = some (.int .i64 y0) := by go_simp
  generalize w.alloc (.cells #[.int .i64 x0, .int .i64 y0] 23) = W0 at *
  refine (c_toFrac _ _ _).mono ?_
  rintro e w1 ⟨rfl, n1⟩
  have c1 := (n1.cell (p := ⟨w.heap.size, 0, none⟩) z0).trans c0
  have d1 := (n1.cell (p := ⟨w.heap.size, 1, none⟩) z0).trans d0
  have z1 := Nat.lt_of_lt_of_le z0 n1.size
  go_wp2_with fail
  refine (c_specValidFrac _ _ _).mono ?_
  rintro e w2 ⟨rfl, n2⟩
  have c2 := (n2.cell (p := ⟨w.heap.size, 0, none⟩) z1).trans c1
  have d2 := (n2.cell (p := ⟨w.heap.size, 1, none⟩) z1).trans d1
  go_wp2_with fail
  refine (c_toFrac _ _ _).mono ?_
  rintro e w3 ⟨rfl, n3⟩
  go_wp2_with fail
  refine (c_implValidFrac _ _ _).mono ?_
  rintro e w4 ⟨rfl, n4⟩
  go_wp2
  go_ret
  exact ⟨rfl, (((n0.step n1).step n2).step n3).step n4⟩

set_option maxRecDepth 100000 in
theorem lifted (os : Os) (started : os.Started) (H : Type) (enc : TypeId × Value → H) :
    ReturnsInHanded {} Try.checked os 3 .any (Rows.fnExactValidFracSpec.pre6 enc Try.prog Try.f3 Rows.fnExactValidFracRow.domain false) (Rows.fnExactValidFracSpec.post enc Try.prog Try.f3 false true false false) := by
  refine returnsInHanded_of_change (C := Try.checked) prog_own started (by kernel_rfl) Try.func3
    (ChangeSpec.witness6 (enc := enc) (C := Try.checked) false ⟨#[], #[.agg #[.int .i64 0, .int .i64 0]], []⟩ 8 (by kernel_rfl) (by kernel_rfl) (by kernel_rfl) (by kernel_rfl)) ?_
  intro W base args ds gs before hval0 hW _ _
  have hval : ∀ (j : Nat) t v, Try.f3.params[j]? = some t → args[j]? = some v → Value.okWide Try.prog W .any base t v := hval0
  have hW' := hW
  obtain ⟨p, q, hA0, hV, rfl, _, _⟩ := hW
  have hA : DataW.TrodAll enc Try.prog W 0 (fun _ => true) true Try.f3.params.toList args.toList ds p := hA0
  rw [Try.params3] at hA hval
  obtain ⟨v0, vs0, d0, ds0, p0, q0, hargs, rfl, rfl, h0, r0⟩ := trodAll_cons hA
  obtain ⟨rfl, rfl, rfl⟩ := trodAll_nil r0
  obtain rfl : args = #[v0] := by cases args; simp_all
  obtain ⟨⟨x0, y0⟩, rfl, bx0, by0⟩ := open_ii Try.underlying23 (by kernel_rfl) rfl rfl rfl rfl (by kernel_rfl) (by kernel_rfl) Try.underlying2 Try.underlying2 (hval 0 23 v0 rfl rfl) h0
  refine (walk W x0 y0 bx0 by0).mono fun e W' ⟨he, hb⟩ => ⟨_, he, ?_⟩
  exact law_post prog_laid (by kernel_rfl) rfl Try.underlying4 rfl (by intro ds h; rw [Try.params3] at h; match ds, h with | [_], _ => exact ⟨rfl, rfl, rfl⟩) hW' hb

theorem over : Rows.fnExactValidFracRow.holds Try.pinned (OpenSpec.ofChange Rows.fnExactValidFracSpec) :=
  OpenClaim.holds_of_wide 3 Try.f3 rfl rfl rfl rfl rfl rfl rfl ⟨rfl, rfl, rfl, rfl, rfl⟩ rfl rfl rfl rfl rfl (by kernel_rfl) Try.func3 (by kernel_rfl)
    (of_decide_eq_true (by kernel_rfl)) (by unfold Func.isWrapper; first | (rw [if_pos (by decide +kernel)]; kernel_rfl) | (rw [if_neg (by decide +kernel)]; exact ⟨rfl, rfl⟩))
    (fun os started H enc _ => lifted os started H enc)

theorem proved : Rows.FnExactValidFracSaid := over
end fnExactValidFrac
#print axioms fnExactValidFrac.proved

end Go.Proofs.Ytbhgjkfpgdgkfaa
