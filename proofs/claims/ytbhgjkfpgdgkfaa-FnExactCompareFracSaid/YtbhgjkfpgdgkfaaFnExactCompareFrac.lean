/- The law FnExactCompareFrac returns true for every input that can be read as data. No condition. -/
import Derived.Test.YtbhgjkfpgdgkfaaFrac4
namespace Go.Proofs.Ytbhgjkfpgdgkfaa
open Go.ChangeShapes Go.WideShapes Go.ChangeAt Go.RowKit
open Go.ChangeMaps (open_string)
namespace fnExactCompareFrac
set_option linter.unusedVariables false
set_option maxHeartbeats 2000000 in
theorem walk (w : World) (x0 y0 : Int) (bx0 : -9223372036854775808 ≤ x0 ∧ x0 ≤ 9223372036854775807) (by0 : -9223372036854775808 ≤ y0 ∧ y0 ≤ 9223372036854775807) (x1 y1 : Int) (bx1 : -9223372036854775808 ≤ x1 ∧ x1 ≤ 9223372036854775807) (by1 : -9223372036854775808 ≤ y1 ∧ y1 ≤ 9223372036854775807) : Calls Try.prog 6 #[.agg #[.int .i64 x0, .int .i64 y0], .agg #[.int .i64 x1, .int .i64 y1]] w fun e w' => e = .returned (.bool true) ∧ New w w' := by
  obtain ⟨n0, B0, B1⟩ := box2 w x0 y0 x1 y1 23 23
  replace B0 : BoxK _ _ _ _ := ⟨B0⟩
  replace B1 : BoxK _ _ _ _ := ⟨B1⟩
  have S1 := c_specCompareFrac x0 y0 x1 y1
  have S2 := c_implCompareFrac x0 y0 x1 y1
  generalize cpR x0 y0 x1 y1 = RN at S1 S2
  generalize cpC x0 y0 x1 y1 = RC at S1 S2
  go_enter Try.func6, Try.ntmps6
  go_upto_region 1 with fail
  generalize (w.alloc (.cells #[.int .i64 x0, .int .i64 y0] 23)).alloc (.cells #[.int .i64 x1, .int .i64 y1] 23) = W0 at *
  go_region_held3 (fun w' => w'.cell? ⟨w.heap.size, 0, none⟩ = some (.int .i64 x0) ∧ w'.cell? ⟨w.heap.size, 1, none⟩ = some (.int .i64 y0) ∧ w'.cell? ⟨w.heap.size + 1, 0, none⟩ = some (.int .i64 x1) ∧ w'.cell? ⟨w.heap.size + 1, 1, none⟩ = some (.int .i64 y1))
    (exact keep4 (w1 := W0) (by (repeat' (first | (with_reducible exact New.same _) | (with_reducible assumption) | (with_reducible refine New.box ?_ _) | (with_reducible refine New.drew_ ?_) | (with_reducible refine New.set ?_ ?_ _ _) | (with_reducible refine New.step ?_ (by assumption))))) B0 B1)
    (first | (go_at_call 16; refine (c_toFrac _ _ _).mono ?_; rintro e wa ⟨rfl, na⟩) | (go_at_call 23; refine (S1 _).mono ?_; rintro e wa ⟨rfl, na⟩))
  go_upto_region 2 with fail
  go_region_held3 (fun w' => w'.cell? ⟨w.heap.size, 0, none⟩ = some (.int .i64 x0) ∧ w'.cell? ⟨w.heap.size, 1, none⟩ = some (.int .i64 y0) ∧ w'.cell? ⟨w.heap.size + 1, 0, none⟩ = some (.int .i64 x1) ∧ w'.cell? ⟨w.heap.size + 1, 1, none⟩ = some (.int .i64 y1))
    (exact keep4 (w1 := W0) (by (repeat' (first | (with_reducible exact New.same _) | (with_reducible assumption) | (with_reducible refine New.box ?_ _) | (with_reducible refine New.drew_ ?_) | (with_reducible refine New.set ?_ ?_ _ _) | (with_reducible refine New.step ?_ (by assumption))))) B0 B1)
    (first | (go_at_call 16; refine (c_toFrac _ _ _).mono ?_; rintro e wa ⟨rfl, na⟩) | (go_at_call 24; refine (S2 _).mono ?_; rintro e wa ⟨rfl, na⟩))
  go_wp2
  go_ret
  exact ⟨rfl, n0.step (by (repeat' (first | (with_reducible exact New.same _) | (with_reducible assumption) | (with_reducible refine New.box ?_ _) | (with_reducible refine New.drew_ ?_) | (with_reducible refine New.set ?_ ?_ _ _) | (with_reducible refine New.step ?_ (by assumption)))))⟩

set_option maxRecDepth 100000 in
theorem lifted (os : Os) (started : os.Started) (H : Type) (enc : TypeId × Value → H) :
    ReturnsInHanded {} Try.checked os 6 .any (Rows.fnExactCompareFracSpec.pre6 enc Try.prog Try.f6 Rows.fnExactCompareFracRow.domain false) (Rows.fnExactCompareFracSpec.post enc Try.prog Try.f6 false true false false) := by
  refine returnsInHanded_of_change (C := Try.checked) prog_own started (by kernel_rfl) Try.func6
    (ChangeSpec.witness6 (enc := enc) (C := Try.checked) false ⟨#[], #[.agg #[.int .i64 0, .int .i64 0], .agg #[.int .i64 0, .int .i64 0]], []⟩ 8 (by kernel_rfl) (by kernel_rfl) (by kernel_rfl) (by kernel_rfl)) ?_
  intro W base args ds gs before hval0 hW _ _
  have hval : ∀ (j : Nat) t v, Try.f6.params[j]? = some t → args[j]? = some v → Value.okWide Try.prog W .any base t v := hval0
  have hW' := hW
  obtain ⟨p, q, hA0, hV, rfl, _, _⟩ := hW
  have hA : DataW.TrodAll enc Try.prog W 0 (fun _ => true) true Try.f6.params.toList args.toList ds p := hA0
  rw [Try.params6] at hA hval
  obtain ⟨v0, vs0, d0, ds0, p0, q0, hargs, rfl, rfl, h0, r0⟩ := trodAll_cons hA
  obtain ⟨v1, vs1, d1, ds1, p1, q1, rfl, rfl, rfl, h1, r1⟩ := trodAll_cons r0
  obtain ⟨rfl, rfl, rfl⟩ := trodAll_nil r1
  obtain rfl : args = #[v0, v1] := by cases args; simp_all
  obtain ⟨⟨x0, y0⟩, rfl, bx0, by0⟩ := open_ii Try.underlying23 (by kernel_rfl) rfl rfl rfl rfl (by kernel_rfl) (by kernel_rfl) Try.underlying2 Try.underlying2 (hval 0 23 v0 rfl rfl) h0
  obtain ⟨⟨x1, y1⟩, rfl, bx1, by1⟩ := open_ii Try.underlying23 (by kernel_rfl) rfl rfl rfl rfl (by kernel_rfl) (by kernel_rfl) Try.underlying2 Try.underlying2 (hval 1 23 v1 rfl rfl) h1
  refine (walk W x0 y0 bx0 by0 x1 y1 bx1 by1).mono fun e W' ⟨he, hb⟩ => ⟨_, he, ?_⟩
  exact law_post prog_laid (by kernel_rfl) rfl Try.underlying4 rfl (by intro ds h; rw [Try.params6] at h; match ds, h with | [_, _], _ => exact ⟨rfl, rfl, rfl⟩) hW' hb

theorem over : Rows.fnExactCompareFracRow.holds Try.pinned (OpenSpec.ofChange Rows.fnExactCompareFracSpec) :=
  OpenClaim.holds_of_wide 6 Try.f6 rfl rfl rfl rfl rfl rfl rfl ⟨rfl, rfl, rfl, rfl, rfl⟩ rfl rfl rfl rfl rfl (by kernel_rfl) Try.func6 (by kernel_rfl)
    (of_decide_eq_true (by kernel_rfl)) (by unfold Func.isWrapper; first | (rw [if_pos (by decide +kernel)]; kernel_rfl) | (rw [if_neg (by decide +kernel)]; exact ⟨rfl, rfl⟩))
    (fun os started H enc _ => lifted os started H enc)

theorem proved : Rows.FnExactCompareFracSaid := over
end fnExactCompareFrac
#print axioms fnExactCompareFrac.proved

end Go.Proofs.Ytbhgjkfpgdgkfaa
