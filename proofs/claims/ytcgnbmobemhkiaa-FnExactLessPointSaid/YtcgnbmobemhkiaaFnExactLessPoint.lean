/- The law FnExactLessPoint returns true for every input that can be read as data. No condition. -/
import Derived.Test.YtcgnbmobemhkiaaPt
namespace Go.Proofs.Ytcgnbmobemhkiaa
open Go.ChangeShapes Go.WideShapes Go.ChangeAt Go.RowKit
namespace fnExactLessPoint
set_option linter.unusedVariables false
set_option maxHeartbeats 1000000 in
theorem walk (w : World) (x0 y0 : Int) (bx0 : -9223372036854775808 ≤ x0 ∧ x0 ≤ 9223372036854775807) (by0 : -9223372036854775808 ≤ y0 ∧ y0 ≤ 9223372036854775807) (x1 y1 : Int) (bx1 : -9223372036854775808 ≤ x1 ∧ x1 ≤ 9223372036854775807) (by1 : -9223372036854775808 ≤ y1 ∧ y1 ≤ 9223372036854775807) : Calls Try.prog 10 #[.agg #[.int .i64 x0, .int .i64 y0], .agg #[.int .i64 x1, .int .i64 y1]] w fun e w' => e = .returned (.bool true) ∧ New w w' := by
  go_enter Try.func10, Try.ntmps10
  go_wp2_with fail
  have n0 : New w ((w.alloc (.cells #[.int .i64 x0, .int .i64 y0] 26)).alloc (.cells #[.int .i64 x1, .int .i64 y1] 26)) := ((New.same w).box _).box _
  have z0 : w.heap.size + 1 < ((w.alloc (.cells #[.int .i64 x0, .int .i64 y0] 26)).alloc (.cells #[.int .i64 x1, .int .i64 y1] 26)).heap.size := by simp
  have c0 : ((w.alloc (.cells #[.int .i64 x0, .int .i64 y0] 26)).alloc (.cells #[.int .i64 x1, .int .i64 y1] 26)).cell? ⟨w.heap.size, 0, none⟩ = some (.int .i64 x0) := by go_simp
  have d0 : ((w.alloc (.cells #[.int .i64 x0, .int .i64 y0] 26)).alloc (.cells #[.int .i64 x1, .int .i64 y1] 26)).cell? ⟨w.heap.size, 1, none⟩ = some (.int .i64 y0) := by go_simp
  have e0 : ((w.alloc (.cells #[.int .i64 x0, .int .i64 y0] 26)).alloc (.cells #[.int .i64 x1, .int .i64 y1] 26)).cell? ⟨w.heap.size + 1, 0, none⟩ = some (.int .i64 x1) := by go_simp
  have f0 : ((w.alloc (.cells #[.int .i64 x0, .int .i64 y0] 26)).alloc (.cells #[.int .i64 x1, .int .i64 y1] 26)).cell? ⟨w.heap.size + 1, 1, none⟩ = some (.int .i64 y1) := by go_simp
  generalize (w.alloc (.cells #[.int .i64 x0, .int .i64 y0] 26)).alloc (.cells #[.int .i64 x1, .int .i64 y1] 26) = W0 at *
  go_region_held3 (fun w' => w'.cell? ⟨w.heap.size, 0, none⟩ = some (.int .i64 x0) ∧ w'.cell? ⟨w.heap.size, 1, none⟩ = some (.int .i64 y0) ∧ w'.cell? ⟨w.heap.size + 1, 0, none⟩ = some (.int .i64 x1) ∧ w'.cell? ⟨w.heap.size + 1, 1, none⟩ = some (.int .i64 y1) ∧ w.heap.size + 1 < w'.heap.size ∧ New w w')
    (first | (go_split_ands; refine ⟨(na.cell (by simp; omega)).trans (by assumption), (na.cell (by simp; omega)).trans (by assumption), (na.cell (by simp; omega)).trans (by assumption), (na.cell (by simp; omega)).trans (by assumption), Nat.lt_of_lt_of_le (by assumption) na.size, New.step (by assumption) na⟩) | exact ⟨c0, d0, e0, f0, z0, n0.drew_⟩ | go_keep)
    (first | (go_at_call 18; refine (c_toPoint _ _ _).mono ?_; rintro e wa ⟨rfl, na⟩) | (go_at_call 28; refine (c_specLess _ _ _ _ _).mono ?_; rintro e wa ⟨rfl, na⟩))
  rename_i hH
  obtain ⟨c1, d1, e1, f1, z1, n1⟩ := hH
  go_wp2_with fail
  go_region_held3 (fun w' => w'.cell? ⟨w.heap.size, 0, none⟩ = some (.int .i64 x0) ∧ w'.cell? ⟨w.heap.size, 1, none⟩ = some (.int .i64 y0) ∧ w'.cell? ⟨w.heap.size + 1, 0, none⟩ = some (.int .i64 x1) ∧ w'.cell? ⟨w.heap.size + 1, 1, none⟩ = some (.int .i64 y1) ∧ w.heap.size + 1 < w'.heap.size ∧ New w w')
    (first | (go_split_ands; refine ⟨(nb.cell (by simp; omega)).trans (by assumption), (nb.cell (by simp; omega)).trans (by assumption), (nb.cell (by simp; omega)).trans (by assumption), (nb.cell (by simp; omega)).trans (by assumption), Nat.lt_of_lt_of_le (by assumption) nb.size, New.step (by assumption) nb⟩) | exact ⟨c1, d1, e1, f1, z1, n1.drew_⟩ | go_keep)
    (first | (go_at_call 18; refine (c_toPoint _ _ _).mono ?_; rintro e wb ⟨rfl, nb⟩) | (go_at_call 29; refine (c_implLess _ _ _ _ _).mono ?_; rintro e wb ⟨rfl, nb⟩))
  rename_i hH
  obtain ⟨_, _, _, _, _, n2⟩ := hH
  go_wp2
  go_ret
  exact ⟨rfl, n2⟩

set_option maxRecDepth 100000 in
theorem lifted (os : Os) (started : os.Started) (H : Type) (enc : TypeId × Value → H) :
    ReturnsInHanded {} Try.checked os 10 .any (Rows.fnExactLessPointSpec.pre6 enc Try.prog Try.f10 Rows.fnExactLessPointRow.domain false) (Rows.fnExactLessPointSpec.post enc Try.prog Try.f10 false true false false) := by
  refine returnsInHanded_of_change (C := Try.checked) prog_own started (by kernel_rfl) Try.func10
    (ChangeSpec.witness6 (enc := enc) (C := Try.checked) false ⟨#[], #[.agg #[.int .i64 0, .int .i64 0], .agg #[.int .i64 0, .int .i64 0]], []⟩ 8 (by kernel_rfl) (by kernel_rfl) (by kernel_rfl) (by kernel_rfl)) ?_
  intro W base args ds gs before hval0 hW _ _
  have hval : ∀ (j : Nat) t v, Try.f10.params[j]? = some t → args[j]? = some v → Value.okWide Try.prog W .any base t v := hval0
  have hW' := hW
  obtain ⟨p, q, hA0, hV, rfl, _, _⟩ := hW
  have hA : DataW.TrodAll enc Try.prog W 0 (fun _ => true) true Try.f10.params.toList args.toList ds p := hA0
  rw [Try.params10] at hA hval
  obtain ⟨v0, vs0, d0, ds0, p0, q0, hargs, rfl, rfl, h0, r0⟩ := trodAll_cons hA
  obtain ⟨v1, vs1, d1, ds1, p1, q1, rfl, rfl, rfl, h1, r1⟩ := trodAll_cons r0
  obtain ⟨rfl, rfl, rfl⟩ := trodAll_nil r1
  obtain rfl : args = #[v0, v1] := by cases args; simp_all
  obtain ⟨⟨x0, y0⟩, rfl, bx0, by0⟩ := open_ii Try.underlying26 (by kernel_rfl) rfl rfl rfl rfl (by kernel_rfl) (by kernel_rfl) Try.underlying2 Try.underlying2 (hval 0 26 v0 rfl rfl) h0
  obtain ⟨⟨x1, y1⟩, rfl, bx1, by1⟩ := open_ii Try.underlying26 (by kernel_rfl) rfl rfl rfl rfl (by kernel_rfl) (by kernel_rfl) Try.underlying2 Try.underlying2 (hval 1 26 v1 rfl rfl) h1
  refine (walk W x0 y0 bx0 by0 x1 y1 bx1 by1).mono fun e W' ⟨he, hb⟩ => ⟨_, he, ?_⟩
  exact law_post prog_laid (by kernel_rfl) rfl Try.underlying4 rfl (by intro ds h; rw [Try.params10] at h; match ds, h with | [_, _], _ => exact ⟨rfl, rfl, rfl⟩) hW' hb

theorem over : Rows.fnExactLessPointRow.holds Try.pinned (OpenSpec.ofChange Rows.fnExactLessPointSpec) :=
  OpenClaim.holds_of_wide 10 Try.f10 rfl rfl rfl rfl rfl rfl rfl ⟨rfl, rfl, rfl, rfl, rfl⟩ rfl rfl rfl rfl rfl (by kernel_rfl) Try.func10 (by kernel_rfl)
    (of_decide_eq_true (by kernel_rfl)) (by unfold Func.isWrapper; first | (rw [if_pos (by decide +kernel)]; kernel_rfl) | (rw [if_neg (by decide +kernel)]; exact ⟨rfl, rfl⟩))
    (fun os started H enc _ => lifted os started H enc)

theorem proved : Rows.FnExactLessPointSaid := over
end fnExactLessPoint
#print axioms fnExactLessPoint.proved

end Go.Proofs.Ytcgnbmobemhkiaa
