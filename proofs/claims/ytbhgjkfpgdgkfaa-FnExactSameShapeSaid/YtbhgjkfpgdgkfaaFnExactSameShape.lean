/- The law FnExactSameShape returns true for every input that can be read as data. No condition. -/
import Derived.Test.YtbhgjkfpgdgkfaaSameShape
namespace Go.Proofs.Ytbhgjkfpgdgkfaa
open Go.ChangeShapes Go.WideShapes Go.ChangeAt Go.RowKit
open Go.ChangeMaps (open_string)
namespace fnExactSameShape
set_option linter.unusedVariables false
set_option maxHeartbeats 4000000 in
theorem walk (w : World) (v0 : Value) (z0 : List (Int × Int)) (r0 : Rd w 0 w.heap.size 2 v0 z0.length (z0.flatMap ptCells)) (b0 : ∀ z ∈ z0, (-9223372036854775808 ≤ z.1 ∧ z.1 ≤ 9223372036854775807) ∧ -9223372036854775808 ≤ z.2 ∧ z.2 ≤ 9223372036854775807) (v1 : Value) (z1 : List (Int × Int)) (r1 : Rd w 0 w.heap.size 2 v1 z1.length (z1.flatMap ptCells)) (b1 : ∀ z ∈ z1, (-9223372036854775808 ≤ z.1 ∧ z.1 ≤ 9223372036854775807) ∧ -9223372036854775808 ≤ z.2 ∧ z.2 ≤ 9223372036854775807) : Calls Try.prog 9 #[v0, v1] w fun e w' => e = .returned (.bool true) ∧ New w w' := by
  have HA := Lib.hid r0
  have HB := Lib.hid r1
  obtain ⟨_, hm0, _, A, c, rfl, _⟩ := r0
  obtain ⟨_, hm1, _, A', c', rfl, _⟩ := r1
  by_cases hl : z0.length ≤ 1048576
  · have E : szP 1048576 z0.length = 1048576 - z0.length := by unfold szP; rw [if_neg (by omega)]
    by_cases hl2 : z0.length + z1.length ≤ 1048576
    · have E2 : szP (1048576 - z0.length) z1.length = 1048576 - z0.length - z1.length := by unfold szP; rw [if_neg (by omega)]
      have s0 := eqL_self z0
      have s1 := eqL_self z1
      go_enter Try.func9, Try.ntmps9
      go_wp2_with fail
      refine (c_szPointS A _ c 1048576 _ hm0 (by omega) (by omega)).mono ?_
      rintro e w' ⟨rfl, rfl⟩
      rw [E]
      go_wp2_with fail
      refine (c_szPointS A' _ c' (1048576 - z0.length) _ hm1 (by omega) (by omega)).mono ?_
      rintro e w' ⟨rfl, rfl⟩
      rw [E2]
      clear E E2
      go_wp2_with fail
      refine (c_toPointS _ _ _ z0 _ HA.out hl).mono ?_
      rintro e w1 ⟨v1, rfl, hA1, n1⟩
      go_wp2_with fail
      refine (c_toPointS _ _ _ z1 _ (HB.out.new n1) (by omega)).mono ?_
      rintro e w2 ⟨v2, rfl, hB2, n2⟩
      go_wp2_with fail
      refine (c_specSameShape _ _ _ _ _ _ z0 z1 _ (hA1.rd.new n2) hB2.rd).mono ?_
      rintro e w3 ⟨rfl, n3⟩
      have N3 := (n1.step n2).step n3
      go_wp2_with fail
      refine (c_toPointS _ _ _ z0 _ (HA.out.new N3) hl).mono ?_
      rintro e w4 ⟨v4, rfl, hA4, n4⟩
      go_wp2_with fail
      refine (c_toPointS _ _ _ z1 _ ((HB.out.new N3).new n4) (by omega)).mono ?_
      rintro e w5 ⟨v5, rfl, hB5, n5⟩
      go_wp2_with fail
      refine (c_implSameShape _ _ _ _ _ _ z0 z1 _ (hA4.rd.new n5) hB5.rd).mono ?_
      rintro e w6 ⟨rfl, n6⟩
      have N6 := ((N3.step n4).step n5).step n6
      go_wp2_with fail
      refine (c_toPointS _ _ _ z0 _ (HA.out.new N6) hl).mono ?_
      rintro e w7 ⟨v7, rfl, hA7, n7⟩
      go_wp2_with fail
      refine (c_eqPointS _ _ _ _ _ _ z0 z0 _ (((hA4.rd.new n5).new n6).new n7) hA7.rd).mono ?_
      rintro e w8 ⟨rfl, n8⟩
      have N8 := (N6.step n7).step n8
      go_wp2_with fail
      refine (c_toPointS _ _ _ z1 _ (HB.out.new N8) (by omega)).mono ?_
      rintro e w9 ⟨v9, rfl, hB9, n9⟩
      go_wp2_with fail
      refine (c_eqPointS _ _ _ _ _ _ z1 z1 _ ((((hB5.rd.new n6).new n7).new n8).new n9) hB9.rd).mono ?_
      rintro e w10 ⟨rfl, n10⟩
      go_wp2
      go_ret
      exact ⟨rfl, (N8.step n9).step n10⟩
    · have E2 : szP (1048576 - z0.length) z1.length = -1 := by unfold szP; rw [if_pos (by omega)]
      go_enter Try.func9, Try.ntmps9
      go_wp2_with fail
      refine (c_szPointS A _ c 1048576 _ hm0 (by omega) (by omega)).mono ?_
      rintro e w' ⟨rfl, rfl⟩
      rw [E]
      go_wp2_with fail
      refine (c_szPointS A' _ c' (1048576 - z0.length) _ hm1 (by omega) (by omega)).mono ?_
      rintro e w' ⟨rfl, rfl⟩
      rw [E2]
      go_wp2
      go_ret
      exact ⟨rfl, New.same _⟩
  · have E : szP 1048576 z0.length = -1 := by unfold szP; rw [if_pos (by omega)]
    go_enter Try.func9, Try.ntmps9
    go_wp2_with (go_at_call 29; refine (c_szPointS A _ c 1048576 _ hm0 (by omega) (by omega)).mono ?_; rintro e w' ⟨rfl, rfl⟩; rw [E])
    go_ret
    exact ⟨rfl, New.same _⟩

set_option maxRecDepth 100000 in
theorem lifted (os : Os) (started : os.Started) (H : Type) (enc : TypeId × Value → H) :
    ReturnsInHanded {} Try.checked os 9 .any (Rows.fnExactSameShapeSpec.pre6 enc Try.prog Try.f9 Rows.fnExactSameShapeRow.domain false) (Rows.fnExactSameShapeSpec.post enc Try.prog Try.f9 false true false false) := by
  refine returnsInHanded_of_change (C := Try.checked) prog_own started (by kernel_rfl) Try.func9
    (ChangeSpec.witness6 (enc := enc) (C := Try.checked) false ⟨#[], #[.slice none 0 0, .slice none 0 0], []⟩ 8 (by kernel_rfl) (by kernel_rfl) (by kernel_rfl) (by kernel_rfl)) ?_
  intro W base args ds gs before hval0 hW _ _
  have hval : ∀ (j : Nat) t v, Try.f9.params[j]? = some t → args[j]? = some v → Value.okWide Try.prog W .any base t v := hval0
  have hW' := hW
  obtain ⟨p, q, hA0, hV, rfl, _, _⟩ := hW
  have hA : DataW.TrodAll enc Try.prog W 0 (fun _ => true) true Try.f9.params.toList args.toList ds p := hA0
  rw [Try.params9] at hA hval
  have hlt : ∀ x ∈ p, x.block < W.heap.size := fun x hx => hW'.lt x (List.mem_append_left _ hx)
  obtain ⟨v0, vs0, d0, ds0, p0, q0, hargs, rfl, rfl, h0, r0⟩ := trodAll_cons hA
  obtain ⟨v1, vs1, d1, ds1, p1, q1, rfl, rfl, rfl, h1, r1⟩ := trodAll_cons r0
  obtain ⟨rfl, rfl, rfl⟩ := trodAll_nil r1
  obtain rfl : args = #[v0, v1] := by cases args; simp_all
  have hlt0 : ∀ x ∈ p0, x.block < W.heap.size := fun x hx => hlt x (List.mem_append_left _ hx)
  have hlt1 : ∀ x ∈ p1, x.block < W.heap.size := fun x hx => hlt x (List.mem_append_right _ (List.mem_append_left _ hx))
  obtain ⟨z0, r0, b0⟩ := open_pts_rd Try.underlying36 Try.underlying72 (by kernel_rfl) rfl rfl rfl rfl (by kernel_rfl) (by kernel_rfl) Try.underlying2 Try.underlying2 (hval 0 36 v0 rfl rfl) h0 hlt0
  obtain ⟨z1, r1, b1⟩ := open_pts_rd Try.underlying36 Try.underlying72 (by kernel_rfl) rfl rfl rfl rfl (by kernel_rfl) (by kernel_rfl) Try.underlying2 Try.underlying2 (hval 1 36 v1 rfl rfl) h1 hlt1
  refine (walk W v0 z0 r0 b0 v1 z1 r1 b1).mono fun e W' ⟨he, hb⟩ => ⟨_, he, ?_⟩
  exact law_post prog_laid (by kernel_rfl) rfl Try.underlying4 rfl (by intro ds h; rw [Try.params9] at h; match ds, h with | [_, _], _ => exact ⟨rfl, rfl, rfl⟩) hW' hb

theorem over : Rows.fnExactSameShapeRow.holds Try.pinned (OpenSpec.ofChange Rows.fnExactSameShapeSpec) :=
  OpenClaim.holds_of_wide 9 Try.f9 rfl rfl rfl rfl rfl rfl rfl ⟨rfl, rfl, rfl, rfl, rfl⟩ rfl rfl rfl rfl rfl (by kernel_rfl) Try.func9 (by kernel_rfl)
    (of_decide_eq_true (by kernel_rfl)) (by unfold Func.isWrapper; first | (rw [if_pos (by decide +kernel)]; kernel_rfl) | (rw [if_neg (by decide +kernel)]; exact ⟨rfl, rfl⟩))
    (fun os started H enc _ => lifted os started H enc)

theorem proved : Rows.FnExactSameShapeSaid := over
end fnExactSameShape
#print axioms fnExactSameShape.proved

end Go.Proofs.Ytbhgjkfpgdgkfaa
