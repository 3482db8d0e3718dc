/- The law FnExactStepElementary returns true for every input that can be read as data. No condition. -/
import Derived.Test.YtbhgjkfpgdgkfaaElem
namespace Go.Proofs.Ytbhgjkfpgdgkfaa
open Go.ChangeShapes Go.WideShapes Go.ChangeAt Go.RowKit
open Go.ChangeMaps (open_string)
namespace fnExactStepElementary
set_option linter.unusedVariables false
set_option maxHeartbeats 4000000 in
theorem walk (w : World) (a0 : Int) (b0 : -9223372036854775808 ≤ a0 ∧ a0 ≤ 9223372036854775807) (v1 : Value) (z1 : List Int) (r1 : Rd w 0 w.heap.size 1 v1 z1.length (z1.map (Value.int .i64))) (b1 : ∀ z ∈ z1, -9223372036854775808 ≤ z ∧ z ≤ 9223372036854775807) : Calls Try.prog 14 #[.int .i64 a0, v1] w fun e w' => e = .returned (.bool true) ∧ New w w' := by
  have HR := Lib.hid r1
  obtain ⟨_, hm, hh, A, c, rfl, _⟩ := r1
  by_cases hl : z1.length ≤ 1048576
  · have hs := eqL_self z1
    have hs2 := eqL_self (stList a0 z1)
    have hln := stList_len a0 z1
    go_enter Try.func14, Try.ntmps14
    go_wp2_with fail
    refine (c_toInt64S _ _ _ z1 _ HR.out hl).mono ?_
    rintro e w1 ⟨v1, rfl, hO, n1⟩
    go_wp2_with fail
    refine (c_specStep _ _ _ _ z1 _ hO.rd).mono ?_
    rintro e w2 ⟨v2, rfl, hS, n2⟩
    go_wp2_with fail
    refine (c_toInt64S _ _ _ z1 _ ((HR.out.new n1).new n2) hl).mono ?_
    rintro e w3 ⟨v3, rfl, hX, n3⟩
    go_wp2_with fail
    refine (c_implStep _ _ _ _ z1 _ hX.rd).mono ?_
    rintro e w4 ⟨v4, rfl, hG, n4⟩
    go_wp2_with fail
    refine (c_eqInt64S _ _ _ _ _ _ (stList a0 z1) (stList a0 z1) _ hG.rd ((hS.rd.new n3).new n4)).mono ?_
    rintro e w5 ⟨rfl, n5⟩
    go_wp2_with fail
    refine (c_toInt64S _ _ _ z1 _ (((((HR.out.new n1).new n2).new n3).new n4).new n5) hl).mono ?_
    rintro e w6 ⟨v6, rfl, hT, n6⟩
    go_wp2_with fail
    refine (c_eqInt64S _ _ _ _ _ _ z1 z1 _ (((hX.rd.new n4).new n5).new n6) hT.rd).mono ?_
    rintro e w7 ⟨rfl, n7⟩
    go_wp2_with fail
    refine (c_markInt64S _ _ _ _ _ _ _ ((((hX.new n4).new n5).new n6).new n7) (by omega) (by omega)).mono ?_
    rintro e w8 ⟨rfl, hM, f8⟩
    have hG8 := (((hG.new n5).new n6).new n7).fr f8 (.inr (Nat.le_refl _))
    have hS8 := (((((hS.rd.new n3).new n4).new n5).new n6).new n7).fr f8 (.inl (Nat.le_refl _))
    have hR8 := (((((((HR.out.new n1).new n2).new n3).new n4).new n5).new n6).new n7).fr f8 (.inl (Nat.le_trans n1.size n2.size))
    have N8 : New w w8 := (((((((n1.step n2).step n3).step n4).step n5).step n6).step n7)).fr f8 (Nat.le_trans n1.size n2.size)
    go_wp2_with fail
    refine (c_eqInt64S _ _ _ _ _ _ (stList a0 z1) (stList a0 z1) _ hG8.rd hS8).mono ?_
    rintro e w9 ⟨rfl, n9⟩
    go_wp2_with fail
    refine (c_markInt64S _ _ _ _ _ _ _ (hG8.new n9) (by omega) (by omega)).mono ?_
    rintro e w10 ⟨rfl, hM2, f10⟩
    have hS10 := (hS8.new n9).fr f10 (.inl n3.size)
    have hR10 := (hR8.new n9).fr f10 (.inl (Nat.le_trans (Nat.le_trans n1.size n2.size) n3.size))
    have N10 : New w w10 := (N8.step n9).fr f10 (Nat.le_trans (Nat.le_trans n1.size n2.size) n3.size)
    go_wp2_with fail
    refine (c_heldInt64S _ _ _ _ _ _ hM2.rd (by omega) (by omega)).mono ?_
    rintro e w11 ⟨rfl, n11⟩
    go_wp2_with fail
    refine (c_toInt64S _ _ _ z1 _ (hR10.new n11) hl).mono ?_
    rintro e w12 ⟨v12, rfl, hY, n12⟩
    go_wp2_with fail
    refine (c_implStep _ _ _ _ z1 _ hY.rd).mono ?_
    rintro e w13 ⟨v13, rfl, hH, n13⟩
    go_wp2_with fail
    refine (c_eqInt64S _ _ _ _ _ _ (stList a0 z1) (stList a0 z1) _ hH.rd (((hS10.new n11).new n12).new n13)).mono ?_
    rintro e w14 ⟨rfl, n14⟩
    go_wp2_with fail
    refine (c_heldInt64S _ _ _ _ _ _ ((((hM2.rd.new n11).new n12).new n13).new n14) (by omega) (by omega)).mono ?_
    rintro e w15 ⟨rfl, n15⟩
    go_wp2
    go_ret
    exact ⟨rfl, ((((N10.step n11).step n12).step n13).step n14).step n15⟩
  · go_enter Try.func14, Try.ntmps14
    go_wp2
    go_ret
    exact ⟨rfl, New.same _⟩

set_option maxRecDepth 100000 in
theorem lifted (os : Os) (started : os.Started) (H : Type) (enc : TypeId × Value → H) :
    ReturnsInHanded {} Try.checked os 14 .any (Rows.fnExactStepElementarySpec.pre6 enc Try.prog Try.f14 Rows.fnExactStepElementaryRow.domain false) (Rows.fnExactStepElementarySpec.post enc Try.prog Try.f14 false true false false) := by
  refine returnsInHanded_of_change (C := Try.checked) prog_own started (by kernel_rfl) Try.func14
    (ChangeSpec.witness6 (enc := enc) (C := Try.checked) false ⟨#[], #[.int .i64 0, .slice none 0 0], []⟩ 8 (by kernel_rfl) (by kernel_rfl) (by kernel_rfl) (by kernel_rfl)) ?_
  intro W base args ds gs before hval0 hW _ _
  have hval : ∀ (j : Nat) t v, Try.f14.params[j]? = some t → args[j]? = some v → Value.okWide Try.prog W .any base t v := hval0
  have hW' := hW
  obtain ⟨p, q, hA0, hV, rfl, _, _⟩ := hW
  have hA : DataW.TrodAll enc Try.prog W 0 (fun _ => true) true Try.f14.params.toList args.toList ds p := hA0
  rw [Try.params14] at hA hval
  have hlt : ∀ x ∈ p, x.block < W.heap.size := fun x hx => hW'.lt x (List.mem_append_left _ hx)
  obtain ⟨v0, vs0, d0, ds0, p0, q0, hargs, rfl, rfl, h0, r0⟩ := trodAll_cons hA
  obtain ⟨v1, vs1, d1, ds1, p1, q1, rfl, rfl, rfl, h1, r1⟩ := trodAll_cons r0
  obtain ⟨rfl, rfl, rfl⟩ := trodAll_nil r1
  obtain rfl : args = #[v0, v1] := by cases args; simp_all
  have hlt1 : ∀ x ∈ p1, x.block < W.heap.size := fun x hx => hlt x (List.mem_append_right _ (List.mem_append_left _ hx))
  obtain ⟨a0, rfl, b0⟩ := open_i64 Try.underlying2 (hval 0 2 v0 rfl rfl) h0
  obtain ⟨z1, r1, b1⟩ := open_ints_rd Try.underlying45 Try.underlying2 (by kernel_rfl) (hval 1 45 v1 rfl rfl) h1 hlt1
  refine (walk W a0 b0 v1 z1 r1 b1).mono fun e W' ⟨he, hb⟩ => ⟨_, he, ?_⟩
  exact law_post prog_laid (by kernel_rfl) rfl Try.underlying4 rfl (by intro ds h; rw [Try.params14] at h; match ds, h with | [_, _], _ => exact ⟨rfl, rfl, rfl⟩) hW' hb

theorem over : Rows.fnExactStepElementaryRow.holds Try.pinned (OpenSpec.ofChange Rows.fnExactStepElementarySpec) :=
  OpenClaim.holds_of_wide 14 Try.f14 rfl rfl rfl rfl rfl rfl rfl ⟨rfl, rfl, rfl, rfl, rfl⟩ rfl rfl rfl rfl rfl (by kernel_rfl) Try.func14 (by kernel_rfl)
    (of_decide_eq_true (by kernel_rfl)) (by unfold Func.isWrapper; first | (rw [if_pos (by decide +kernel)]; kernel_rfl) | (rw [if_neg (by decide +kernel)]; exact ⟨rfl, rfl⟩))
    (fun os started H enc _ => lifted os started H enc)

theorem proved : Rows.FnExactStepElementarySaid := over
end fnExactStepElementary
#print axioms fnExactStepElementary.proved

end Go.Proofs.Ytbhgjkfpgdgkfaa
