/- The law FnExactNumberOf returns true for every input that can be read as data. No condition. -/
import Derived.Test.YtcgnbmobemhkiaaNumOf
namespace Go.Proofs.Ytcgnbmobemhkiaa
open Go.ChangeShapes Go.WideShapes Go.ChangeAt Go.RowKit
namespace fnExactNumberOf
set_option linter.unusedVariables false
set_option maxHeartbeats 2000000 in
theorem walk (w : World) (a0 : Int) (b0 : -9223372036854775808 ≤ a0 ∧ a0 ≤ 9223372036854775807) (v1 : Value) (z1 : List Int) (r1 : Rd w 0 w.heap.size 1 v1 z1.length (z1.map (Value.int .i64))) (b1 : ∀ z ∈ z1, -9223372036854775808 ≤ z ∧ z ≤ 9223372036854775807) : Calls Try.prog 14 #[.int .i64 a0, v1] w fun e w' => e = .returned (.bool true) ∧ New w w' := by
  have HR := Lib.hid r1
  obtain ⟨_, hm, hh, A, c, rfl, _⟩ := r1
  by_cases hl : z1.length ≤ 1048576
  · have hs := eqL_self z1
    go_enter Try.func14, Try.ntmps14
    go_wp2_with fail
    refine (c_toInt64S _ _ _ z1 _ HR.out hl).mono ?_
    rintro e w1 ⟨v1, rfl, hO, n1⟩
    go_wp2_with fail
    refine (c_specNumberOf _ _ _ _ z1 _ hO.rd).mono ?_
    rintro e w2 ⟨rfl, n2⟩
    go_wp2_with fail
    refine (c_toInt64S _ _ _ z1 _ ((HR.out.new n1).new n2) hl).mono ?_
    rintro e w3 ⟨v3, rfl, hP, n3⟩
    go_wp2_with fail
    refine (c_implNumberOf _ _ _ _ z1 _ hP.rd).mono ?_
    rintro e w4 ⟨rfl, n4⟩
    go_wp2_with fail
    refine (c_toInt64S _ _ _ z1 _ ((((HR.out.new n1).new n2).new n3).new n4) hl).mono ?_
    rintro e w5 ⟨v5, rfl, hQ, n5⟩
    go_wp2_with fail
    refine (c_eqInt64S _ _ _ _ _ _ z1 z1 _ ((hP.rd.new n4).new n5) hQ.rd).mono ?_
    rintro e w6 ⟨rfl, n6⟩
    go_wp2
    go_ret
    exact ⟨rfl, ((((n1.step n2).step n3).step n4).step n5).step n6⟩
  · go_enter Try.func14, Try.ntmps14
    go_wp2
    go_ret
    exact ⟨rfl, New.same _⟩

set_option maxRecDepth 100000 in
theorem lifted (os : Os) (started : os.Started) (H : Type) (enc : TypeId × Value → H) :
    ReturnsInHanded {} Try.checked os 14 .any (Rows.fnExactNumberOfSpec.pre6 enc Try.prog Try.f14 Rows.fnExactNumberOfRow.domain false) (Rows.fnExactNumberOfSpec.post enc Try.prog Try.f14 false true false false) := by
  refine returnsInHanded_of_change (C := Try.checked) prog_own started (by kernel_rfl) Try.func14
    (ChangeSpec.witness6 (enc := enc) (C := Try.checked) false ⟨#[], #[.int .i64 0, .slice none 0 0], []⟩ 8 (by kernel_rfl) (by kernel_rfl) (by kernel_rfl) (by kernel_rfl)) ?_
  intro W base args ds gs before hval0 hW _ _
  have hval : ∀ (j : Nat) t v, Try.f14.params[j]? = some t → args[j]? = some v → Value.okWide Try.prog W .any base t v := hval0
  have hW' := hW
  obtain ⟨p, q, hA0, hV, rfl, _, _⟩ := hW
  have hA : DataW.TrodAll enc Try.prog W 0 (fun _ => true) true Try.f14.params.toList args.toList ds p := hA0
  rw [Try.params14] at hA hval
  have hlt : ∀ x ∈ p, x.block < W.heap.size := fun x hx => hW'.lt x (List.mem_append_left _ hx)
  obtain ⟨v0, vs0, d0, ds0, p0, q0, hargs, rfl, rfl, h0, r0⟩ := trodAll_cons hA
  obtain ⟨v1, vs1, d1, ds1, p1, q1, rfl, rfl, rfl, h1, r1⟩ := trodAll_cons r0
  obtain ⟨rfl, rfl, rfl⟩ := trodAll_nil r1
  obtain rfl : args = #[v0, v1] := by cases args; simp_all
  have hlt1 : ∀ x ∈ p1, x.block < W.heap.size := fun x hx => hlt x (List.mem_append_right _ (List.mem_append_left _ hx))
  obtain ⟨a0, rfl, b0⟩ := open_i64 Try.underlying2 (hval 0 2 v0 rfl rfl) h0
  obtain ⟨z1, r1, b1⟩ := open_ints_rd Try.underlying38 Try.underlying2 (by kernel_rfl) (hval 1 38 v1 rfl rfl) h1 hlt1
  refine (walk W a0 b0 v1 z1 r1 b1).mono fun e W' ⟨he, hb⟩ => ⟨_, he, ?_⟩
  exact law_post prog_laid (by kernel_rfl) rfl Try.underlying4 rfl (by intro ds h; rw [Try.params14] at h; match ds, h with | [_, _], _ => exact ⟨rfl, rfl, rfl⟩) hW' hb

theorem over : Rows.fnExactNumberOfRow.holds Try.pinned (OpenSpec.ofChange Rows.fnExactNumberOfSpec) :=
  OpenClaim.holds_of_wide 14 Try.f14 rfl rfl rfl rfl rfl rfl rfl ⟨rfl, rfl, rfl, rfl, rfl⟩ rfl rfl rfl rfl rfl (by kernel_rfl) Try.func14 (by kernel_rfl)
    (of_decide_eq_true (by kernel_rfl)) (by unfold Func.isWrapper; first | (rw [if_pos (by decide +kernel)]; kernel_rfl) | (rw [if_neg (by decide +kernel)]; exact ⟨rfl, rfl⟩))
    (fun os started H enc _ => lifted os started H enc)

theorem proved : Rows.FnExactNumberOfSaid := over
end fnExactNumberOf
#print axioms fnExactNumberOf.proved

end Go.Proofs.Ytcgnbmobemhkiaa
