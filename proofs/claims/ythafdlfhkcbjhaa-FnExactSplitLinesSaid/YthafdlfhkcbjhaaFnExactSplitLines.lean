/- The law FnExactSplitLines returns true for every input that can be read as data. No condition. -/
import Derived.Test.YthafdlfhkcbjhaaLines
import Derived.Test.YthafdlfhkcbjhaaStrS
namespace Go.Proofs.Ythafdlfhkcbjhaa
open Go.ChangeShapes Go.WideShapes Go.ChangeAt Go.RowKit
open Go.ChangeMaps (open_string)
namespace fnExactSplitLines
set_option linter.unusedVariables false
theorem walk (w : World) (s0 : ByteArray) (b0 : s0.size ≤ maxLen) : Calls Try.prog 4 #[.string s0] w fun e w' => e = .returned (.bool true) ∧ New w w' := by
  by_cases hi : s0.size ≤ 1048576
  · have hd : decide ((1048576 : Int) < (s0.size : Int)) = false := by simp; omega
    obtain ⟨X, hX⟩ : ∃ X, lnS s0 = X := ⟨_, rfl⟩
    have hXl : X.length ≤ 1048577 := by rw [← hX]; exact Nat.le_trans (lnS_le s0) (by omega)
    obtain ⟨Z, hZ⟩ : ∃ Z : Nat, 1 + X.length = Z := ⟨_, rfl⟩
    have hz1 : decide ((Z : Int) < 0) = false := by simp
    have hz2 : ((Z : Int) != (Z : Int)) = false := by simp
    go_enter Try.func4, Try.ntmps4
    go_wp2_with fail
    refine (c_specLines s0 _ hi).mono ?_
    rintro e w1 ⟨ws, rfl, W1, n1⟩
    rw [hX] at W1
    go_wp2_with fail
    refine (c_implLines s0 _ hi).mono ?_
    rintro e w2 ⟨gs, rfl, G2, n2⟩
    rw [hX] at G2
    have W2 := W1.new n2
    go_wp2_with fail
    refine (c_eqStringS_self _ _ _ _ _ _ X _ G2.rd W2.rd).mono ?_
    rintro e w3 ⟨rfl, n3⟩
    have W3 := W2.new n3
    have G3 := G2.new n3
    go_wp2_with fail
    refine (c_markStringS _ _ _ _ _ 1 _ G3 (by omega)).mono ?_
    rintro e w4 ⟨rfl, M4, f4⟩
    have q1 := n1.size
    have W4 := W3.fr f4 (.inl (Nat.le_refl _))
    have N4 := ((n1.step n2).step n3).fr f4 q1
    rw [hZ]
    go_wp2_with fail
    refine (c_heldStringS _ _ _ _ 1 _ M4.rd (by omega)).mono ?_
    rintro e w5 ⟨rfl, n5⟩
    rw [hZ]
    have W5 := W4.new n5
    have M5 := M4.new n5
    go_wp2_with fail
    refine (c_implLines s0 _ hi).mono ?_
    rintro e w6 ⟨hs, rfl, H6, n6⟩
    rw [hX] at H6
    have W6 := W5.new n6
    have M6 := M5.new n6
    go_wp2_with fail
    refine (c_eqStringS_self _ _ _ _ _ _ X _ H6.rd W6.rd).mono ?_
    rintro e w7 ⟨rfl, n7⟩
    have M7 := M6.new n7
    go_wp2_with fail
    refine (c_heldStringS _ _ _ _ 1 _ M7.rd (by omega)).mono ?_
    rintro e w8 ⟨rfl, n8⟩
    rw [hZ]
    go_wp2
    go_ret
    exact ⟨rfl, ((((N4.step n5).step n6).step n7).step n8)⟩
  · have hd : decide ((1048576 : Int) < (s0.size : Int)) = true := by simp; omega
    go_enter Try.func4, Try.ntmps4
    go_wp2
    go_ret
    exact ⟨rfl, New.same _⟩

set_option maxRecDepth 100000 in
theorem lifted (os : Os) (started : os.Started) (H : Type) (enc : TypeId × Value → H) :
    ReturnsInHanded {} Try.checked os 4 .any (Rows.fnExactSplitLinesSpec.pre6 enc Try.prog Try.f4 Rows.fnExactSplitLinesRow.domain false) (Rows.fnExactSplitLinesSpec.post enc Try.prog Try.f4 false true false false) := by
  refine returnsInHanded_of_change (C := Try.checked) prog_own started (by kernel_rfl) Try.func4
    (ChangeSpec.witness6 (enc := enc) (C := Try.checked) false ⟨#[], #[.string ⟨#[]⟩], []⟩ 8 (by kernel_rfl) (by kernel_rfl) (by kernel_rfl) (by kernel_rfl)) ?_
  intro W base args ds gs before hval0 hW _ _
  have hval : ∀ (j : Nat) t v, Try.f4.params[j]? = some t → args[j]? = some v → Value.okWide Try.prog W .any base t v := hval0
  have hW' := hW
  obtain ⟨p, q, hA0, hV, rfl, _, _⟩ := hW
  have hA : DataW.TrodAll enc Try.prog W 0 (fun _ => true) true Try.f4.params.toList args.toList ds p := hA0
  rw [Try.params4] at hA hval
  obtain ⟨v0, vs0, d0, ds0, p0, q0, hargs, rfl, rfl, h0, t0⟩ := trodAll_cons hA
  obtain ⟨rfl, rfl, rfl⟩ := trodAll_nil t0
  obtain rfl : args = #[v0] := by cases args; simp_all
  obtain ⟨s0, rfl, _, _, b0⟩ := open_string Try.underlying9 (hval 0 9 v0 rfl rfl) h0
  refine (walk W s0 b0).mono fun e W' ⟨he, hb⟩ => ⟨_, he, ?_⟩
  exact law_post prog_laid (by kernel_rfl) rfl Try.underlying4 rfl (by intro ds h; rw [Try.params4] at h; match ds, h with | [_], _ => exact ⟨rfl, rfl, rfl⟩) hW' hb

theorem over : Rows.fnExactSplitLinesRow.holds Try.pinned (OpenSpec.ofChange Rows.fnExactSplitLinesSpec) :=
  OpenClaim.holds_of_wide 4 Try.f4 rfl rfl rfl rfl rfl rfl rfl ⟨rfl, rfl, rfl, rfl, rfl⟩ rfl rfl rfl rfl rfl (by kernel_rfl) Try.func4 (by kernel_rfl)
    (of_decide_eq_true (by kernel_rfl)) (by unfold Func.isWrapper; first | (rw [if_pos (by decide +kernel)]; kernel_rfl) | (rw [if_neg (by decide +kernel)]; exact ⟨rfl, rfl⟩))
    (fun os started H enc _ => lifted os started H enc)

theorem proved : Rows.FnExactSplitLinesSaid := over
end fnExactSplitLines
#print axioms fnExactSplitLines.proved

end Go.Proofs.Ythafdlfhkcbjhaa
