/- The law FnExactValidRule returns true for every input that can be read as data. No condition. -/
import Derived.Test.YtbhgjkfpgdgkfaaRule2
namespace Go.Proofs.Ytbhgjkfpgdgkfaa
open Go.ChangeShapes Go.WideShapes Go.ChangeAt Go.RowKit
open Go.ChangeMaps (open_string)
namespace fnExactValidRule
set_option linter.unusedVariables false
set_option maxHeartbeats 2000000 in
theorem walk (w : World) (q0 : Int) (v0 : Value) (z0 : List Int) (r0 : Rd w 0 w.heap.size 1 v0 z0.length (z0.map (Value.int .i64))) (b0 : -9223372036854775808 ≤ q0 ∧ q0 ≤ 9223372036854775807) : Calls Try.prog 11 #[.agg #[.int .i64 q0, v0]] w fun e w' => e = .returned (.bool true) ∧ New w w' := by
  have HR := Lib.hid r0
  obtain ⟨_, hm, hh, A, c, rfl, _⟩ := r0
  have n0 : New w (w.alloc (.cells #[.int .i64 q0, .slice A z0.length c] 47)) := (New.same w).box _
  have B : BoxV (w.alloc (.cells #[.int .i64 q0, .slice A z0.length c] 47)) w.heap.size [.int .i64 q0, .slice A z0.length c] := .two (by go_simp) (by go_simp) (by go_simp) (by go_simp) (by simp)
  by_cases hl : z0.length ≤ 1048576
  · have E : szI 1048576 z0.length = 1048576 - z0.length := by unfold szI; rw [if_neg (by omega)]
    have hl' : ¬ ((1048576 : Int) - (z0.length : Int) < 0) := by omega
    go_enter Try.func11, Try.ntmps11
    go_wp2_with fail
    generalize w.alloc (.cells #[.int .i64 q0, .slice A z0.length c] 47) = W0 at *
    refine (c_szRule q0 A _ c 1048576 _ hm (by omega) (by omega)).mono ?_
    rintro e w1 ⟨rfl, n1⟩
    rw [E]
    clear E
    replace n0 := n0.step n1
    replace B := B.new n1
    have ⟨⟨c1, d1⟩, _, _⟩ := B.at2
    go_wp2_with fail
    clear c1 d1 n1
    refine (c_toRule q0 _ _ _ z0 _ (HR.out.new n0) hl).mono ?_
    rintro e w2 ⟨u2, rfl, hO, n2⟩
    replace n0 := n0.step n2
    replace B := B.new n2
    have ⟨⟨c1, d1⟩, _, _⟩ := B.at2
    go_wp2_with fail
    clear c1 d1 n2
    refine (c_specValidRule q0 _ _ _ z0 _ hO.rd).mono ?_
    rintro e w3 ⟨rfl, n3⟩
    replace n0 := n0.step n3
    replace B := B.new n3
    have ⟨⟨c1, d1⟩, _, _⟩ := B.at2
    go_wp2_with fail
    clear c1 d1 n3 hO
    refine (c_toRule q0 _ _ _ z0 _ (HR.out.new n0) hl).mono ?_
    rintro e w4 ⟨u4, rfl, hO, n4⟩
    replace n0 := n0.step n4
    replace B := B.new n4
    have HO := Lib.hid hO
    obtain ⟨_, _, _, A4, c4, rfl, _⟩ := hO.rd
    have n5 : New w4 (w4.alloc (.cells #[.int .i64 q0, .slice A4 z0.length c4] 50)) := (New.same _).box _
    have B5 : BoxV (w4.alloc (.cells #[.int .i64 q0, .slice A4 z0.length c4] 50)) w4.heap.size [.int .i64 q0, .slice A4 z0.length c4] := .two (by go_simp) (by go_simp) (by go_simp) (by go_simp) (by simp)
    clear hO n4
    go_wp2_with fail
    generalize w4.alloc (.cells #[.int .i64 q0, .slice A4 z0.length c4] 50) = W5 at *
    refine (c_implValidRule q0 _ _ _ z0 _ (HO.out.rd.new n5)).mono ?_
    rintro e w6 ⟨rfl, n6⟩
    replace n0 := (n0.step n5).step n6
    replace B := (B.new n5).new n6
    replace B5 := B5.new n6
    have HP := Lib.hid ((HO.out.rd.new n5).new n6)
    clear n5 n6 HO
    go_upto_region 10 with fail
    go_region_held3 (fun w' => w'.cell? ⟨w4.heap.size, 0, none⟩ = some (.int .i64 q0) ∧ w'.cell? ⟨w4.heap.size, 1, none⟩ = some (.slice A4 z0.length c4) ∧ w'.cell? ⟨w.heap.size, 0, none⟩ = some (.int .i64 q0) ∧ w'.cell? ⟨w.heap.size, 1, none⟩ = some (.slice A z0.length c))
      (exact keepV2 (w1 := w6) (by (repeat' (first | (with_reducible exact New.same _) | (with_reducible assumption) | (with_reducible refine New.box ?_ _) | (with_reducible refine New.drew_ ?_) | (with_reducible refine New.set ?_ ?_ _ _) | (with_reducible refine New.step ?_ (by assumption))))) B5 B)
      (first | (go_at_call 40; refine (c_toRule q0 _ _ _ z0 _ (HR.out.new (New.drew_ n0)) hl).mono ?_; rintro e wa ⟨u6, rfl, hQ, na⟩) | (go_at_call 42; refine (c_eqRule_self q0 _ _ _ _ _ _ z0 _ ((HP.out.new ((New.same _).drew_)).new na) hQ.rd).mono ?_; rintro e wb ⟨rfl, nb⟩))
    go_wp2
    go_ret
    exact ⟨rfl, n0.step (by (repeat' (first | (with_reducible exact New.same _) | (with_reducible assumption) | (with_reducible refine New.box ?_ _) | (with_reducible refine New.drew_ ?_) | (with_reducible refine New.set ?_ ?_ _ _) | (with_reducible refine New.step ?_ (by assumption)))))⟩
  · have E : szI 1048576 z0.length = -1 := by unfold szI; rw [if_pos (by omega)]
    go_enter Try.func11, Try.ntmps11
    go_wp2_with fail
    refine (c_szRule q0 A _ c 1048576 _ hm (by omega) (by omega)).mono ?_
    rintro e w1 ⟨rfl, n1⟩
    rw [E]
    go_wp2
    go_ret
    exact ⟨rfl, n0.step n1⟩

set_option maxRecDepth 100000 in
theorem lifted (os : Os) (started : os.Started) (H : Type) (enc : TypeId × Value → H) :
    ReturnsInHanded {} Try.checked os 11 .any (Rows.fnExactValidRuleSpec.pre6 enc Try.prog Try.f11 Rows.fnExactValidRuleRow.domain false) (Rows.fnExactValidRuleSpec.post enc Try.prog Try.f11 false true false false) := by
  refine returnsInHanded_of_change (C := Try.checked) prog_own started (by kernel_rfl) Try.func11
    (ChangeSpec.witness6 (enc := enc) (C := Try.checked) false ⟨#[], #[.agg #[.int .i64 0, .slice none 0 0]], []⟩ 8 (by kernel_rfl) (by kernel_rfl) (by kernel_rfl) (by kernel_rfl)) ?_
  intro W base args ds gs before hval0 hW _ _
  have hval : ∀ (j : Nat) t v, Try.f11.params[j]? = some t → args[j]? = some v → Value.okWide Try.prog W .any base t v := hval0
  have hW' := hW
  obtain ⟨p, q, hA0, hV, rfl, _, _⟩ := hW
  have hA : DataW.TrodAll enc Try.prog W 0 (fun _ => true) true Try.f11.params.toList args.toList ds p := hA0
  rw [Try.params11] at hA hval
  have hlt : ∀ x ∈ p, x.block < W.heap.size := fun x hx => hW'.lt x (List.mem_append_left _ hx)
  obtain ⟨v0, vs0, d0, ds0, p0, q0, hargs, rfl, rfl, h0, r0⟩ := trodAll_cons hA
  obtain ⟨rfl, rfl, rfl⟩ := trodAll_nil r0
  obtain rfl : args = #[v0] := by cases args; simp_all
  have hlt0 : ∀ x ∈ p0, x.block < W.heap.size := fun x hx => hlt x (List.mem_append_left _ hx)
  obtain ⟨q0, u0, z0, rfl, r0, b0⟩ := open_rule Try.underlying47 (by kernel_rfl) rfl rfl rfl rfl (by kernel_rfl) (by kernel_rfl) Try.underlying2 Try.underlying45 Try.underlying2 (by kernel_rfl) (hval 0 47 v0 rfl rfl) h0 hlt0
  refine (walk W q0 u0 z0 r0 b0).mono fun e W' ⟨he, hb⟩ => ⟨_, he, ?_⟩
  exact law_post prog_laid (by kernel_rfl) rfl Try.underlying4 rfl (by intro ds h; rw [Try.params11] at h; match ds, h with | [_], _ => exact ⟨rfl, rfl, rfl⟩) hW' hb

theorem over : Rows.fnExactValidRuleRow.holds Try.pinned (OpenSpec.ofChange Rows.fnExactValidRuleSpec) :=
  OpenClaim.holds_of_wide 11 Try.f11 rfl rfl rfl rfl rfl rfl rfl ⟨rfl, rfl, rfl, rfl, rfl⟩ rfl rfl rfl rfl rfl (by kernel_rfl) Try.func11 (by kernel_rfl)
    (of_decide_eq_true (by kernel_rfl)) (by unfold Func.isWrapper; first | (rw [if_pos (by decide +kernel)]; kernel_rfl) | (rw [if_neg (by decide +kernel)]; exact ⟨rfl, rfl⟩))
    (fun os started H enc _ => lifted os started H enc)

theorem proved : Rows.FnExactValidRuleSaid := over
end fnExactValidRule
#print axioms fnExactValidRule.proved

end Go.Proofs.Ytbhgjkfpgdgkfaa
