/- The law FnExactBlockRule returns true for every input that can be read as data. No condition. -/
import Derived.Test.YtbhgjkfpgdgkfaaBlock2
namespace Go.Proofs.Ytbhgjkfpgdgkfaa
open Go.RowKit Go.Deep
open Go.ChangeShapes Go.WideShapes Go.ChangeAt Go.RowKit
open Go.ChangeMaps (open_string)
namespace fnExactBlockRule
set_option linter.unusedVariables false
set_option maxRecDepth 100000 in
set_option maxHeartbeats 4000000 in
theorem walk (w : World) (a0 : Int) (b0 : -9223372036854775808 ≤ a0 ∧ a0 ≤ 9223372036854775807) : Calls Try.prog 12 #[.int .i64 a0] w fun e w' => e = .returned (.bool true) ∧ New w w' := by
  have elr := eqL_self (bkL a0)
  have hln := bkL_len a0
  have eC : (bkC a0 != bkC a0) = false := by simp
  have N : New w w := New.same w
  go_enter Try.func12, Try.ntmps12
  go_wp2_with fail
  refine (c_specBlockRule a0 _).mono ?_
  rintro e w1 ⟨v1, rfl, ws, n1⟩
  have q1 := n1.size
  replace N := N.step n1
  obtain ⟨A_ws, c_ws_, rfl⟩ := own_slice ws.1
  have m1 : New w1 (w1.alloc (.cells #[.int .i64 (bkS a0), .slice A_ws (bkL a0).length c_ws_] 50)) := (New.same _).box _
  have G1 : BoxV (w1.alloc (.cells #[.int .i64 (bkS a0), .slice A_ws (bkL a0).length c_ws_] 50)) w1.heap.size [.int .i64 (bkS a0), .slice A_ws (bkL a0).length c_ws_] := .two (by go_simp) (by go_simp) (by go_simp) (by go_simp) (by simp)
  have qm1 := m1.size
  have qb1 : w1.heap.size < (w1.alloc (.cells #[.int .i64 (bkS a0), .slice A_ws (bkL a0).length c_ws_] 50)).heap.size := by simp
  go_wp2_with fail
  replace N := N.step m1
  replace ws := ws.new m1
  generalize (w1.alloc (.cells #[.int .i64 (bkS a0), .slice A_ws (bkL a0).length c_ws_] 50)) = W1 at *
  refine (c_implBlockRule a0 _).mono ?_
  rintro e w2 ⟨v2, rfl, gs, n2⟩
  have q2 := n2.size
  replace N := N.step n2
  replace ws := ws.new n2
  replace G1 := G1.new n2
  obtain ⟨A_gs, c_gs_, rfl⟩ := own_slice gs.1
  have m2 : New w2 (w2.alloc (.cells #[.int .i64 (bkS a0), .slice A_gs (bkL a0).length c_gs_] 50)) := (New.same _).box _
  have G2 : BoxV (w2.alloc (.cells #[.int .i64 (bkS a0), .slice A_gs (bkL a0).length c_gs_] 50)) w2.heap.size [.int .i64 (bkS a0), .slice A_gs (bkL a0).length c_gs_] := .two (by go_simp) (by go_simp) (by go_simp) (by go_simp) (by simp)
  have qm2 := m2.size
  have qb2 : w2.heap.size < (w2.alloc (.cells #[.int .i64 (bkS a0), .slice A_gs (bkL a0).length c_gs_] 50)).heap.size := by simp
  have ⟨⟨c_G1, d_G1⟩, _, l_G1⟩ := G1.at2
  go_wp2_with fail
  clear c_G1 d_G1 l_G1
  replace N := N.step m2
  replace ws := ws.new m2
  replace gs := gs.new m2
  replace G1 := G1.new m2
  generalize (w2.alloc (.cells #[.int .i64 (bkS a0), .slice A_gs (bkL a0).length c_gs_] 50)) = W2 at *
  refine (c_eqRule_self (bkS a0) _ _ _ _ _ _ (bkL a0) _ gs.rd ws.rd).mono ?_
  rintro e w3 ⟨rfl, n3⟩
  have q3 := n3.size
  replace N := N.step n3
  replace ws := ws.new n3
  replace gs := gs.new n3
  replace G1 := G1.new n3
  replace G2 := G2.new n3
  have ⟨⟨c_G1, d_G1⟩, _, l_G1⟩ := G1.at2
  have ⟨⟨c_G2, d_G2⟩, _, l_G2⟩ := G2.at2
  go_wp2_with fail
  clear c_G1 d_G1 l_G1 c_G2 d_G2 l_G2
  refine (c_markRule (bkS a0) _ _ _ _ _ _ _ gs (by omega) (by omega)).mono ?_
  rintro e w4 ⟨rfl, gm, n4⟩
  have q4 := n4.size
  replace N := N.fr n4 (by omega)
  replace ws := ws.fr n4 (by omega)
  replace G1 := G1.fr n4 (by omega)
  replace G2 := G2.fr n4 (by omega)
  have ⟨⟨c_G1, d_G1⟩, _, l_G1⟩ := G1.at2
  have ⟨⟨c_G2, d_G2⟩, _, l_G2⟩ := G2.at2
  go_wp2_with fail
  clear c_G1 d_G1 l_G1 c_G2 d_G2 l_G2
  refine (c_heldRule (bkS a0) _ _ _ _ _ _ gm.rd (by omega) (by omega)).mono ?_
  rintro e w5 ⟨rfl, n5⟩
  have q5 := n5.size
  replace N := N.step n5
  replace ws := ws.new n5
  replace gm := gm.new n5
  replace G1 := G1.new n5
  replace G2 := G2.new n5
  have ⟨⟨c_G1, d_G1⟩, _, l_G1⟩ := G1.at2
  have ⟨⟨c_G2, d_G2⟩, _, l_G2⟩ := G2.at2
  go_wp2_with fail
  clear c_G1 d_G1 l_G1 c_G2 d_G2 l_G2
  refine (c_implBlockRule a0 _).mono ?_
  rintro e w6 ⟨v6, rfl, hs, n6⟩
  have q6 := n6.size
  replace N := N.step n6
  replace ws := ws.new n6
  replace gm := gm.new n6
  replace G1 := G1.new n6
  replace G2 := G2.new n6
  obtain ⟨A_hs, c_hs_, rfl⟩ := own_slice hs.1
  have m6 : New w6 (w6.alloc (.cells #[.int .i64 (bkS a0), .slice A_hs (bkL a0).length c_hs_] 50)) := (New.same _).box _
  have G3 : BoxV (w6.alloc (.cells #[.int .i64 (bkS a0), .slice A_hs (bkL a0).length c_hs_] 50)) w6.heap.size [.int .i64 (bkS a0), .slice A_hs (bkL a0).length c_hs_] := .two (by go_simp) (by go_simp) (by go_simp) (by go_simp) (by simp)
  have qm6 := m6.size
  have qb6 : w6.heap.size < (w6.alloc (.cells #[.int .i64 (bkS a0), .slice A_hs (bkL a0).length c_hs_] 50)).heap.size := by simp
  have ⟨⟨c_G1, d_G1⟩, _, l_G1⟩ := G1.at2
  have ⟨⟨c_G2, d_G2⟩, _, l_G2⟩ := G2.at2
  go_wp2_with fail
  clear c_G1 d_G1 l_G1 c_G2 d_G2 l_G2
  replace N := N.step m6
  replace ws := ws.new m6
  replace gm := gm.new m6
  replace hs := hs.new m6
  replace G1 := G1.new m6
  replace G2 := G2.new m6
  generalize (w6.alloc (.cells #[.int .i64 (bkS a0), .slice A_hs (bkL a0).length c_hs_] 50)) = W6 at *
  refine (c_eqRule_self (bkS a0) _ _ _ _ _ _ (bkL a0) _ hs.rd ws.rd).mono ?_
  rintro e w7 ⟨rfl, n7⟩
  have q7 := n7.size
  replace N := N.step n7
  replace ws := ws.new n7
  replace gm := gm.new n7
  replace hs := hs.new n7
  replace G1 := G1.new n7
  replace G2 := G2.new n7
  replace G3 := G3.new n7
  have ⟨⟨c_G1, d_G1⟩, _, l_G1⟩ := G1.at2
  have ⟨⟨c_G2, d_G2⟩, _, l_G2⟩ := G2.at2
  have ⟨⟨c_G3, d_G3⟩, _, l_G3⟩ := G3.at2
  go_wp2_with fail
  clear c_G1 d_G1 l_G1 c_G2 d_G2 l_G2 c_G3 d_G3 l_G3
  refine (c_heldRule (bkS a0) _ _ _ _ _ _ gm.rd (by omega) (by omega)).mono ?_
  rintro e w8 ⟨rfl, n8⟩
  have q8 := n8.size
  replace N := N.step n8
  replace ws := ws.new n8
  replace gm := gm.new n8
  replace hs := hs.new n8
  replace G1 := G1.new n8
  replace G2 := G2.new n8
  replace G3 := G3.new n8
  have ⟨⟨c_G1, d_G1⟩, _, l_G1⟩ := G1.at2
  have ⟨⟨c_G2, d_G2⟩, _, l_G2⟩ := G2.at2
  have ⟨⟨c_G3, d_G3⟩, _, l_G3⟩ := G3.at2
  go_wp2
  go_ret
  exact ⟨rfl, N⟩

set_option maxRecDepth 100000 in
theorem lifted (os : Os) (started : os.Started) (H : Type) (enc : TypeId × Value → H) :
    ReturnsInHanded {} Try.checked os 12 .any (Rows.fnExactBlockRuleSpec.pre6 enc Try.prog Try.f12 Rows.fnExactBlockRuleRow.domain false) (Rows.fnExactBlockRuleSpec.post enc Try.prog Try.f12 false true false false) := by
  refine returnsInHanded_of_change (C := Try.checked) prog_own started (by kernel_rfl) Try.func12
    (ChangeSpec.witness6 (enc := enc) (C := Try.checked) false ⟨#[], #[.int .i64 0], []⟩ 8 (by kernel_rfl) (by kernel_rfl) (by kernel_rfl) (by kernel_rfl)) ?_
  intro W base args ds gs before hval0 hW _ _
  have hval : ∀ (j : Nat) t v, Try.f12.params[j]? = some t → args[j]? = some v → Value.okWide Try.prog W .any base t v := hval0
  have hW' := hW
  obtain ⟨p, q, hA0, hV, rfl, _, _⟩ := hW
  have hA : DataW.TrodAll enc Try.prog W 0 (fun _ => true) true Try.f12.params.toList args.toList ds p := hA0
  rw [Try.params12] at hA hval
  obtain ⟨v0, vs0, d0, ds0, p0, q0, hargs, rfl, rfl, h0, t0⟩ := trodAll_cons hA
  obtain ⟨rfl, rfl, rfl⟩ := trodAll_nil t0
  obtain rfl : args = #[v0] := by cases args; simp_all
  obtain ⟨a0, rfl, b0⟩ := open_i64 Try.underlying2 (hval 0 2 v0 rfl rfl) h0
  refine (walk W a0 b0).mono fun e W' ⟨he, hb⟩ => ⟨_, he, ?_⟩
  exact law_post prog_laid (by kernel_rfl) rfl Try.underlying4 rfl (by intro ds h; rw [Try.params12] at h; match ds, h with | [_], _ => exact ⟨rfl, rfl, rfl⟩) hW' hb

theorem over : Rows.fnExactBlockRuleRow.holds Try.pinned (OpenSpec.ofChange Rows.fnExactBlockRuleSpec) :=
  OpenClaim.holds_of_wide 12 Try.f12 rfl rfl rfl rfl rfl rfl rfl ⟨rfl, rfl, rfl, rfl, rfl⟩ rfl rfl rfl rfl rfl (by kernel_rfl) Try.func12 (by kernel_rfl)
    (of_decide_eq_true (by kernel_rfl)) (by unfold Func.isWrapper; first | (rw [if_pos (by decide +kernel)]; kernel_rfl) | (rw [if_neg (by decide +kernel)]; exact ⟨rfl, rfl⟩))
    (fun os started H enc _ => lifted os started H enc)

theorem proved : Rows.FnExactBlockRuleSaid := over
end fnExactBlockRule
#print axioms fnExactBlockRule.proved

end Go.Proofs.Ytbhgjkfpgdgkfaa
