/- The law FnExactPointsOf returns true for every input that can be read as data. No condition. -/
import Derived.Test.YtnbpcdnncfkgjaaAsmPts
import Derived.Test.YtnbpcdnncfkgjaaMkPoint
namespace Go.Proofs.Ytnbpcdnncfkgjaa
open Go.ChangeShapes Go.WideShapes Go.ChangeAt Go.RowKit
open Go.ChangeMaps (open_string)
namespace fnExactPointsOf
set_option linter.unusedVariables false
set_option maxRecDepth 100000 in
set_option maxHeartbeats 4000000 in
theorem walk (w : World) (v0 : Value) (z0 : List ((Int × Int) × Int)) (r0 : Rd w 0 w.heap.size 3 v0 z0.length (z0.flatMap plCells)) : Calls Try.prog 5 #[.agg #[v0]] w fun e w' => e = .returned (.bool true) ∧ New w w' := by
  have R0 := r0
  obtain ⟨_, hm0, _, A0, c0, rfl, _⟩ := r0
  have N : New w (w.alloc (.cells #[.slice A0 z0.length c0] 24)) := ((New.same w).box _)
  have P0 : BoxV (w.alloc (.cells #[.slice A0 z0.length c0] 24)) w.heap.size [.slice A0 z0.length c0] := .one (by go_simp) (by go_simp) (by simp <;> omega)
  by_cases hl0 : z0.length ≤ 1048576
  · have E0 : szL (1048576) z0.length = 1048576 - z0.length := szL_yes (by omega)
    have el0 := eqL_self z0
    have elr := eqL_self (pofL z0)
    have hln := pofL_len z0
    go_enter Try.func5, Try.ntmps5
    go_wp2_with fail
    have q0 : w.heap.size + 1 ≤ (w.alloc (.cells #[.slice A0 z0.length c0] 24)).heap.size := by simp
    generalize (w.alloc (.cells #[.slice A0 z0.length c0] 24)) = W0 at *
    replace R0 := R0.new N
    refine (c_szAssembly A0 _ c0 (1048576) _ hm0 (by omega) (by omega)).mono ?_
    rintro e w1 ⟨rfl, n1⟩
    have q1 := n1.size
    replace N := N.step n1
    replace R0 := R0.new n1
    replace P0 := P0.new n1
    rw [E0]
    have ⟨c_P0, _, l_P0⟩ := P0.at1
    go_wp2_with fail
    clear c_P0 l_P0
    refine (c_toAssembly _ _ _ z0 _ R0 (by omega)).mono ?_
    rintro e w2 ⟨v2, rfl, xa, n2⟩
    have q2 := n2.size
    replace N := N.step n2
    replace R0 := R0.new n2
    replace P0 := P0.new n2
    have ⟨c_P0, _, l_P0⟩ := P0.at1
    go_wp2_with fail
    clear c_P0 l_P0
    refine (c_specPointsOf _ _ _ z0 _ (xa.rd)).mono ?_
    rintro e w3 ⟨v3, rfl, ws, n3⟩
    have q3 := n3.size
    replace N := N.step n3
    replace R0 := R0.new n3
    replace xa := xa.new n3
    replace P0 := P0.new n3
    have ⟨c_P0, _, l_P0⟩ := P0.at1
    go_wp2_with fail
    clear c_P0 l_P0
    refine (c_toAssembly _ _ _ z0 _ R0 (by omega)).mono ?_
    rintro e w4 ⟨v4, rfl, xb, n4⟩
    have q4 := n4.size
    replace N := N.step n4
    replace R0 := R0.new n4
    replace ws := ws.new n4
    replace P0 := P0.new n4
    have ⟨_, _, _, A_xb, c_xb_, hv4, _⟩ := xb.rd
    subst hv4
    have m4 : New w4 (w4.alloc (.cells #[.slice A_xb z0.length c_xb_] 29)) := (New.same _).box _
    have B_xb : BoxV (w4.alloc (.cells #[.slice A_xb z0.length c_xb_] 29)) w4.heap.size [.slice A_xb z0.length c_xb_] := .one (by go_simp) (by go_simp) (by simp <;> omega)
    have ⟨c_P0, _, l_P0⟩ := P0.at1
    go_wp2_with fail
    clear c_P0 l_P0
    have q5 := m4.size
    have qb5 : w4.heap.size < (w4.alloc (.cells #[.slice A_xb z0.length c_xb_] 29)).heap.size := by simp
    replace N := N.step m4
    replace R0 := R0.new m4
    replace ws := ws.new m4
    replace xb := xb.new m4
    replace P0 := P0.new m4
    generalize (w4.alloc (.cells #[.slice A_xb z0.length c_xb_] 29)) = w5 at *
    refine (c_implPointsOf _ _ _ z0 _ (xb.rd)).mono ?_
    rintro e w6 ⟨v6, rfl, gs, n6⟩
    have q6 := n6.size
    replace N := N.step n6
    replace R0 := R0.new n6
    replace ws := ws.new n6
    replace xb := xb.new n6
    replace P0 := P0.new n6
    replace B_xb := B_xb.new n6
    have ⟨c_P0, _, l_P0⟩ := P0.at1
    have ⟨c_B_xb, _, l_B_xb⟩ := B_xb.at1
    go_wp2_with fail
    clear c_P0 l_P0 c_B_xb l_B_xb
    refine (c_eqPointS _ _ _ _ _ _ (pofL z0) (pofL z0) _ (gs.rd) (ws.rd)).mono ?_
    rintro e w7 ⟨rfl, n7⟩
    have q7 := n7.size
    replace N := N.step n7
    replace R0 := R0.new n7
    replace ws := ws.new n7
    replace xb := xb.new n7
    replace gs := gs.new n7
    replace P0 := P0.new n7
    replace B_xb := B_xb.new n7
    have ⟨c_P0, _, l_P0⟩ := P0.at1
    have ⟨c_B_xb, _, l_B_xb⟩ := B_xb.at1
    go_upto_region 10 with fail
    clear c_P0 l_P0 c_B_xb l_B_xb
    have T8 := Lib.hid (fun (wx : World) (nx : New w7 wx) => c_toAssembly _ _ _ z0 wx (R0.new nx) (by omega))
    have X8 := Lib.hid xb
    go_region_held3 (fun w' => w'.cell? ⟨w4.heap.size, 0, none⟩ = some (.slice A_xb z0.length c_xb_) ∧ w'.cell? ⟨w.heap.size, 0, none⟩ = some (.slice A0 z0.length c0))
      (exact keepB2 (w1 := w7) (by (repeat' (first | (with_reducible exact New.same _) | (with_reducible assumption) | (with_reducible refine New.box ?_ _) | (with_reducible refine New.drew_ ?_) | (with_reducible refine New.set ?_ ?_ _ _) | (with_reducible refine New.step ?_ (by assumption))))) B_xb P0)
      (first | (go_at_call 13; refine (c_eqAssembly_self _ _ _ _ _ _ z0 _ ((X8.out.new ((New.same _).drew_)).rd.new na8) hQ8.rd).mono ?_; rintro e wb8 ⟨rfl, nb8⟩) | (go_at_call 11; refine (T8.out _ ?_).mono ?_; (· (repeat' (first | (with_reducible exact New.same _) | (with_reducible assumption) | (with_reducible refine New.box ?_ _) | (with_reducible refine New.drew_ ?_) | (with_reducible refine New.set ?_ ?_ _ _) | (with_reducible refine New.step ?_ (by assumption))))); rintro e wa8 ⟨u8, rfl, hQ8, na8⟩))
    have M8 : New w7 wb8 := by (repeat' (first | (with_reducible exact New.same _) | (with_reducible assumption) | (with_reducible refine New.box ?_ _) | (with_reducible refine New.drew_ ?_) | (with_reducible refine New.set ?_ ?_ _ _) | (with_reducible refine New.step ?_ (by assumption))))
    clear T8 X8 hQ8
    have q8 := M8.size
    replace N := N.step M8
    replace R0 := R0.new M8
    replace ws := ws.new M8
    replace xb := xb.new M8
    replace gs := gs.new M8
    replace P0 := P0.new M8
    replace B_xb := B_xb.new M8
    have ⟨c_P0, _, l_P0⟩ := P0.at1
    have ⟨c_B_xb, _, l_B_xb⟩ := B_xb.at1
    go_wp2_with fail
    clear c_P0 l_P0 c_B_xb l_B_xb
    refine (c_markAssembly _ _ _ _ _ _ _ xb (by omega) (by omega)).mono ?_
    rintro e w9 ⟨rfl, ya, f9⟩
    have q9 := f9.size
    replace N := N.fr f9 (by omega)
    replace R0 := R0.fr f9 (by omega)
    replace ws := ws.fr f9 (by omega)
    replace gs := gs.fr f9 (by omega)
    replace P0 := P0.fr f9 (by omega)
    replace B_xb := B_xb.fr f9 (by omega)
    have ⟨c_P0, _, l_P0⟩ := P0.at1
    go_wp2_with fail
    clear c_P0 l_P0
    refine (c_eqPointS _ _ _ _ _ _ (pofL z0) (pofL z0) _ (gs.rd) (ws.rd)).mono ?_
    rintro e w10 ⟨rfl, n10⟩
    have q10 := n10.size
    replace N := N.step n10
    replace R0 := R0.new n10
    replace ws := ws.new n10
    replace gs := gs.new n10
    replace P0 := P0.new n10
    have ⟨c_P0, _, l_P0⟩ := P0.at1
    go_wp2_with fail
    clear c_P0 l_P0
    refine (c_markPointS _ _ _ _ _ _ _ gs (by omega) (by omega)).mono ?_
    rintro e w11 ⟨rfl, gm, f11⟩
    have q11 := f11.size
    replace N := N.fr f11 (by omega)
    replace R0 := R0.fr f11 (by omega)
    replace ws := ws.fr f11 (by omega)
    replace P0 := P0.fr f11 (by omega)
    have ⟨c_P0, _, l_P0⟩ := P0.at1
    go_wp2_with fail
    clear c_P0 l_P0
    refine (c_heldPointS _ _ _ _ _ _ gm.rd (by omega) (by omega)).mono ?_
    rintro e w12 ⟨rfl, n12⟩
    have q12 := n12.size
    replace N := N.step n12
    replace R0 := R0.new n12
    replace ws := ws.new n12
    replace gm := gm.new n12
    replace P0 := P0.new n12
    have ⟨c_P0, _, l_P0⟩ := P0.at1
    go_wp2_with fail
    clear c_P0 l_P0
    refine (c_toAssembly _ _ _ z0 _ R0 (by omega)).mono ?_
    rintro e w13 ⟨v13, rfl, xc, n13⟩
    have q13 := n13.size
    replace N := N.step n13
    replace R0 := R0.new n13
    replace ws := ws.new n13
    replace gm := gm.new n13
    replace P0 := P0.new n13
    have ⟨c_P0, _, l_P0⟩ := P0.at1
    go_wp2_with fail
    clear c_P0 l_P0
    refine (c_implPointsOf _ _ _ z0 _ (xc.rd)).mono ?_
    rintro e w14 ⟨v14, rfl, hs, n14⟩
    have q14 := n14.size
    replace N := N.step n14
    replace R0 := R0.new n14
    replace ws := ws.new n14
    replace gm := gm.new n14
    replace xc := xc.new n14
    replace P0 := P0.new n14
    have ⟨c_P0, _, l_P0⟩ := P0.at1
    go_wp2_with fail
    clear c_P0 l_P0
    refine (c_eqPointS _ _ _ _ _ _ (pofL z0) (pofL z0) _ (hs.rd) (ws.rd)).mono ?_
    rintro e w15 ⟨rfl, n15⟩
    have q15 := n15.size
    replace N := N.step n15
    replace R0 := R0.new n15
    replace ws := ws.new n15
    replace gm := gm.new n15
    replace hs := hs.new n15
    replace P0 := P0.new n15
    have ⟨c_P0, _, l_P0⟩ := P0.at1
    go_wp2_with fail
    clear c_P0 l_P0
    refine (c_heldPointS _ _ _ _ _ _ gm.rd (by omega) (by omega)).mono ?_
    rintro e w16 ⟨rfl, n16⟩
    have q16 := n16.size
    replace N := N.step n16
    replace R0 := R0.new n16
    replace ws := ws.new n16
    replace gm := gm.new n16
    replace hs := hs.new n16
    replace P0 := P0.new n16
    go_wp2
    go_ret
    exact ⟨rfl, N⟩
  · have E0 : szL (1048576) z0.length = -1 := szL_no (by omega)
    go_enter Try.func5, Try.ntmps5
    go_wp2_with fail
    have q0 : w.heap.size + 1 ≤ (w.alloc (.cells #[.slice A0 z0.length c0] 24)).heap.size := by simp
    generalize (w.alloc (.cells #[.slice A0 z0.length c0] 24)) = W0 at *
    replace R0 := R0.new N
    refine (c_szAssembly A0 _ c0 (1048576) _ hm0 (by omega) (by omega)).mono ?_
    rintro e w17 ⟨rfl, n17⟩
    have q17 := n17.size
    replace N := N.step n17
    replace R0 := R0.new n17
    replace P0 := P0.new n17
    rw [E0]
    go_wp2
    go_ret
    exact ⟨rfl, N⟩

set_option maxRecDepth 100000 in
theorem lifted (os : Os) (started : os.Started) (H : Type) (enc : TypeId × Value → H) :
    ReturnsInHanded {} Try.checked os 5 .any (Rows.fnExactPointsOfSpec.pre6 enc Try.prog Try.f5 Rows.fnExactPointsOfRow.domain false) (Rows.fnExactPointsOfSpec.post enc Try.prog Try.f5 false true false false) := by
  refine returnsInHanded_of_change (C := Try.checked) prog_own started (by kernel_rfl) Try.func5
    (ChangeSpec.witness6 (enc := enc) (C := Try.checked) false ⟨#[], #[.agg #[.slice none 0 0]], []⟩ 8 (by kernel_rfl) (by kernel_rfl) (by kernel_rfl) (by kernel_rfl)) ?_
  intro W base args ds gs before hval0 hW _ _
  have hval : ∀ (j : Nat) t v, Try.f5.params[j]? = some t → args[j]? = some v → Value.okWide Try.prog W .any base t v := hval0
  have hW' := hW
  obtain ⟨p, q, hA0, hV, rfl, _, _⟩ := hW
  have hA : DataW.TrodAll enc Try.prog W 0 (fun _ => true) true Try.f5.params.toList args.toList ds p := hA0
  rw [Try.params5] at hA hval
  have hlt : ∀ x ∈ p, x.block < W.heap.size := fun x hx => hW'.lt x (List.mem_append_left _ hx)
  obtain ⟨v0, vs0, d0, ds0, p0, q0, hargs, rfl, rfl, h0, t0⟩ := trodAll_cons hA
  obtain ⟨rfl, rfl, rfl⟩ := trodAll_nil t0
  obtain rfl : args = #[v0] := by cases args; simp_all
  have hlt0 : ∀ x ∈ p0, x.block < W.heap.size := fun x hx => hlt x (List.mem_append_left _ hx)
  obtain ⟨u0, z0, rfl, r0⟩ := open_asm Try.underlying24 (by kernel_rfl) rfl rfl (by kernel_rfl) Try.underlying22 Try.underlying97 (by kernel_rfl) rfl rfl rfl rfl (by kernel_rfl) (by kernel_rfl) Try.underlying43 rfl rfl rfl rfl (by kernel_rfl) (by kernel_rfl) Try.underlying2 Try.underlying2 Try.underlying2 (hval 0 24 v0 rfl rfl) h0 hlt0
  refine (walk W u0 z0 r0).mono fun e W' ⟨he, hb⟩ => ⟨_, he, ?_⟩
  exact law_post prog_laid (by kernel_rfl) rfl Try.underlying4 rfl (by intro ds h; rw [Try.params5] at h; match ds, h with | [_], _ => exact ⟨rfl, rfl, rfl⟩) hW' hb

theorem over : Rows.fnExactPointsOfRow.holds Try.pinned (OpenSpec.ofChange Rows.fnExactPointsOfSpec) :=
  OpenClaim.holds_of_wide 5 Try.f5 rfl rfl rfl rfl rfl rfl rfl ⟨rfl, rfl, rfl, rfl, rfl⟩ rfl rfl rfl rfl rfl (by kernel_rfl) Try.func5 (by kernel_rfl)
    (of_decide_eq_true (by kernel_rfl)) (by unfold Func.isWrapper; first | (rw [if_pos (by decide +kernel)]; kernel_rfl) | (rw [if_neg (by decide +kernel)]; exact ⟨rfl, rfl⟩))
    (fun os started H enc _ => lifted os started H enc)

theorem proved : Rows.FnExactPointsOfSaid := over
end fnExactPointsOf
#print axioms fnExactPointsOf.proved

end Go.Proofs.Ytnbpcdnncfkgjaa
