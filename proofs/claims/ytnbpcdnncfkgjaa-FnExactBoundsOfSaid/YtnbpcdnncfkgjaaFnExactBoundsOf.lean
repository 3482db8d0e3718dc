/- The law FnExactBoundsOf returns true for every input that can be read as data. No condition. -/
import Derived.Test.YtnbpcdnncfkgjaaBoundsOf
namespace Go.Proofs.Ytnbpcdnncfkgjaa
open Go.ChangeShapes Go.WideShapes Go.ChangeAt Go.RowKit
open Go.ChangeMaps (open_string)
namespace fnExactBoundsOf
set_option linter.unusedVariables false
set_option maxRecDepth 100000 in
set_option maxHeartbeats 4000000 in
theorem walk (w : World) (v0 : Value) (z0 : List ((Int × Int) × Int)) (r0 : Rd w 0 w.heap.size 3 v0 z0.length (z0.flatMap plCells)) : Calls Try.prog 4 #[.agg #[v0]] w fun e w' => e = .returned (.bool true) ∧ New w w' := by
  have R0 := r0
  obtain ⟨_, hm0, _, A0, c0, rfl, _⟩ := r0
  have N : New w (w.alloc (.cells #[.slice A0 z0.length c0] 24)) := ((New.same w).box _)
  have P0 : BoxV (w.alloc (.cells #[.slice A0 z0.length c0] 24)) w.heap.size [.slice A0 z0.length c0] := .one (by go_simp) (by go_simp) (by simp <;> omega)
  by_cases hl0 : z0.length ≤ 1048576
  · have E0 : szL (1048576) z0.length = 1048576 - z0.length := szL_yes (by omega)
    have el0 := eqL_self z0
    have eC : (bofC z0 != bofC z0) = false := by simp
    go_enter Try.func4, Try.ntmps4
    go_wp2_with fail
    have q0 : w.heap.size + 1 ≤ (w.alloc (.cells #[.slice A0 z0.length c0] 24)).heap.size := by simp
    generalize (w.alloc (.cells #[.slice A0 z0.length c0] 24)) = W0 at *
    replace R0 := R0.new N
    refine (c_szAssembly A0 _ c0 (1048576) _ hm0 (by omega) (by omega)).mono ?_
    rintro e w1 ⟨rfl, n1⟩
    have q1 := n1.size
    replace N := N.step n1
    replace R0 := R0.new n1
    replace P0 := P0.new n1
    rw [E0]
    have ⟨c_P0, _, l_P0⟩ := P0.at1
    go_wp2_with fail
    clear c_P0 l_P0
    refine (c_toAssembly _ _ _ z0 _ R0 (by omega)).mono ?_
    rintro e w2 ⟨v2, rfl, xa, n2⟩
    have q2 := n2.size
    replace N := N.step n2
    replace R0 := R0.new n2
    replace P0 := P0.new n2
    have ⟨c_P0, _, l_P0⟩ := P0.at1
    go_wp2_with fail
    clear c_P0 l_P0
    refine (c_specBoundsOf _ _ _ z0 _ (xa.rd)).mono ?_
    rintro e w3 ⟨rfl, n3⟩
    have q3 := n3.size
    replace N := N.step n3
    replace R0 := R0.new n3
    replace xa := xa.new n3
    replace P0 := P0.new n3
    have m3 : New w3 ((w3.alloc (.cells #[.int .i64 (bofL z0).1, .int .i64 (bofL z0).2] 33)).alloc (.cells #[.int .i64 (bofH z0).1, .int .i64 (bofH z0).2] 33)) := (((New.same _).box _).box _)
    have L1 : BoxV ((w3.alloc (.cells #[.int .i64 (bofL z0).1, .int .i64 (bofL z0).2] 33)).alloc (.cells #[.int .i64 (bofH z0).1, .int .i64 (bofH z0).2] 33)) (w3.heap.size) [.int .i64 (bofL z0).1, .int .i64 (bofL z0).2] := .two (by go_simp) (by go_simp) (by go_simp) (by go_simp) (by simp <;> omega)
    have H1 : BoxV ((w3.alloc (.cells #[.int .i64 (bofL z0).1, .int .i64 (bofL z0).2] 33)).alloc (.cells #[.int .i64 (bofH z0).1, .int .i64 (bofH z0).2] 33)) (w3.heap.size + 1) [.int .i64 (bofH z0).1, .int .i64 (bofH z0).2] := .two (by go_simp) (by go_simp) (by go_simp) (by go_simp) (by simp <;> omega)
    have qb3 : w3.heap.size + 2 ≤ ((w3.alloc (.cells #[.int .i64 (bofL z0).1, .int .i64 (bofL z0).2] 33)).alloc (.cells #[.int .i64 (bofH z0).1, .int .i64 (bofH z0).2] 33)).heap.size := by simp
    have ⟨c_P0, _, l_P0⟩ := P0.at1
    go_wp2_with fail
    clear c_P0 l_P0
    have q4 := m3.size
    replace N := N.step m3
    replace R0 := R0.new m3
    replace P0 := P0.new m3
    generalize ((w3.alloc (.cells #[.int .i64 (bofL z0).1, .int .i64 (bofL z0).2] 33)).alloc (.cells #[.int .i64 (bofH z0).1, .int .i64 (bofH z0).2] 33)) = w4 at *
    refine (c_toAssembly _ _ _ z0 _ R0 (by omega)).mono ?_
    rintro e w5 ⟨v5, rfl, xb, n5⟩
    have q5 := n5.size
    replace N := N.step n5
    replace R0 := R0.new n5
    replace P0 := P0.new n5
    replace L1 := L1.new n5
    replace H1 := H1.new n5
    have ⟨_, _, _, A_xb, c_xb_, hv5, _⟩ := xb.rd
    subst hv5
    have m5 : New w5 (w5.alloc (.cells #[.slice A_xb z0.length c_xb_] 29)) := (New.same _).box _
    have B_xb : BoxV (w5.alloc (.cells #[.slice A_xb z0.length c_xb_] 29)) w5.heap.size [.slice A_xb z0.length c_xb_] := .one (by go_simp) (by go_simp) (by simp <;> omega)
    have ⟨c_P0, _, l_P0⟩ := P0.at1
    have ⟨⟨c_L1, d_L1⟩, _, l_L1⟩ := L1.at2
    have ⟨⟨c_H1, d_H1⟩, _, l_H1⟩ := H1.at2
    go_wp2_with fail
    clear c_P0 l_P0 c_L1 d_L1 l_L1 c_H1 d_H1 l_H1
    have q6 := m5.size
    have qb6 : w5.heap.size < (w5.alloc (.cells #[.slice A_xb z0.length c_xb_] 29)).heap.size := by simp
    replace N := N.step m5
    replace R0 := R0.new m5
    replace xb := xb.new m5
    replace P0 := P0.new m5
    replace L1 := L1.new m5
    replace H1 := H1.new m5
    generalize (w5.alloc (.cells #[.slice A_xb z0.length c_xb_] 29)) = w6 at *
    refine (c_implBoundsOf _ _ _ z0 _ (xb.rd)).mono ?_
    rintro e w7 ⟨rfl, n7⟩
    have q7 := n7.size
    replace N := N.step n7
    replace R0 := R0.new n7
    replace xb := xb.new n7
    replace P0 := P0.new n7
    replace L1 := L1.new n7
    replace H1 := H1.new n7
    replace B_xb := B_xb.new n7
    have m7 : New w7 ((w7.alloc (.cells #[.int .i64 (bofL z0).1, .int .i64 (bofL z0).2] 33)).alloc (.cells #[.int .i64 (bofH z0).1, .int .i64 (bofH z0).2] 33)) := (((New.same _).box _).box _)
    have L2 : BoxV ((w7.alloc (.cells #[.int .i64 (bofL z0).1, .int .i64 (bofL z0).2] 33)).alloc (.cells #[.int .i64 (bofH z0).1, .int .i64 (bofH z0).2] 33)) (w7.heap.size) [.int .i64 (bofL z0).1, .int .i64 (bofL z0).2] := .two (by go_simp) (by go_simp) (by go_simp) (by go_simp) (by simp <;> omega)
    have H2 : BoxV ((w7.alloc (.cells #[.int .i64 (bofL z0).1, .int .i64 (bofL z0).2] 33)).alloc (.cells #[.int .i64 (bofH z0).1, .int .i64 (bofH z0).2] 33)) (w7.heap.size + 1) [.int .i64 (bofH z0).1, .int .i64 (bofH z0).2] := .two (by go_simp) (by go_simp) (by go_simp) (by go_simp) (by simp <;> omega)
    have qb7 : w7.heap.size + 2 ≤ ((w7.alloc (.cells #[.int .i64 (bofL z0).1, .int .i64 (bofL z0).2] 33)).alloc (.cells #[.int .i64 (bofH z0).1, .int .i64 (bofH z0).2] 33)).heap.size := by simp
    have ⟨c_P0, _, l_P0⟩ := P0.at1
    have ⟨⟨c_L1, d_L1⟩, _, l_L1⟩ := L1.at2
    have ⟨⟨c_H1, d_H1⟩, _, l_H1⟩ := H1.at2
    have ⟨c_B_xb, _, l_B_xb⟩ := B_xb.at1
    go_wp2_with fail
    clear c_P0 l_P0 c_L1 d_L1 l_L1 c_H1 d_H1 l_H1 c_B_xb l_B_xb
    have q8 := m7.size
    replace N := N.step m7
    replace R0 := R0.new m7
    replace xb := xb.new m7
    replace P0 := P0.new m7
    replace L1 := L1.new m7
    replace H1 := H1.new m7
    replace B_xb := B_xb.new m7
    generalize ((w7.alloc (.cells #[.int .i64 (bofL z0).1, .int .i64 (bofL z0).2] 33)).alloc (.cells #[.int .i64 (bofH z0).1, .int .i64 (bofH z0).2] 33)) = w8 at *
    refine (c_eqPoint_self (bofL z0) _).mono ?_
    rintro e w9 ⟨rfl, n9⟩
    have q9 := n9.size
    replace N := N.step n9
    replace R0 := R0.new n9
    replace xb := xb.new n9
    replace P0 := P0.new n9
    replace L1 := L1.new n9
    replace H1 := H1.new n9
    replace B_xb := B_xb.new n9
    replace L2 := L2.new n9
    replace H2 := H2.new n9
    have ⟨c_P0, _, l_P0⟩ := P0.at1
    have ⟨⟨c_L1, d_L1⟩, _, l_L1⟩ := L1.at2
    have ⟨⟨c_H1, d_H1⟩, _, l_H1⟩ := H1.at2
    have ⟨c_B_xb, _, l_B_xb⟩ := B_xb.at1
    have ⟨⟨c_L2, d_L2⟩, _, l_L2⟩ := L2.at2
    have ⟨⟨c_H2, d_H2⟩, _, l_H2⟩ := H2.at2
    go_wp2_with fail
    clear c_P0 l_P0 c_L1 d_L1 l_L1 c_H1 d_H1 l_H1 c_B_xb l_B_xb c_L2 d_L2 l_L2 c_H2 d_H2 l_H2
    refine (c_eqPoint_self (bofH z0) _).mono ?_
    rintro e w10 ⟨rfl, n10⟩
    have q10 := n10.size
    replace N := N.step n10
    replace R0 := R0.new n10
    replace xb := xb.new n10
    replace P0 := P0.new n10
    replace L1 := L1.new n10
    replace H1 := H1.new n10
    replace B_xb := B_xb.new n10
    replace L2 := L2.new n10
    replace H2 := H2.new n10
    have ⟨c_P0, _, l_P0⟩ := P0.at1
    have ⟨⟨c_L1, d_L1⟩, _, l_L1⟩ := L1.at2
    have ⟨⟨c_H1, d_H1⟩, _, l_H1⟩ := H1.at2
    have ⟨c_B_xb, _, l_B_xb⟩ := B_xb.at1
    have ⟨⟨c_L2, d_L2⟩, _, l_L2⟩ := L2.at2
    have ⟨⟨c_H2, d_H2⟩, _, l_H2⟩ := H2.at2
    go_upto_region 10 with fail
    clear c_P0 l_P0 c_L1 d_L1 l_L1 c_H1 d_H1 l_H1 c_B_xb l_B_xb c_L2 d_L2 l_L2 c_H2 d_H2 l_H2
    have T11 := Lib.hid (fun (wx : World) (nx : New w10 wx) => c_toAssembly _ _ _ z0 wx (R0.new nx) (by omega))
    have X11 := Lib.hid xb
    go_region_held3 (fun w' => w'.cell? ⟨w5.heap.size, 0, none⟩ = some (.slice A_xb z0.length c_xb_) ∧ w'.cell? ⟨w.heap.size, 0, none⟩ = some (.slice A0 z0.length c0))
      (exact keepB2 (w1 := w10) (by (repeat' (first | (with_reducible exact New.same _) | (with_reducible assumption) | (with_reducible refine New.box ?_ _) | (with_reducible refine New.drew_ ?_) | (with_reducible refine New.set ?_ ?_ _ _) | (with_reducible refine New.step ?_ (by assumption))))) B_xb P0)
      (first | (go_at_call 13; refine (c_eqAssembly_self _ _ _ _ _ _ z0 _ ((X11.out.new ((New.same _).drew_)).rd.new na11) hQ11.rd).mono ?_; rintro e wb11 ⟨rfl, nb11⟩) | (go_at_call 11; refine (T11.out _ ?_).mono ?_; (· (repeat' (first | (with_reducible exact New.same _) | (with_reducible assumption) | (with_reducible refine New.box ?_ _) | (with_reducible refine New.drew_ ?_) | (with_reducible refine New.set ?_ ?_ _ _) | (with_reducible refine New.step ?_ (by assumption))))); rintro e wa11 ⟨u11, rfl, hQ11, na11⟩))
    have M11 : New w10 wb11 := by (repeat' (first | (with_reducible exact New.same _) | (with_reducible assumption) | (with_reducible refine New.box ?_ _) | (with_reducible refine New.drew_ ?_) | (with_reducible refine New.set ?_ ?_ _ _) | (with_reducible refine New.step ?_ (by assumption))))
    clear T11 X11 hQ11
    have q11 := M11.size
    replace N := N.step M11
    replace R0 := R0.new M11
    replace xb := xb.new M11
    replace P0 := P0.new M11
    replace L1 := L1.new M11
    replace H1 := H1.new M11
    replace B_xb := B_xb.new M11
    replace L2 := L2.new M11
    replace H2 := H2.new M11
    go_wp2
    go_ret
    exact ⟨rfl, N⟩
  · have E0 : szL (1048576) z0.length = -1 := szL_no (by omega)
    go_enter Try.func4, Try.ntmps4
    go_wp2_with fail
    have q0 : w.heap.size + 1 ≤ (w.alloc (.cells #[.slice A0 z0.length c0] 24)).heap.size := by simp
    generalize (w.alloc (.cells #[.slice A0 z0.length c0] 24)) = W0 at *
    replace R0 := R0.new N
    refine (c_szAssembly A0 _ c0 (1048576) _ hm0 (by omega) (by omega)).mono ?_
    rintro e w12 ⟨rfl, n12⟩
    have q12 := n12.size
    replace N := N.step n12
    replace R0 := R0.new n12
    replace P0 := P0.new n12
    rw [E0]
    go_wp2
    go_ret
    exact ⟨rfl, N⟩

set_option maxRecDepth 100000 in
theorem lifted (os : Os) (started : os.Started) (H : Type) (enc : TypeId × Value → H) :
    ReturnsInHanded {} Try.checked os 4 .any (Rows.fnExactBoundsOfSpec.pre6 enc Try.prog Try.f4 Rows.fnExactBoundsOfRow.domain false) (Rows.fnExactBoundsOfSpec.post enc Try.prog Try.f4 false true false false) := by
  refine returnsInHanded_of_change (C := Try.checked) prog_own started (by kernel_rfl) Try.func4
    (ChangeSpec.witness6 (enc := enc) (C := Try.checked) false ⟨#[], #[.agg #[.slice none 0 0]], []⟩ 8 (by kernel_rfl) (by kernel_rfl) (by kernel_rfl) (by kernel_rfl)) ?_
  intro W base args ds gs before hval0 hW _ _
  have hval : ∀ (j : Nat) t v, Try.f4.params[j]? = some t → args[j]? = some v → Value.okWide Try.prog W .any base t v := hval0
  have hW' := hW
  obtain ⟨p, q, hA0, hV, rfl, _, _⟩ := hW
  have hA : DataW.TrodAll enc Try.prog W 0 (fun _ => true) true Try.f4.params.toList args.toList ds p := hA0
  rw [Try.params4] at hA hval
  have hlt : ∀ x ∈ p, x.block < W.heap.size := fun x hx => hW'.lt x (List.mem_append_left _ hx)
  obtain ⟨v0, vs0, d0, ds0, p0, q0, hargs, rfl, rfl, h0, t0⟩ := trodAll_cons hA
  obtain ⟨rfl, rfl, rfl⟩ := trodAll_nil t0
  obtain rfl : args = #[v0] := by cases args; simp_all
  have hlt0 : ∀ x ∈ p0, x.block < W.heap.size := fun x hx => hlt x (List.mem_append_left _ hx)
  obtain ⟨u0, z0, rfl, r0⟩ := open_asm Try.underlying24 (by kernel_rfl) rfl rfl (by kernel_rfl) Try.underlying22 Try.underlying97 (by kernel_rfl) rfl rfl rfl rfl (by kernel_rfl) (by kernel_rfl) Try.underlying43 rfl rfl rfl rfl (by kernel_rfl) (by kernel_rfl) Try.underlying2 Try.underlying2 Try.underlying2 (hval 0 24 v0 rfl rfl) h0 hlt0
  refine (walk W u0 z0 r0).mono fun e W' ⟨he, hb⟩ => ⟨_, he, ?_⟩
  exact law_post prog_laid (by kernel_rfl) rfl Try.underlying4 rfl (by intro ds h; rw [Try.params4] at h; match ds, h with | [_], _ => exact ⟨rfl, rfl, rfl⟩) hW' hb

theorem over : Rows.fnExactBoundsOfRow.holds Try.pinned (OpenSpec.ofChange Rows.fnExactBoundsOfSpec) :=
  OpenClaim.holds_of_wide 4 Try.f4 rfl rfl rfl rfl rfl rfl rfl ⟨rfl, rfl, rfl, rfl, rfl⟩ rfl rfl rfl rfl rfl (by kernel_rfl) Try.func4 (by kernel_rfl)
    (of_decide_eq_true (by kernel_rfl)) (by unfold Func.isWrapper; first | (rw [if_pos (by decide +kernel)]; kernel_rfl) | (rw [if_neg (by decide +kernel)]; exact ⟨rfl, rfl⟩))
    (fun os started H enc _ => lifted os started H enc)

theorem proved : Rows.FnExactBoundsOfSaid := over
end fnExactBoundsOf
#print axioms fnExactBoundsOf.proved

end Go.Proofs.Ytnbpcdnncfkgjaa
