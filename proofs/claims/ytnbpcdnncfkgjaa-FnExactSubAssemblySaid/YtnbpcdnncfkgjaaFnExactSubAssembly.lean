/- The law FnExactSubAssembly returns true for every input that can be read as data. No condition. -/
import Derived.Test.YtnbpcdnncfkgjaaSub
import Derived.Test.YtnbpcdnncfkgjaaSameAsm
import Derived.Test.YtnbpcdnncfkgjaaInts
namespace Go.Proofs.Ytnbpcdnncfkgjaa
open Go.ChangeShapes Go.WideShapes Go.ChangeAt Go.RowKit
open Go.ChangeMaps (open_string)
namespace fnExactSubAssembly
set_option linter.unusedVariables false
set_option maxRecDepth 100000 in
set_option maxHeartbeats 4000000 in
theorem walk (w : World) (v0 : Value) (z0 : List ((Int × Int) × Int)) (r0 : Rd w 0 w.heap.size 3 v0 z0.length (z0.flatMap plCells)) (v1 : Value) (z1 : List Int) (r1 : Rd w 0 w.heap.size 1 v1 z1.length (z1.map (Value.int .i64))) (b1 : ∀ z ∈ z1, -9223372036854775808 ≤ z ∧ z ≤ 9223372036854775807) : Calls Try.prog 7 #[.agg #[v0], v1] w fun e w' => e = .returned (.bool true) ∧ New w w' := by
  have R1 := r1
  obtain ⟨_, hm1, _, A1, c1, rfl, _⟩ := r1
  have el1 := eqL_self z1
  have R0 := r0
  obtain ⟨_, hm0, _, A0, c0, rfl, _⟩ := r0
  have N : New w (w.alloc (.cells #[.slice A0 z0.length c0] 24)) := ((New.same w).box _)
  have P0 : BoxV (w.alloc (.cells #[.slice A0 z0.length c0] 24)) w.heap.size [.slice A0 z0.length c0] := .one (by go_simp) (by go_simp) (by simp <;> omega)
  by_cases hi1 : z1.length ≤ 1048576
  · have hd1 : decide ((1048576 : Int) < (z1.length : Int)) = false := by simp; omega
    by_cases hl0 : z0.length ≤ 1048576
    · have E0 : szL (1048576) z0.length = 1048576 - z0.length := szL_yes (by omega)
      have el0 := eqL_self z0
      have elr := eqL_self (sbF z0 z1)
      have hln := sbF_len z0 z1
      have eC : (sbC z0 z1 != sbC z0 z1) = false := by simp
      go_enter Try.func7, Try.ntmps7
      go_wp2_with fail
      have q0 : w.heap.size + 1 ≤ (w.alloc (.cells #[.slice A0 z0.length c0] 24)).heap.size := by simp
      generalize (w.alloc (.cells #[.slice A0 z0.length c0] 24)) = W0 at *
      replace R0 := R0.new N
      replace R1 := R1.new N
      refine (c_szAssembly A0 _ c0 (1048576) _ hm0 (by omega) (by omega)).mono ?_
      rintro e w1 ⟨rfl, n1⟩
      have q1 := n1.size
      replace N := N.step n1
      replace R0 := R0.new n1
      replace R1 := R1.new n1
      replace P0 := P0.new n1
      rw [E0]
      have ⟨c_P0, _, l_P0⟩ := P0.at1
      go_wp2_with fail
      clear c_P0 l_P0
      refine (c_toAssembly _ _ _ z0 _ R0 (by omega)).mono ?_
      rintro e w2 ⟨v2, rfl, xa, n2⟩
      have q2 := n2.size
      replace N := N.step n2
      replace R0 := R0.new n2
      replace R1 := R1.new n2
      replace P0 := P0.new n2
      have ⟨c_P0, _, l_P0⟩ := P0.at1
      go_wp2_with fail
      clear c_P0 l_P0
      refine (c_toInt64S _ _ _ z1 _ R1 hi1).mono ?_
      rintro e w3 ⟨v3, rfl, pa, n3⟩
      have q3 := n3.size
      replace N := N.step n3
      replace R0 := R0.new n3
      replace R1 := R1.new n3
      replace xa := xa.new n3
      replace P0 := P0.new n3
      have ⟨c_P0, _, l_P0⟩ := P0.at1
      go_wp2_with fail
      clear c_P0 l_P0
      refine (c_specSubAssembly _ _ _ _ _ _ z0 z1 _ xa pa.rd hi1).mono ?_
      rintro e w4 ⟨v4, rfl, ws, n4⟩
      have q4 := n4.size
      replace N := N.step n4
      replace R0 := R0.new n4
      replace R1 := R1.new n4
      replace xa := xa.new n4
      replace pa := pa.new n4
      replace P0 := P0.new n4
      have ⟨_, _, _, A_ws, c_ws_, hv4, _⟩ := ws.rd
      subst hv4
      have m4 : New w4 (w4.alloc (.cells #[.slice A_ws ((sbF z0 z1)).length c_ws_] 29)) := (New.same _).box _
      have G1 : BoxV (w4.alloc (.cells #[.slice A_ws ((sbF z0 z1)).length c_ws_] 29)) w4.heap.size [.slice A_ws ((sbF z0 z1)).length c_ws_] := .one (by go_simp) (by go_simp) (by simp <;> omega)
      have ⟨c_P0, _, l_P0⟩ := P0.at1
      go_wp2_with fail
      clear c_P0 l_P0
      have q5 := m4.size
      have qb5 : w4.heap.size < (w4.alloc (.cells #[.slice A_ws ((sbF z0 z1)).length c_ws_] 29)).heap.size := by simp
      replace N := N.step m4
      replace R0 := R0.new m4
      replace R1 := R1.new m4
      replace xa := xa.new m4
      replace pa := pa.new m4
      replace ws := ws.new m4
      replace P0 := P0.new m4
      generalize (w4.alloc (.cells #[.slice A_ws ((sbF z0 z1)).length c_ws_] 29)) = w5 at *
      refine (c_toAssembly _ _ _ z0 _ R0 (by omega)).mono ?_
      rintro e w6 ⟨v6, rfl, xb, n6⟩
      have q6 := n6.size
      replace N := N.step n6
      replace R0 := R0.new n6
      replace R1 := R1.new n6
      replace ws := ws.new n6
      replace P0 := P0.new n6
      replace G1 := G1.new n6
      have ⟨_, _, _, A_xb, c_xb_, hv6, _⟩ := xb.rd
      subst hv6
      have m6 : New w6 (w6.alloc (.cells #[.slice A_xb z0.length c_xb_] 29)) := (New.same _).box _
      have B_xb : BoxV (w6.alloc (.cells #[.slice A_xb z0.length c_xb_] 29)) w6.heap.size [.slice A_xb z0.length c_xb_] := .one (by go_simp) (by go_simp) (by simp <;> omega)
      have ⟨c_P0, _, l_P0⟩ := P0.at1
      have ⟨c_G1, _, l_G1⟩ := G1.at1
      go_wp2_with fail
      clear c_P0 l_P0 c_G1 l_G1
      have q7 := m6.size
      have qb7 : w6.heap.size < (w6.alloc (.cells #[.slice A_xb z0.length c_xb_] 29)).heap.size := by simp
      replace N := N.step m6
      replace R0 := R0.new m6
      replace R1 := R1.new m6
      replace ws := ws.new m6
      replace xb := xb.new m6
      replace P0 := P0.new m6
      replace G1 := G1.new m6
      generalize (w6.alloc (.cells #[.slice A_xb z0.length c_xb_] 29)) = w7 at *
      refine (c_toInt64S _ _ _ z1 _ R1 hi1).mono ?_
      rintro e w8 ⟨v8, rfl, pb, n8⟩
      have q8 := n8.size
      replace N := N.step n8
      replace R0 := R0.new n8
      replace R1 := R1.new n8
      replace ws := ws.new n8
      replace xb := xb.new n8
      replace P0 := P0.new n8
      replace G1 := G1.new n8
      replace B_xb := B_xb.new n8
      have ⟨c_P0, _, l_P0⟩ := P0.at1
      have ⟨c_G1, _, l_G1⟩ := G1.at1
      have ⟨c_B_xb, _, l_B_xb⟩ := B_xb.at1
      go_wp2_with fail
      clear c_P0 l_P0 c_G1 l_G1 c_B_xb l_B_xb
      refine (c_implSubAssembly _ _ _ _ _ _ z0 z1 _ xb pb.rd hi1).mono ?_
      rintro e w9 ⟨v9, rfl, gs, n9⟩
      have q9 := n9.size
      replace N := N.step n9
      replace R0 := R0.new n9
      replace R1 := R1.new n9
      replace ws := ws.new n9
      replace xb := xb.new n9
      replace pb := pb.new n9
      replace P0 := P0.new n9
      replace G1 := G1.new n9
      replace B_xb := B_xb.new n9
      have ⟨_, _, _, A_gs, c_gs_, hv9, _⟩ := gs.rd
      subst hv9
      have m9 : New w9 (w9.alloc (.cells #[.slice A_gs ((sbF z0 z1)).length c_gs_] 29)) := (New.same _).box _
      have G2 : BoxV (w9.alloc (.cells #[.slice A_gs ((sbF z0 z1)).length c_gs_] 29)) w9.heap.size [.slice A_gs ((sbF z0 z1)).length c_gs_] := .one (by go_simp) (by go_simp) (by simp <;> omega)
      have ⟨c_P0, _, l_P0⟩ := P0.at1
      have ⟨c_G1, _, l_G1⟩ := G1.at1
      have ⟨c_B_xb, _, l_B_xb⟩ := B_xb.at1
      go_wp2_with fail
      clear c_P0 l_P0 c_G1 l_G1 c_B_xb l_B_xb
      have q10 := m9.size
      have qb10 : w9.heap.size < (w9.alloc (.cells #[.slice A_gs ((sbF z0 z1)).length c_gs_] 29)).heap.size := by simp
      replace N := N.step m9
      replace R0 := R0.new m9
      replace R1 := R1.new m9
      replace ws := ws.new m9
      replace xb := xb.new m9
      replace pb := pb.new m9
      replace gs := gs.new m9
      replace P0 := P0.new m9
      replace G1 := G1.new m9
      replace B_xb := B_xb.new m9
      generalize (w9.alloc (.cells #[.slice A_gs ((sbF z0 z1)).length c_gs_] 29)) = w10 at *
      refine (c_eqAssembly _ _ _ _ _ _ (sbF z0 z1) (sbF z0 z1) _ (gs.rd) (ws.rd)).mono ?_
      rintro e w11 ⟨rfl, n11⟩
      have q11 := n11.size
      replace N := N.step n11
      replace R0 := R0.new n11
      replace R1 := R1.new n11
      replace ws := ws.new n11
      replace xb := xb.new n11
      replace pb := pb.new n11
      replace gs := gs.new n11
      replace P0 := P0.new n11
      replace G1 := G1.new n11
      replace B_xb := B_xb.new n11
      replace G2 := G2.new n11
      have ⟨c_P0, _, l_P0⟩ := P0.at1
      have ⟨c_G1, _, l_G1⟩ := G1.at1
      have ⟨c_B_xb, _, l_B_xb⟩ := B_xb.at1
      have ⟨c_G2, _, l_G2⟩ := G2.at1
      go_upto_region 13 with fail
      clear c_P0 l_P0 c_G1 l_G1 c_B_xb l_B_xb c_G2 l_G2
      have T12 := Lib.hid (fun (wx : World) (nx : New w11 wx) => c_toAssembly _ _ _ z0 wx (R0.new nx) (by omega))
      have X12 := Lib.hid xb
      go_region_held3 (fun w' => w'.cell? ⟨w6.heap.size, 0, none⟩ = some (.slice A_xb z0.length c_xb_) ∧ w'.cell? ⟨w.heap.size, 0, none⟩ = some (.slice A0 z0.length c0))
        (exact keepB2 (w1 := w11) (by (repeat' (first | (with_reducible exact New.same _) | (with_reducible assumption) | (with_reducible refine New.box ?_ _) | (with_reducible refine New.drew_ ?_) | (with_reducible refine New.set ?_ ?_ _ _) | (with_reducible refine New.step ?_ (by assumption))))) B_xb P0)
        (first | (go_at_call 13; refine (c_eqAssembly_self _ _ _ _ _ _ z0 _ ((X12.out.new ((New.same _).drew_)).rd.new na12) hQ12.rd).mono ?_; rintro e wb12 ⟨rfl, nb12⟩) | (go_at_call 11; refine (T12.out _ ?_).mono ?_; (· (repeat' (first | (with_reducible exact New.same _) | (with_reducible assumption) | (with_reducible refine New.box ?_ _) | (with_reducible refine New.drew_ ?_) | (with_reducible refine New.set ?_ ?_ _ _) | (with_reducible refine New.step ?_ (by assumption))))); rintro e wa12 ⟨u12, rfl, hQ12, na12⟩))
      have M12 : New w11 wb12 := by (repeat' (first | (with_reducible exact New.same _) | (with_reducible assumption) | (with_reducible refine New.box ?_ _) | (with_reducible refine New.drew_ ?_) | (with_reducible refine New.set ?_ ?_ _ _) | (with_reducible refine New.step ?_ (by assumption))))
      clear T12 X12 hQ12
      have q12 := M12.size
      replace N := N.step M12
      replace R0 := R0.new M12
      replace R1 := R1.new M12
      replace ws := ws.new M12
      replace xb := xb.new M12
      replace pb := pb.new M12
      replace gs := gs.new M12
      replace P0 := P0.new M12
      replace G1 := G1.new M12
      replace B_xb := B_xb.new M12
      replace G2 := G2.new M12
      have ⟨c_P0, _, l_P0⟩ := P0.at1
      have ⟨c_G1, _, l_G1⟩ := G1.at1
      have ⟨c_B_xb, _, l_B_xb⟩ := B_xb.at1
      have ⟨c_G2, _, l_G2⟩ := G2.at1
      go_wp2_with fail
      clear c_P0 l_P0 c_G1 l_G1 c_B_xb l_B_xb c_G2 l_G2
      refine (c_toInt64S _ _ _ z1 _ R1 hi1).mono ?_
      rintro e w13 ⟨v13, rfl, pc, n13⟩
      have q13 := n13.size
      replace N := N.step n13
      replace R0 := R0.new n13
      replace R1 := R1.new n13
      replace ws := ws.new n13
      replace xb := xb.new n13
      replace pb := pb.new n13
      replace gs := gs.new n13
      replace P0 := P0.new n13
      replace G1 := G1.new n13
      replace B_xb := B_xb.new n13
      replace G2 := G2.new n13
      have ⟨c_P0, _, l_P0⟩ := P0.at1
      have ⟨c_G1, _, l_G1⟩ := G1.at1
      have ⟨c_B_xb, _, l_B_xb⟩ := B_xb.at1
      have ⟨c_G2, _, l_G2⟩ := G2.at1
      go_wp2_with fail
      clear c_P0 l_P0 c_G1 l_G1 c_B_xb l_B_xb c_G2 l_G2
      refine (c_eqInt64S _ _ _ _ _ _ z1 z1 _ (pb.rd) (pc.rd)).mono ?_
      rintro e w14 ⟨rfl, n14⟩
      have q14 := n14.size
      replace N := N.step n14
      replace R0 := R0.new n14
      replace R1 := R1.new n14
      replace ws := ws.new n14
      replace xb := xb.new n14
      replace pb := pb.new n14
      replace gs := gs.new n14
      replace pc := pc.new n14
      replace P0 := P0.new n14
      replace G1 := G1.new n14
      replace B_xb := B_xb.new n14
      replace G2 := G2.new n14
      have ⟨c_P0, _, l_P0⟩ := P0.at1
      have ⟨c_G1, _, l_G1⟩ := G1.at1
      have ⟨c_B_xb, _, l_B_xb⟩ := B_xb.at1
      have ⟨c_G2, _, l_G2⟩ := G2.at1
      go_wp2_with fail
      clear c_P0 l_P0 c_G1 l_G1 c_B_xb l_B_xb c_G2 l_G2
      refine (c_markAssembly _ _ _ _ _ _ _ xb (by omega) (by omega)).mono ?_
      rintro e w15 ⟨rfl, ya, f15⟩
      have q15 := f15.size
      replace N := N.fr f15 (by omega)
      replace R0 := R0.fr f15 (by omega)
      replace R1 := R1.fr f15 (by omega)
      replace ws := ws.fr f15 (by omega)
      replace pb := pb.fr f15 (by omega)
      replace gs := gs.fr f15 (by omega)
      replace P0 := P0.fr f15 (by omega)
      replace G1 := G1.fr f15 (by omega)
      replace B_xb := B_xb.fr f15 (by omega)
      replace G2 := G2.fr f15 (by omega)
      have ⟨c_P0, _, l_P0⟩ := P0.at1
      have ⟨c_G1, _, l_G1⟩ := G1.at1
      have ⟨c_B_xb, _, l_B_xb⟩ := B_xb.at1
      have ⟨c_G2, _, l_G2⟩ := G2.at1
      go_wp2_with fail
      clear c_P0 l_P0 c_G1 l_G1 c_B_xb l_B_xb c_G2 l_G2
      refine (c_markInt64S _ _ _ _ _ _ _ pb (by omega) (by omega)).mono ?_
      rintro e w16 ⟨rfl, yp, f16⟩
      have q16 := f16.size
      replace N := N.fr f16 (by omega)
      replace R0 := R0.fr f16 (by omega)
      replace R1 := R1.fr f16 (by omega)
      replace ws := ws.fr f16 (by omega)
      replace gs := gs.fr f16 (by omega)
      replace ya := ya.fr f16 (by omega)
      replace P0 := P0.fr f16 (by omega)
      replace G1 := G1.fr f16 (by omega)
      replace B_xb := B_xb.fr f16 (by omega)
      replace G2 := G2.fr f16 (by omega)
      have ⟨c_P0, _, l_P0⟩ := P0.at1
      have ⟨c_G1, _, l_G1⟩ := G1.at1
      have ⟨c_G2, _, l_G2⟩ := G2.at1
      go_wp2_with fail
      clear c_P0 l_P0 c_G1 l_G1 c_G2 l_G2
      refine (c_eqAssembly _ _ _ _ _ _ (sbF z0 z1) (sbF z0 z1) _ (gs.rd) (ws.rd)).mono ?_
      rintro e w17 ⟨rfl, n17⟩
      have q17 := n17.size
      replace N := N.step n17
      replace R0 := R0.new n17
      replace R1 := R1.new n17
      replace ws := ws.new n17
      replace gs := gs.new n17
      replace P0 := P0.new n17
      replace G1 := G1.new n17
      replace G2 := G2.new n17
      have ⟨c_P0, _, l_P0⟩ := P0.at1
      have ⟨c_G1, _, l_G1⟩ := G1.at1
      have ⟨c_G2, _, l_G2⟩ := G2.at1
      go_wp2_with fail
      clear c_P0 l_P0 c_G1 l_G1 c_G2 l_G2
      refine (c_markAssembly _ _ _ _ _ _ _ gs (by omega) (by omega)).mono ?_
      rintro e w18 ⟨rfl, gm, f18⟩
      have q18 := f18.size
      replace N := N.fr f18 (by omega)
      replace R0 := R0.fr f18 (by omega)
      replace R1 := R1.fr f18 (by omega)
      replace ws := ws.fr f18 (by omega)
      replace P0 := P0.fr f18 (by omega)
      replace G1 := G1.fr f18 (by omega)
      replace G2 := G2.fr f18 (by omega)
      have ⟨c_P0, _, l_P0⟩ := P0.at1
      have ⟨c_G1, _, l_G1⟩ := G1.at1
      have ⟨c_G2, _, l_G2⟩ := G2.at1
      go_wp2_with fail
      clear c_P0 l_P0 c_G1 l_G1 c_G2 l_G2
      refine (c_heldAssembly _ _ _ _ _ _ gm.rd (by omega) (by omega)).mono ?_
      rintro e w19 ⟨rfl, n19⟩
      have q19 := n19.size
      replace N := N.step n19
      replace R0 := R0.new n19
      replace R1 := R1.new n19
      replace ws := ws.new n19
      replace gm := gm.new n19
      replace P0 := P0.new n19
      replace G1 := G1.new n19
      replace G2 := G2.new n19
      have ⟨c_P0, _, l_P0⟩ := P0.at1
      have ⟨c_G1, _, l_G1⟩ := G1.at1
      have ⟨c_G2, _, l_G2⟩ := G2.at1
      go_wp2_with fail
      clear c_P0 l_P0 c_G1 l_G1 c_G2 l_G2
      refine (c_toAssembly _ _ _ z0 _ R0 (by omega)).mono ?_
      rintro e w20 ⟨v20, rfl, xc, n20⟩
      have q20 := n20.size
      replace N := N.step n20
      replace R0 := R0.new n20
      replace R1 := R1.new n20
      replace ws := ws.new n20
      replace gm := gm.new n20
      replace P0 := P0.new n20
      replace G1 := G1.new n20
      replace G2 := G2.new n20
      have ⟨c_P0, _, l_P0⟩ := P0.at1
      have ⟨c_G1, _, l_G1⟩ := G1.at1
      have ⟨c_G2, _, l_G2⟩ := G2.at1
      go_wp2_with fail
      clear c_P0 l_P0 c_G1 l_G1 c_G2 l_G2
      refine (c_toInt64S _ _ _ z1 _ R1 hi1).mono ?_
      rintro e w21 ⟨v21, rfl, pd, n21⟩
      have q21 := n21.size
      replace N := N.step n21
      replace R0 := R0.new n21
      replace R1 := R1.new n21
      replace ws := ws.new n21
      replace gm := gm.new n21
      replace xc := xc.new n21
      replace P0 := P0.new n21
      replace G1 := G1.new n21
      replace G2 := G2.new n21
      have ⟨c_P0, _, l_P0⟩ := P0.at1
      have ⟨c_G1, _, l_G1⟩ := G1.at1
      have ⟨c_G2, _, l_G2⟩ := G2.at1
      go_wp2_with fail
      clear c_P0 l_P0 c_G1 l_G1 c_G2 l_G2
      refine (c_implSubAssembly _ _ _ _ _ _ z0 z1 _ xc pd.rd hi1).mono ?_
      rintro e w22 ⟨v22, rfl, hs, n22⟩
      have q22 := n22.size
      replace N := N.step n22
      replace R0 := R0.new n22
      replace R1 := R1.new n22
      replace ws := ws.new n22
      replace gm := gm.new n22
      replace xc := xc.new n22
      replace pd := pd.new n22
      replace P0 := P0.new n22
      replace G1 := G1.new n22
      replace G2 := G2.new n22
      have ⟨_, _, _, A_hs, c_hs_, hv22, _⟩ := hs.rd
      subst hv22
      have m22 : New w22 (w22.alloc (.cells #[.slice A_hs ((sbF z0 z1)).length c_hs_] 29)) := (New.same _).box _
      have G3 : BoxV (w22.alloc (.cells #[.slice A_hs ((sbF z0 z1)).length c_hs_] 29)) w22.heap.size [.slice A_hs ((sbF z0 z1)).length c_hs_] := .one (by go_simp) (by go_simp) (by simp <;> omega)
      have ⟨c_P0, _, l_P0⟩ := P0.at1
      have ⟨c_G1, _, l_G1⟩ := G1.at1
      have ⟨c_G2, _, l_G2⟩ := G2.at1
      go_wp2_with fail
      clear c_P0 l_P0 c_G1 l_G1 c_G2 l_G2
      have q23 := m22.size
      have qb23 : w22.heap.size < (w22.alloc (.cells #[.slice A_hs ((sbF z0 z1)).length c_hs_] 29)).heap.size := by simp
      replace N := N.step m22
      replace R0 := R0.new m22
      replace R1 := R1.new m22
      replace ws := ws.new m22
      replace gm := gm.new m22
      replace xc := xc.new m22
      replace pd := pd.new m22
      replace hs := hs.new m22
      replace P0 := P0.new m22
      replace G1 := G1.new m22
      replace G2 := G2.new m22
      generalize (w22.alloc (.cells #[.slice A_hs ((sbF z0 z1)).length c_hs_] 29)) = w23 at *
      refine (c_eqAssembly _ _ _ _ _ _ (sbF z0 z1) (sbF z0 z1) _ (hs.rd) (ws.rd)).mono ?_
      rintro e w24 ⟨rfl, n24⟩
      have q24 := n24.size
      replace N := N.step n24
      replace R0 := R0.new n24
      replace R1 := R1.new n24
      replace ws := ws.new n24
      replace gm := gm.new n24
      replace hs := hs.new n24
      replace P0 := P0.new n24
      replace G1 := G1.new n24
      replace G2 := G2.new n24
      replace G3 := G3.new n24
      have ⟨c_P0, _, l_P0⟩ := P0.at1
      have ⟨c_G1, _, l_G1⟩ := G1.at1
      have ⟨c_G2, _, l_G2⟩ := G2.at1
      have ⟨c_G3, _, l_G3⟩ := G3.at1
      go_wp2_with fail
      clear c_P0 l_P0 c_G1 l_G1 c_G2 l_G2 c_G3 l_G3
      refine (c_heldAssembly _ _ _ _ _ _ gm.rd (by omega) (by omega)).mono ?_
      rintro e w25 ⟨rfl, n25⟩
      have q25 := n25.size
      replace N := N.step n25
      replace R0 := R0.new n25
      replace R1 := R1.new n25
      replace ws := ws.new n25
      replace gm := gm.new n25
      replace hs := hs.new n25
      replace P0 := P0.new n25
      replace G1 := G1.new n25
      replace G2 := G2.new n25
      replace G3 := G3.new n25
      go_wp2
      go_ret
      exact ⟨rfl, N⟩
    · have E0 : szL (1048576) z0.length = -1 := szL_no (by omega)
      go_enter Try.func7, Try.ntmps7
      go_wp2_with fail
      have q0 : w.heap.size + 1 ≤ (w.alloc (.cells #[.slice A0 z0.length c0] 24)).heap.size := by simp
      generalize (w.alloc (.cells #[.slice A0 z0.length c0] 24)) = W0 at *
      replace R0 := R0.new N
      replace R1 := R1.new N
      refine (c_szAssembly A0 _ c0 (1048576) _ hm0 (by omega) (by omega)).mono ?_
      rintro e w26 ⟨rfl, n26⟩
      have q26 := n26.size
      replace N := N.step n26
      replace R0 := R0.new n26
      replace R1 := R1.new n26
      replace P0 := P0.new n26
      rw [E0]
      go_wp2
      go_ret
      exact ⟨rfl, N⟩
  · have hd1 : decide ((1048576 : Int) < (z1.length : Int)) = true := by simp; omega
    go_enter Try.func7, Try.ntmps7
    go_wp2
    go_ret
    exact ⟨rfl, N⟩

set_option maxRecDepth 100000 in
theorem lifted (os : Os) (started : os.Started) (H : Type) (enc : TypeId × Value → H) :
    ReturnsInHanded {} Try.checked os 7 .any (Rows.fnExactSubAssemblySpec.pre6 enc Try.prog Try.f7 Rows.fnExactSubAssemblyRow.domain false) (Rows.fnExactSubAssemblySpec.post enc Try.prog Try.f7 false true false false) := by
  refine returnsInHanded_of_change (C := Try.checked) prog_own started (by kernel_rfl) Try.func7
    (ChangeSpec.witness6 (enc := enc) (C := Try.checked) false ⟨#[], #[.agg #[.slice none 0 0], .slice none 0 0], []⟩ 8 (by kernel_rfl) (by kernel_rfl) (by kernel_rfl) (by kernel_rfl)) ?_
  intro W base args ds gs before hval0 hW _ _
  have hval : ∀ (j : Nat) t v, Try.f7.params[j]? = some t → args[j]? = some v → Value.okWide Try.prog W .any base t v := hval0
  have hW' := hW
  obtain ⟨p, q, hA0, hV, rfl, _, _⟩ := hW
  have hA : DataW.TrodAll enc Try.prog W 0 (fun _ => true) true Try.f7.params.toList args.toList ds p := hA0
  rw [Try.params7] at hA hval
  have hlt : ∀ x ∈ p, x.block < W.heap.size := fun x hx => hW'.lt x (List.mem_append_left _ hx)
  obtain ⟨v0, vs0, d0, ds0, p0, q0, hargs, rfl, rfl, h0, t0⟩ := trodAll_cons hA
  obtain ⟨v1, vs1, d1, ds1, p1, q1, rfl, rfl, rfl, h1, t1⟩ := trodAll_cons t0
  obtain ⟨rfl, rfl, rfl⟩ := trodAll_nil t1
  obtain rfl : args = #[v0, v1] := by cases args; simp_all
  have hlt0 : ∀ x ∈ p0, x.block < W.heap.size := fun x hx => hlt x (List.mem_append_left _ hx)
  have hlt1 : ∀ x ∈ p1, x.block < W.heap.size := fun x hx => hlt x (List.mem_append_right _ (List.mem_append_left _ hx))
  obtain ⟨u0, z0, rfl, r0⟩ := open_asm Try.underlying24 (by kernel_rfl) rfl rfl (by kernel_rfl) Try.underlying22 Try.underlying97 (by kernel_rfl) rfl rfl rfl rfl (by kernel_rfl) (by kernel_rfl) Try.underlying43 rfl rfl rfl rfl (by kernel_rfl) (by kernel_rfl) Try.underlying2 Try.underlying2 Try.underlying2 (hval 0 24 v0 rfl rfl) h0 hlt0
  obtain ⟨z1, r1, b1⟩ := open_ints_rd Try.underlying48 Try.underlying2 (by kernel_rfl) (hval 1 48 v1 rfl rfl) h1 hlt1
  refine (walk W u0 z0 r0 v1 z1 r1 b1).mono fun e W' ⟨he, hb⟩ => ⟨_, he, ?_⟩
  exact law_post prog_laid (by kernel_rfl) rfl Try.underlying4 rfl (by intro ds h; rw [Try.params7] at h; match ds, h with | [_, _], _ => exact ⟨rfl, rfl, rfl⟩) hW' hb

theorem over : Rows.fnExactSubAssemblyRow.holds Try.pinned (OpenSpec.ofChange Rows.fnExactSubAssemblySpec) :=
  OpenClaim.holds_of_wide 7 Try.f7 rfl rfl rfl rfl rfl rfl rfl ⟨rfl, rfl, rfl, rfl, rfl⟩ rfl rfl rfl rfl rfl (by kernel_rfl) Try.func7 (by kernel_rfl)
    (of_decide_eq_true (by kernel_rfl)) (by unfold Func.isWrapper; first | (rw [if_pos (by decide +kernel)]; kernel_rfl) | (rw [if_neg (by decide +kernel)]; exact ⟨rfl, rfl⟩))
    (fun os started H enc _ => lifted os started H enc)

theorem proved : Rows.FnExactSubAssemblySaid := over
end fnExactSubAssembly
#print axioms fnExactSubAssembly.proved

end Go.Proofs.Ytnbpcdnncfkgjaa
