/- The law FnExactReadGrid returns true for every input that can be read as data, where the listed tables hold what the program's text lays. -/
import Derived.Test.YtcbifdfcllaaaaaGreatDoorTabG
import Derived.Test.YtcbifdfcllaaaaaGreatDoorGridI2
import Derived.Test.YtcbifdfcllaaaaaGreatDoorMarkSet
namespace Go.Proofs.YtcbifdfcllaaaaaGreatDoor
open Go.ChangeShapes Go.WideShapes Go.ChangeAt Go.RowKit
open Go.ChangeMaps (open_string)
namespace fnExactReadGrid
set_option linter.unusedVariables false
set_option maxRecDepth 100000 in
set_option maxHeartbeats 4000000 in
theorem walk (w : World) (gv0 tv0 : Value) (G0 : List (ByteArray × Int)) (T0 : List (ByteArray × List Int)) (sv0 : List Value) (r0 : RdS w 0 w.heap.size gv0 tv0 G0 T0 sv0) (hg0 : ∀ g ∈ G0, g.1.size ≤ maxLen) (ht0 : ∀ t ∈ T0, t.1.size ≤ maxLen) (s1 : ByteArray) (b1 : s1.size ≤ maxLen) (hT : TabW w ∧ ErrW w) : Calls Tryz.prog 3 #[.agg #[gv0, tv0], .string s1] w fun e w' => e = .returned (.bool true) ∧ New w w' := by
  have R0 := r0
  obtain ⟨A0, c0, B0, d0, rfl, rfl⟩ := r0.form
  have N : New w (w.alloc (.cells #[.slice A0 G0.length c0, .slice B0 T0.length d0] 25)) := ((New.same w).box _)
  have P0 : BoxV (w.alloc (.cells #[.slice A0 G0.length c0, .slice B0 T0.length d0] 25)) (w.heap.size) [.slice A0 G0.length c0, .slice B0 T0.length d0] := .two (by go_simp) (by go_simp) (by go_simp) (by go_simp) (by simp <;> omega)
  by_cases hi1 : s1.size ≤ 1048576
  · have hd1 : decide ((1048576 : Int) < (s1.size : Int)) = false := by simp; omega
    obtain ⟨L0, E0⟩ : ∃ L, szS (1048576) G0 T0 = L := ⟨_, rfl⟩
    by_cases hz0 : 0 ≤ L0
    · have ⟨hb0, hG0, hT0, hS0⟩ := szS_le (by rw [E0]; exact hz0 : 0 ≤ szS (1048576) G0 T0)
      rw [E0] at hb0
      have hs0 : ∀ t ∈ T0, t.2.length ≤ 1048576 := fun t ht => by have := hS0 t ht; omega
      clear hS0
      obtain ⟨XZ, XL, XC, hX⟩ : ∃ a b c, gridV G0 T0 s1.size (lnS s1) = (a, b, c) := ⟨_, _, _, rfl⟩
      have hXl : XZ.length ≤ 500 := by have h := gridV_le G0 T0 s1.size (lnS s1); rw [hX] at h; exact h
      have eX : (XL != XL) = false := by simp
      have eY : (XC != XC) = false := by simp
      have HTW := Lib.hid hT
      clear hT
      have hcn := cntT_le hs0
      obtain ⟨Z, hZ⟩ : ∃ Z : Nat, 1 + 2 * G0.length + cntT T0 = Z := ⟨_, rfl⟩
      have hz1 : decide ((Z : Int) < 0) = false := by simp
      obtain ⟨Q, hQ⟩ : ∃ Q : Nat, (1 : Int) + ((XZ.length * 3 : Nat) : Int) = (Q : Int) := ⟨1 + XZ.length * 3, by omega⟩
      have hz2 : decide ((Q : Int) < 0) = false := by simp
      go_enter Tryz.func3, Tryz.ntmps3
      go_wp2_with fail
      have q0 : w.heap.size + 1 ≤ (w.alloc (.cells #[.slice A0 G0.length c0, .slice B0 T0.length d0] 25)).heap.size := by simp
      generalize (w.alloc (.cells #[.slice A0 G0.length c0, .slice B0 T0.length d0] 25)) = W0 at *
      replace R0 := R0.new N
      refine (c_szTileSet _ _ _ _ G0 T0 _ (1048576) _ R0 hg0 ht0 (by omega) (by omega)).mono ?_
      rintro e w1 ⟨rfl, n1⟩
      have q1 := n1.size
      replace N := N.step n1
      replace R0 := R0.new n1
      replace P0 := P0.new n1
      rw [E0]
      have ⟨⟨c_P0, d_P0⟩, _, l_P0⟩ := P0.at2
      go_wp2_with fail
      clear c_P0 d_P0 l_P0
      refine (c_toTileSet _ _ _ _ G0 T0 _ _ R0 (by omega) (by omega) hs0).mono ?_
      rintro e w2 ⟨g2, t2, s2, rfl, xa, n2⟩
      have q2 := n2.size
      replace N := N.step n2
      replace R0 := R0.new n2
      replace P0 := P0.new n2
      obtain ⟨A_xa, c_xa_, K_xa, d_xa_, hva, hvb⟩ := xa.rd.form
      subst hva hvb
      have ⟨⟨c_P0, d_P0⟩, _, l_P0⟩ := P0.at2
      go_wp2_with fail
      clear c_P0 d_P0 l_P0
      refine (c_specReadGrid _ _ _ _ G0 T0 _ s1 _ xa.rd hg0 ht0 hi1).mono ?_
      rintro e w3 ⟨ua, he_ws, h_ws, n3⟩
      have q3 := n3.size
      replace N := N.step n3
      replace R0 := R0.new n3
      replace xa := xa.new n3
      replace P0 := P0.new n3
      rw [hX] at he_ws h_ws
      replace he_ws : e = .returned (.tuple #[.agg #[ua], .int .i64 XL, .int .i64 XC]) := he_ws
      subst he_ws
      have ws : Own _ _ _ 85 3 ua XZ.length (XZ.flatMap plCells) := h_ws
      clear h_ws
      obtain ⟨M_ws, e_ws_, hva⟩ := own_sl3 ws.1
      subst hva
      have m3 : New w3 (w3.alloc (.cells #[.slice M_ws XZ.length e_ws_] 29)) := (New.same _).box _
      have B_ws : BoxV (w3.alloc (.cells #[.slice M_ws XZ.length e_ws_] 29)) w3.heap.size [.slice M_ws XZ.length e_ws_] := .one (by go_simp) (by go_simp) (by simp <;> omega)
      have ⟨⟨c_P0, d_P0⟩, _, l_P0⟩ := P0.at2
      go_wp2_with fail
      clear c_P0 d_P0 l_P0
      have q4 := m3.size
      have qb4 : w3.heap.size < (w3.alloc (.cells #[.slice M_ws XZ.length e_ws_] 29)).heap.size := by simp
      replace N := N.step m3
      replace R0 := R0.new m3
      replace xa := xa.new m3
      replace ws := ws.new m3
      replace P0 := P0.new m3
      generalize (w3.alloc (.cells #[.slice M_ws XZ.length e_ws_] 29)) = w4 at *
      refine (c_toTileSet _ _ _ _ G0 T0 _ _ R0 (by omega) (by omega) hs0).mono ?_
      rintro e w5 ⟨g5, t5, s5, rfl, xb, n5⟩
      have q5 := n5.size
      replace N := N.step n5
      replace R0 := R0.new n5
      replace ws := ws.new n5
      replace P0 := P0.new n5
      replace B_ws := B_ws.new n5
      obtain ⟨A_xb, c_xb_, K_xb, d_xb_, hva, hvb⟩ := xb.rd.form
      subst hva hvb
      have m5 : New w5 (w5.alloc (.cells #[.slice A_xb G0.length c_xb_, .slice K_xb T0.length d_xb_] 35)) := (New.same _).box _
      have B_xb : BoxV (w5.alloc (.cells #[.slice A_xb G0.length c_xb_, .slice K_xb T0.length d_xb_] 35)) w5.heap.size [.slice A_xb G0.length c_xb_, .slice K_xb T0.length d_xb_] := .two (by go_simp) (by go_simp) (by go_simp) (by go_simp) (by simp)
      have ⟨⟨c_P0, d_P0⟩, _, l_P0⟩ := P0.at2
      have ⟨c_B_ws, _, l_B_ws⟩ := B_ws.at1
      go_wp2_with fail
      clear c_P0 d_P0 l_P0 c_B_ws l_B_ws
      have q6 := m5.size
      have qb6 : w5.heap.size < (w5.alloc (.cells #[.slice A_xb G0.length c_xb_, .slice K_xb T0.length d_xb_] 35)).heap.size := by simp
      replace N := N.step m5
      replace R0 := R0.new m5
      replace ws := ws.new m5
      replace xb := xb.new m5
      replace P0 := P0.new m5
      replace B_ws := B_ws.new m5
      generalize (w5.alloc (.cells #[.slice A_xb G0.length c_xb_, .slice K_xb T0.length d_xb_] 35)) = w6 at *
      refine (c_implReadGrid _ _ _ _ G0 T0 _ s1 _ xb.rd hg0 ht0 hi1 (tab_new HTW.out.1 N) (err_new HTW.out.2 N)).mono ?_
      rintro e w7 ⟨ub, he_gs, h_gs, n7⟩
      have q7 := n7.size
      replace N := N.step n7
      replace R0 := R0.new n7
      replace ws := ws.new n7
      replace xb := xb.new n7
      replace P0 := P0.new n7
      replace B_ws := B_ws.new n7
      replace B_xb := B_xb.new n7
      rw [hX] at he_gs h_gs
      replace he_gs : e = .returned (.tuple #[.agg #[ub], .int .i64 XL, .int .i64 XC]) := he_gs
      subst he_gs
      have gs : Own _ _ _ 85 3 ub XZ.length (XZ.flatMap plCells) := h_gs
      clear h_gs
      obtain ⟨M_gs, e_gs_, hva⟩ := own_sl3 gs.1
      subst hva
      have m7 : New w7 (w7.alloc (.cells #[.slice M_gs XZ.length e_gs_] 29)) := (New.same _).box _
      have B_gs : BoxV (w7.alloc (.cells #[.slice M_gs XZ.length e_gs_] 29)) w7.heap.size [.slice M_gs XZ.length e_gs_] := .one (by go_simp) (by go_simp) (by simp <;> omega)
      have ⟨⟨c_P0, d_P0⟩, _, l_P0⟩ := P0.at2
      have ⟨c_B_ws, _, l_B_ws⟩ := B_ws.at1
      have ⟨⟨c_B_xb, d_B_xb⟩, _, l_B_xb⟩ := B_xb.at2
      go_wp2_with fail
      clear c_P0 d_P0 l_P0 c_B_ws l_B_ws c_B_xb d_B_xb l_B_xb
      have q8 := m7.size
      have qb8 : w7.heap.size < (w7.alloc (.cells #[.slice M_gs XZ.length e_gs_] 29)).heap.size := by simp
      replace N := N.step m7
      replace R0 := R0.new m7
      replace ws := ws.new m7
      replace xb := xb.new m7
      replace gs := gs.new m7
      replace P0 := P0.new m7
      replace B_ws := B_ws.new m7
      replace B_xb := B_xb.new m7
      generalize (w7.alloc (.cells #[.slice M_gs XZ.length e_gs_] 29)) = w8 at *
      refine (c_eqAssembly_self _ _ _ _ _ _ XZ _ gs.rd ws.rd).mono ?_
      rintro e w9 ⟨rfl, n9⟩
      have q9 := n9.size
      replace N := N.step n9
      replace R0 := R0.new n9
      replace ws := ws.new n9
      replace xb := xb.new n9
      replace gs := gs.new n9
      replace P0 := P0.new n9
      replace B_ws := B_ws.new n9
      replace B_xb := B_xb.new n9
      replace B_gs := B_gs.new n9
      have ⟨⟨c_P0, d_P0⟩, _, l_P0⟩ := P0.at2
      have ⟨c_B_ws, _, l_B_ws⟩ := B_ws.at1
      have ⟨⟨c_B_xb, d_B_xb⟩, _, l_B_xb⟩ := B_xb.at2
      have ⟨c_B_gs, _, l_B_gs⟩ := B_gs.at1
      go_upto_region 12 with fail
      clear c_P0 d_P0 l_P0 c_B_ws l_B_ws c_B_xb d_B_xb l_B_xb c_B_gs l_B_gs
      have TT10 := Lib.hid (fun (wx : World) (nx : New w9 wx) => c_toTileSet _ _ _ _ G0 T0 _ wx (R0.new nx) (by omega) (by omega) hs0)
      have XX10 := Lib.hid xb
      go_region_held3 (fun w' => w'.cell? ⟨w5.heap.size, 0, none⟩ = some (.slice A_xb G0.length c_xb_) ∧ w'.cell? ⟨w5.heap.size, 1, none⟩ = some (.slice K_xb T0.length d_xb_) ∧ w'.cell? ⟨w.heap.size, 0, none⟩ = some (.slice A0 G0.length c0) ∧ w'.cell? ⟨w.heap.size, 1, none⟩ = some (.slice B0 T0.length d0))
        (exact keepV2 (w1 := w9) (by (repeat' (first | (with_reducible exact New.same _) | (with_reducible assumption) | (with_reducible refine New.box ?_ _) | (with_reducible refine New.drew_ ?_) | (with_reducible refine New.set ?_ ?_ _ _) | (with_reducible refine New.step ?_ (by assumption))))) B_xb P0)
        (first | (go_at_call 9; refine (c_eqTileSet_self _ _ _ _ _ _ _ _ G0 T0 _ _ _ ((XX10.out.new ((New.same _).drew_)).rd.new na10) hQ10.rd).mono ?_; rintro e wb10 ⟨rfl, nb10⟩) | (go_at_call 6; refine (TT10.out _ ?_).mono ?_; (· (repeat' (first | (with_reducible exact New.same _) | (with_reducible assumption) | (with_reducible refine New.box ?_ _) | (with_reducible refine New.drew_ ?_) | (with_reducible refine New.set ?_ ?_ _ _) | (with_reducible refine New.step ?_ (by assumption))))); rintro e wa10 ⟨gq10, tq10, sq10, rfl, hQ10, na10⟩))
      have M10 : New w9 wb10 := by (repeat' (first | (with_reducible exact New.same _) | (with_reducible assumption) | (with_reducible refine New.box ?_ _) | (with_reducible refine New.drew_ ?_) | (with_reducible refine New.set ?_ ?_ _ _) | (with_reducible refine New.step ?_ (by assumption))))
      clear TT10 XX10 hQ10
      have q10 := M10.size
      replace N := N.step M10
      replace R0 := R0.new M10
      replace ws := ws.new M10
      replace xb := xb.new M10
      replace gs := gs.new M10
      replace P0 := P0.new M10
      replace B_ws := B_ws.new M10
      replace B_xb := B_xb.new M10
      replace B_gs := B_gs.new M10
      have ⟨⟨c_P0, d_P0⟩, _, l_P0⟩ := P0.at2
      have ⟨c_B_ws, _, l_B_ws⟩ := B_ws.at1
      have ⟨⟨c_B_xb, d_B_xb⟩, _, l_B_xb⟩ := B_xb.at2
      have ⟨c_B_gs, _, l_B_gs⟩ := B_gs.at1
      go_wp2_with fail
      clear c_P0 d_P0 l_P0 c_B_ws l_B_ws c_B_xb d_B_xb l_B_xb c_B_gs l_B_gs
      refine (c_markTileSet _ _ _ _ _ _ _ 1 _ xb (by omega)).mono ?_
      rintro e w11 ⟨rfl, ym, f11⟩
      have q11 := f11.size
      replace N := N.fr f11 (by omega)
      replace R0 := R0.fr f11 (by omega)
      replace ws := ws.fr f11 (by omega)
      replace gs := gs.fr f11 (by omega)
      replace P0 := P0.fr f11 (by omega)
      replace B_ws := B_ws.fr f11 (by omega)
      replace B_xb := B_xb.fr f11 (by omega)
      replace B_gs := B_gs.fr f11 (by omega)
      rw [hZ]
      have ⟨⟨c_P0, d_P0⟩, _, l_P0⟩ := P0.at2
      have ⟨c_B_ws, _, l_B_ws⟩ := B_ws.at1
      have ⟨c_B_gs, _, l_B_gs⟩ := B_gs.at1
      go_wp2_with fail
      clear c_P0 d_P0 l_P0 c_B_ws l_B_ws c_B_gs l_B_gs
      refine (c_eqAssembly_self _ _ _ _ _ _ XZ _ gs.rd ws.rd).mono ?_
      rintro e w12 ⟨rfl, n12⟩
      have q12 := n12.size
      replace N := N.step n12
      replace R0 := R0.new n12
      replace ws := ws.new n12
      replace gs := gs.new n12
      replace P0 := P0.new n12
      replace B_ws := B_ws.new n12
      replace B_gs := B_gs.new n12
      have ⟨⟨c_P0, d_P0⟩, _, l_P0⟩ := P0.at2
      have ⟨c_B_ws, _, l_B_ws⟩ := B_ws.at1
      have ⟨c_B_gs, _, l_B_gs⟩ := B_gs.at1
      go_wp2_with fail
      clear c_P0 d_P0 l_P0 c_B_ws l_B_ws c_B_gs l_B_gs
      refine (c_markAssembly _ _ _ _ _ 1 _ gs (by omega) (by omega)).mono ?_
      rintro e w13 ⟨rfl, gm, f13⟩
      have q13 := f13.size
      replace N := N.fr f13 (by omega)
      replace R0 := R0.fr f13 (by omega)
      replace ws := ws.fr f13 (by omega)
      replace P0 := P0.fr f13 (by omega)
      replace B_ws := B_ws.fr f13 (by omega)
      replace B_gs := B_gs.fr f13 (by omega)
      rw [hQ]
      have ⟨⟨c_P0, d_P0⟩, _, l_P0⟩ := P0.at2
      have ⟨c_B_ws, _, l_B_ws⟩ := B_ws.at1
      have ⟨c_B_gs, _, l_B_gs⟩ := B_gs.at1
      go_wp2_with fail
      clear c_P0 d_P0 l_P0 c_B_ws l_B_ws c_B_gs l_B_gs
      refine (c_heldAssembly _ _ _ XZ.length 1 _ gm.rd (by omega) (by omega)).mono ?_
      rintro e w14 ⟨rfl, n14⟩
      have q14 := n14.size
      replace N := N.step n14
      replace R0 := R0.new n14
      replace ws := ws.new n14
      replace gm := gm.new n14
      replace P0 := P0.new n14
      replace B_ws := B_ws.new n14
      replace B_gs := B_gs.new n14
      rw [hQ]
      have ⟨⟨c_P0, d_P0⟩, _, l_P0⟩ := P0.at2
      have ⟨c_B_ws, _, l_B_ws⟩ := B_ws.at1
      have ⟨c_B_gs, _, l_B_gs⟩ := B_gs.at1
      go_wp2_with fail
      clear c_P0 d_P0 l_P0 c_B_ws l_B_ws c_B_gs l_B_gs
      refine (c_toTileSet _ _ _ _ G0 T0 _ _ R0 (by omega) (by omega) hs0).mono ?_
      rintro e w15 ⟨g15, t15, s15, rfl, xc, n15⟩
      have q15 := n15.size
      replace N := N.step n15
      replace R0 := R0.new n15
      replace ws := ws.new n15
      replace gm := gm.new n15
      replace P0 := P0.new n15
      replace B_ws := B_ws.new n15
      replace B_gs := B_gs.new n15
      obtain ⟨A_xc, c_xc_, K_xc, d_xc_, hva, hvb⟩ := xc.rd.form
      subst hva hvb
      have ⟨⟨c_P0, d_P0⟩, _, l_P0⟩ := P0.at2
      have ⟨c_B_ws, _, l_B_ws⟩ := B_ws.at1
      have ⟨c_B_gs, _, l_B_gs⟩ := B_gs.at1
      go_wp2_with fail
      clear c_P0 d_P0 l_P0 c_B_ws l_B_ws c_B_gs l_B_gs
      refine (c_implReadGrid _ _ _ _ G0 T0 _ s1 _ xc.rd hg0 ht0 hi1 (tab_new HTW.out.1 N) (err_new HTW.out.2 N)).mono ?_
      rintro e w16 ⟨uc, he_hs, h_hs, n16⟩
      have q16 := n16.size
      replace N := N.step n16
      replace R0 := R0.new n16
      replace ws := ws.new n16
      replace gm := gm.new n16
      replace xc := xc.new n16
      replace P0 := P0.new n16
      replace B_ws := B_ws.new n16
      replace B_gs := B_gs.new n16
      rw [hX] at he_hs h_hs
      replace he_hs : e = .returned (.tuple #[.agg #[uc], .int .i64 XL, .int .i64 XC]) := he_hs
      subst he_hs
      have hs : Own _ _ _ 85 3 uc XZ.length (XZ.flatMap plCells) := h_hs
      clear h_hs
      obtain ⟨M_hs, e_hs_, hva⟩ := own_sl3 hs.1
      subst hva
      have m16 : New w16 (w16.alloc (.cells #[.slice M_hs XZ.length e_hs_] 29)) := (New.same _).box _
      have B_hs : BoxV (w16.alloc (.cells #[.slice M_hs XZ.length e_hs_] 29)) w16.heap.size [.slice M_hs XZ.length e_hs_] := .one (by go_simp) (by go_simp) (by simp <;> omega)
      have ⟨⟨c_P0, d_P0⟩, _, l_P0⟩ := P0.at2
      have ⟨c_B_ws, _, l_B_ws⟩ := B_ws.at1
      have ⟨c_B_gs, _, l_B_gs⟩ := B_gs.at1
      go_wp2_with fail
      clear c_P0 d_P0 l_P0 c_B_ws l_B_ws c_B_gs l_B_gs
      have q17 := m16.size
      have qb17 : w16.heap.size < (w16.alloc (.cells #[.slice M_hs XZ.length e_hs_] 29)).heap.size := by simp
      replace N := N.step m16
      replace R0 := R0.new m16
      replace ws := ws.new m16
      replace gm := gm.new m16
      replace xc := xc.new m16
      replace hs := hs.new m16
      replace P0 := P0.new m16
      replace B_ws := B_ws.new m16
      replace B_gs := B_gs.new m16
      generalize (w16.alloc (.cells #[.slice M_hs XZ.length e_hs_] 29)) = w17 at *
      refine (c_eqAssembly_self _ _ _ _ _ _ XZ _ hs.rd ws.rd).mono ?_
      rintro e w18 ⟨rfl, n18⟩
      have q18 := n18.size
      replace N := N.step n18
      replace R0 := R0.new n18
      replace ws := ws.new n18
      replace gm := gm.new n18
      replace hs := hs.new n18
      replace P0 := P0.new n18
      replace B_ws := B_ws.new n18
      replace B_gs := B_gs.new n18
      replace B_hs := B_hs.new n18
      have ⟨⟨c_P0, d_P0⟩, _, l_P0⟩ := P0.at2
      have ⟨c_B_ws, _, l_B_ws⟩ := B_ws.at1
      have ⟨c_B_gs, _, l_B_gs⟩ := B_gs.at1
      have ⟨c_B_hs, _, l_B_hs⟩ := B_hs.at1
      go_wp2_with fail
      clear c_P0 d_P0 l_P0 c_B_ws l_B_ws c_B_gs l_B_gs c_B_hs l_B_hs
      refine (c_heldAssembly _ _ _ XZ.length 1 _ gm.rd (by omega) (by omega)).mono ?_
      rintro e w19 ⟨rfl, n19⟩
      have q19 := n19.size
      replace N := N.step n19
      replace R0 := R0.new n19
      replace ws := ws.new n19
      replace gm := gm.new n19
      replace hs := hs.new n19
      replace P0 := P0.new n19
      replace B_ws := B_ws.new n19
      replace B_gs := B_gs.new n19
      replace B_hs := B_hs.new n19
      rw [hQ]
      have ⟨⟨c_P0, d_P0⟩, _, l_P0⟩ := P0.at2
      have ⟨c_B_ws, _, l_B_ws⟩ := B_ws.at1
      have ⟨c_B_gs, _, l_B_gs⟩ := B_gs.at1
      have ⟨c_B_hs, _, l_B_hs⟩ := B_hs.at1
      go_wp2
      go_ret
      exact ⟨rfl, N⟩
    · have EE0 : L0 = -1 := by rw [← E0]; exact szS_lo _ _ _ (by rw [E0]; omega)
      subst EE0
      go_enter Tryz.func3, Tryz.ntmps3
      go_wp2_with fail
      have q0 : w.heap.size + 1 ≤ (w.alloc (.cells #[.slice A0 G0.length c0, .slice B0 T0.length d0] 25)).heap.size := by simp
      generalize (w.alloc (.cells #[.slice A0 G0.length c0, .slice B0 T0.length d0] 25)) = W0 at *
      replace R0 := R0.new N
      refine (c_szTileSet _ _ _ _ G0 T0 _ (1048576) _ R0 hg0 ht0 (by omega) (by omega)).mono ?_
      rintro e w20 ⟨rfl, n20⟩
      have q20 := n20.size
      replace N := N.step n20
      replace R0 := R0.new n20
      replace P0 := P0.new n20
      rw [E0]
      have ⟨⟨c_P0, d_P0⟩, _, l_P0⟩ := P0.at2
      go_wp2
      go_ret
      exact ⟨rfl, N⟩
  · have hd1 : decide ((1048576 : Int) < (s1.size : Int)) = true := by simp; omega
    go_enter Tryz.func3, Tryz.ntmps3
    go_wp2
    go_ret
    exact ⟨rfl, N⟩


set_option maxRecDepth 100000 in
theorem contract (H : Type) (enc : TypeId × Value → H) (W : World) (base : Nat) (args : Array Value) (ds gs : List (DataW H)) (before : List MemPlace)
    (hval0 : ∀ (j : Nat) t v, Tryz.f3.params[j]? = some t → args[j]? = some v → Value.okWide Tryz.prog W .any base t v)
    (hW : DataW.Whole enc Tryz.prog Tryz.f3.params.toList Rows.fnExactReadGridSpec.vars false W args.toList ds gs before) (hL : laidMetH Tryz.prog Rows.fnExactReadGridRow.laid W) :
    Calls Tryz.prog 3 args W fun e W' => ∃ v, e = .returned v ∧ Rows.fnExactReadGridSpec.post enc Tryz.prog Tryz.f3 false true false false W args v W' := by
  have hval : ∀ (j : Nat) t v, Tryz.f3.params[j]? = some t → args[j]? = some v → Value.okWide Tryz.prog W .any base t v := hval0
  have hW' := hW
  obtain ⟨p, q, hA0, hV, rfl, _, _⟩ := hW
  have hA : DataW.TrodAll enc Tryz.prog W 0 (fun _ => true) true Tryz.f3.params.toList args.toList ds p := hA0
  rw [Tryz.params3] at hA hval
  have hlt : ∀ x ∈ p, x.block < W.heap.size := fun x hx => hW'.lt x (List.mem_append_left _ hx)
  obtain ⟨v0, vs0, d0, ds0, p0, q0, hargs, rfl, rfl, h0, t0⟩ := trodAll_cons hA
  obtain ⟨v1, vs1, d1, ds1, p1, q1, rfl, rfl, rfl, h1, t1⟩ := trodAll_cons t0
  obtain ⟨rfl, rfl, rfl⟩ := trodAll_nil t1
  obtain rfl : args = #[v0, v1] := by cases args; simp_all
  have hlt0 : ∀ x ∈ p0, x.block < W.heap.size := fun x hx => hlt x (List.mem_append_left _ hx)
  obtain ⟨gv0, tv0, G0, T0, sv0, rfl, ⟨rg0, hg0⟩, rt0, ht0⟩ := open_set Tryz.underlying25 (by kernel_rfl) rfl rfl rfl rfl (by kernel_rfl) (by kernel_rfl) Tryz.underlying22 Tryz.underlying67 (by kernel_rfl) rfl rfl rfl rfl Tryz.underlying23 Tryz.underlying71 (by kernel_rfl) rfl rfl rfl rfl (by kernel_rfl) (by kernel_rfl) (by kernel_rfl) Tryz.underlying9 Tryz.underlying2 Tryz.underlying69 (hval 0 25 v0 rfl rfl) h0 hlt0
  obtain ⟨s1, rfl, _, _, b1⟩ := open_string Tryz.underlying9 (hval 1 9 v1 rfl rfl) h1
  refine (walk W gv0 tv0 G0 T0 sv0 ⟨rg0, rt0⟩ hg0 ht0 s1 b1 (tabe_of hL)).mono fun e W' ⟨he, hb⟩ => ⟨_, he, ?_⟩
  exact law_post prog_laid (by kernel_rfl) rfl Tryz.underlying4 rfl (by intro ds h; rw [Tryz.params3] at h; match ds, h with | [_, _], _ => exact ⟨rfl, rfl, rfl⟩) hW' hb

theorem reads (os : Os) {H : Type} (enc : TypeId × Value → H) : ∃ places, DataW.whole enc Tryz.prog ((laidWorld2 os).forCall (fun _ _ => 0) ⟨#[], #[.agg #[.slice none 0 0, .slice none 0 0], .string ⟨#[]⟩], []⟩).memory Tryz.f3.params.toList Rows.fnExactReadGridSpec.vars false #[.agg #[.slice none 0 0, .slice none 0 0], .string ⟨#[]⟩].toList 8 = some ([.agg [.nil, .nil], .lit (.string [])], [], places) :=
  ⟨[], by kernel_rfl⟩

set_option maxRecDepth 100000 in
theorem lifted (os : Os) (started : os.Started) (H : Type) (enc : TypeId × Value → H) (F : Stop.Interp) :
    ReturnsInHanded {} Tryz.checked os 3 .any ((OpenSpec.ofChange Rows.fnExactReadGridSpec).preRow enc Tryz.prog Tryz.f3 Rows.fnExactReadGridRow.domain false Rows.fnExactReadGridRow.laid) (((OpenSpec.ofChange Rows.fnExactReadGridSpec).at F).post enc Tryz.prog Tryz.f3 false true false false) := by
  obtain ⟨places, hx⟩ := reads os enc
  refine returnsInHanded_of_row (C := Tryz.checked) (s := OpenSpec.ofChange Rows.fnExactReadGridSpec) prog_own started (by kernel_rfl) Tryz.func3
    (witness_row_at (enc := enc) (C := Tryz.checked) false (laidWorld2 os) #[.agg #[.slice none 0 0, .slice none 0 0], .string ⟨#[]⟩] rfl (by kernel_rfl) (by kernel_rfl) (by kernel_rfl)
      (OpenSpec.preRow_of_cond 8 hx (by kernel_rfl) (fun k hk => by cases hk) (by kernel_rfl) (laidMet_of_run' 8 (by kernel_rfl) (by kernel_rfl)))) ?_
  intro W base args ds gs before hval hW _ _ _ hL hsh _
  exact contract H enc W base args ds gs before hval hW hL

set_option maxRecDepth 100000 in
theorem over : Rows.FnExactReadGridSaid :=
  OpenClaim.holds_of_cond 3 Tryz.f3 rfl rfl rfl rfl rfl rfl rfl ⟨rfl, rfl, rfl, rfl, rfl⟩ rfl rfl rfl rfl rfl (by kernel_rfl) Tryz.func3 (by kernel_rfl)
    (of_decide_eq_true (by kernel_rfl)) (by unfold Func.isWrapper; first | (rw [if_pos (by decide +kernel)]; kernel_rfl) | (rw [if_neg (by decide +kernel)]; exact ⟨rfl, rfl⟩))
    (fun os started H enc _ F => by rw [OpenClaim.pre_eq_preRow]; exact lifted os started H enc F)

theorem plain (f : FuncId) (fn : Func) (hf : Tryz.pinned.checked.prog.funcNamed "loop.example/g01081/laws.FnExactReadGrid" = some f) (hfn : Tryz.pinned.checked.prog.funcs[f]? = some fn) :
    true = Tryz.pinned.checked.prog.looks [] ∧ ∀ (j : Nat) t, fn.params[j]? = some t → Tryz.pinned.checked.prog.wantsStandIn t = false := by
  obtain rfl : f = 3 := Option.some.inj ((show Tryz.prog.funcNamed "loop.example/g01081/laws.FnExactReadGrid" = some 3 by kernel_rfl).symm.trans hf) |>.symm
  obtain rfl : fn = Tryz.f3 := (Option.some.inj (Tryz.func3.symm.trans hfn)).symm
  refine ⟨by kernel_rfl, fun j t ht => ?_⟩
  rw [Tryz.params3] at ht
  have ht' := Array.mem_of_getElem? ht
  simp only [List.mem_toArray, List.mem_cons, List.not_mem_nil, or_false] at ht'
  rcases ht' with rfl | rfl
  · exact (show Tryz.prog.wantsStandIn 25 = false by kernel_rfl)
  · exact (show Tryz.prog.wantsStandIn 9 = false by kernel_rfl)

theorem proved : Rows.FnExactReadGridCardSaid :=
  Claim7.holds_tied_plain_at .later [] _ _ _ _ over (fun _ h => by cases h) (by kernel_rfl) (fun _ h => by cases h) fnExactReadGrid_row_tie rfl ⟨rfl, rfl⟩ (by kernel_rfl) rfl plain (by kernel_rfl)
end fnExactReadGrid
#print axioms fnExactReadGrid.proved

end Go.Proofs.YtcbifdfcllaaaaaGreatDoor
