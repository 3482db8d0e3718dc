/- The law FnExactTrimSet returns true for every input that can be read as data. No condition. -/
import Derived.Test.YtcbifdfcllaaaaaTrim3
import Derived.Test.YtcbifdfcllaaaaaTrimM
import Derived.Test.YtcbifdfcllaaaaaTrimB
namespace Go.Proofs.Ytcbifdfcllaaaaa
open Go.ChangeShapes Go.WideShapes Go.ChangeAt Go.RowKit
open Go.ChangeMaps (open_string)
namespace fnExactTrimSet
set_option linter.unusedVariables false
set_option maxRecDepth 100000 in
set_option maxHeartbeats 4000000 in
theorem walk (w : World) (gv0 tv0 : Value) (G0 : List (ByteArray × Int)) (T0 : List (ByteArray × List Int)) (sv0 : List Value) (r0 : RdS w 0 w.heap.size gv0 tv0 G0 T0 sv0) (hg0 : ∀ g ∈ G0, g.1.size ≤ maxLen) (ht0 : ∀ t ∈ T0, t.1.size ≤ maxLen) : Calls Try.prog 3 #[.agg #[gv0, tv0]] w fun e w' => e = .returned (.bool true) ∧ New w w' := by
  have R0 := r0
  obtain ⟨A0, c0, B0, d0, rfl, rfl⟩ := r0.form
  have N : New w (w.alloc (.cells #[.slice A0 G0.length c0, .slice B0 T0.length d0] 25)) := ((New.same w).box _)
  have P0 : BoxV (w.alloc (.cells #[.slice A0 G0.length c0, .slice B0 T0.length d0] 25)) (w.heap.size) [.slice A0 G0.length c0, .slice B0 T0.length d0] := .two (by go_simp) (by go_simp) (by go_simp) (by go_simp) (by simp <;> omega)
  obtain ⟨L0, E0⟩ : ∃ L, szS (1048576) G0 T0 = L := ⟨_, rfl⟩
  by_cases hz0 : 0 ≤ L0
  · have ⟨hb0, hG0, hT0, hS0⟩ := szS_le (by rw [E0]; exact hz0 : 0 ≤ szS (1048576) G0 T0)
    rw [E0] at hb0
    have hs0 : ∀ t ∈ T0, t.2.length ≤ 1048576 := fun t ht => by have := hS0 t ht; omega
    clear hS0
    obtain ⟨XG, hXG⟩ : ∃ X, tmG G0 T0 = X := ⟨_, rfl⟩
    obtain ⟨XT, hXT⟩ : ∃ X, tmT G0 T0 = X := ⟨_, rfl⟩
    obtain ⟨XA, hXA⟩ : ∃ X, tmA G0 T0 = X := ⟨_, rfl⟩
    obtain ⟨XC, hXC⟩ : ∃ X, tmC G0 T0 = X := ⟨_, rfl⟩
    have hbd := tm_bounds G0 T0
    rw [hXG, hXT, hXA] at hbd
    obtain ⟨hb1, hb2, hb3, hb4⟩ := hbd
    have hcx := cntT_le hb4
    clear hb4
    have eL := eqL_self XA
    have eY : (XC != XC) = false := by simp
    have hcn := cntT_le hs0
    obtain ⟨Z, hZ⟩ : ∃ Z : Nat, 1 + 2 * G0.length + cntT T0 = Z := ⟨_, rfl⟩
    have hz1 : decide ((Z : Int) < 0) = false := by simp
    obtain ⟨Q, hQ⟩ : ∃ Q : Nat, 1 + 2 * XG.length + cntT XT = Q := ⟨_, rfl⟩
    have hz2 : decide ((Q : Int) < 0) = false := by simp
    obtain ⟨Q2, hQ2⟩ : ∃ Q2 : Nat, (Q : Int) + (XA.length : Int) = (Q2 : Int) := ⟨Q + XA.length, by omega⟩
    have hz3 : decide ((Q2 : Int) < 0) = false := by simp
    go_enter Try.func3, Try.ntmps3
    go_wp2_with fail
    have q0 : w.heap.size + 1 ≤ (w.alloc (.cells #[.slice A0 G0.length c0, .slice B0 T0.length d0] 25)).heap.size := by simp
    generalize (w.alloc (.cells #[.slice A0 G0.length c0, .slice B0 T0.length d0] 25)) = W0 at *
    replace R0 := R0.new N
    refine (c_szTileSet _ _ _ _ G0 T0 _ (1048576) _ R0 hg0 ht0 (by omega) (by omega)).mono ?_
    rintro e w1 ⟨rfl, n1⟩
    have q1 := n1.size
    replace N := N.step n1
    replace R0 := R0.new n1
    replace P0 := P0.new n1
    rw [E0]
    have ⟨⟨c_P0, d_P0⟩, _, l_P0⟩ := P0.at2
    go_wp2_with fail
    clear c_P0 d_P0 l_P0
    refine (c_toTileSet _ _ _ _ G0 T0 _ _ R0 (by omega) (by omega) hs0).mono ?_
    rintro e w2 ⟨g2, t2, s2, rfl, xa, n2⟩
    have q2 := n2.size
    replace N := N.step n2
    replace R0 := R0.new n2
    replace P0 := P0.new n2
    obtain ⟨A_xa, c_xa_, K_xa, d_xa_, hva, hvb⟩ := xa.rd.form
    subst hva hvb
    have ⟨⟨c_P0, d_P0⟩, _, l_P0⟩ := P0.at2
    go_wp2_with fail
    clear c_P0 d_P0 l_P0
    refine (c_specTrimSet _ _ _ _ G0 T0 _ _ xa.rd hg0 ht0).mono ?_
    rintro e w3 ⟨g3, t3, a3, s3, rfl, hws, n3⟩
    have q3 := n3.size
    replace N := N.step n3
    replace R0 := R0.new n3
    replace xa := xa.new n3
    replace P0 := P0.new n3
    rw [hXG, hXT, hXA] at hws
    rw [hXC]
    have ws := OwnTI.of hws
    clear hws
    obtain ⟨A_ws, c_ws_, K_ws, d_ws_, hva, hvb⟩ := ws.rd.form
    subst hva hvb
    obtain ⟨M_ws, e_ws_, hvc⟩ := own_sl2 ws.own.at_
    subst hvc
    have m3 : New w3 (w3.alloc (.cells #[.slice A_ws XG.length c_ws_, .slice K_ws XT.length d_ws_] 30)) := (New.same _).box _
    have B_ws : BoxV (w3.alloc (.cells #[.slice A_ws XG.length c_ws_, .slice K_ws XT.length d_ws_] 30)) w3.heap.size [.slice A_ws XG.length c_ws_, .slice K_ws XT.length d_ws_] := .two (by go_simp) (by go_simp) (by go_simp) (by go_simp) (by simp)
    have ⟨⟨c_P0, d_P0⟩, _, l_P0⟩ := P0.at2
    go_wp2_with fail
    clear c_P0 d_P0 l_P0
    have q4 := m3.size
    have qb4 : w3.heap.size < (w3.alloc (.cells #[.slice A_ws XG.length c_ws_, .slice K_ws XT.length d_ws_] 30)).heap.size := by simp
    replace N := N.step m3
    replace R0 := R0.new m3
    replace ws := ws.new m3
    replace P0 := P0.new m3
    generalize (w3.alloc (.cells #[.slice A_ws XG.length c_ws_, .slice K_ws XT.length d_ws_] 30)) = w4 at *
    refine (c_toTileSet _ _ _ _ G0 T0 _ _ R0 (by omega) (by omega) hs0).mono ?_
    rintro e w5 ⟨g5, t5, s5, rfl, xb, n5⟩
    have q5 := n5.size
    replace N := N.step n5
    replace R0 := R0.new n5
    replace ws := ws.new n5
    replace P0 := P0.new n5
    replace B_ws := B_ws.new n5
    obtain ⟨A_xb, c_xb_, K_xb, d_xb_, hva, hvb⟩ := xb.rd.form
    subst hva hvb
    have m5 : New w5 (w5.alloc (.cells #[.slice A_xb G0.length c_xb_, .slice K_xb T0.length d_xb_] 30)) := (New.same _).box _
    have B_xb : BoxV (w5.alloc (.cells #[.slice A_xb G0.length c_xb_, .slice K_xb T0.length d_xb_] 30)) w5.heap.size [.slice A_xb G0.length c_xb_, .slice K_xb T0.length d_xb_] := .two (by go_simp) (by go_simp) (by go_simp) (by go_simp) (by simp)
    have ⟨⟨c_P0, d_P0⟩, _, l_P0⟩ := P0.at2
    have ⟨⟨c_B_ws, d_B_ws⟩, _, l_B_ws⟩ := B_ws.at2
    go_wp2_with fail
    clear c_P0 d_P0 l_P0 c_B_ws d_B_ws l_B_ws
    have q6 := m5.size
    have qb6 : w5.heap.size < (w5.alloc (.cells #[.slice A_xb G0.length c_xb_, .slice K_xb T0.length d_xb_] 30)).heap.size := by simp
    replace N := N.step m5
    replace R0 := R0.new m5
    replace ws := ws.new m5
    replace xb := xb.new m5
    replace P0 := P0.new m5
    replace B_ws := B_ws.new m5
    generalize (w5.alloc (.cells #[.slice A_xb G0.length c_xb_, .slice K_xb T0.length d_xb_] 30)) = w6 at *
    refine (c_implTrimSet _ _ _ _ G0 T0 _ _ xb.rd hg0 ht0).mono ?_
    rintro e w7 ⟨g7, t7, a7, s7, rfl, hgs, n7⟩
    have q7 := n7.size
    replace N := N.step n7
    replace R0 := R0.new n7
    replace ws := ws.new n7
    replace xb := xb.new n7
    replace P0 := P0.new n7
    replace B_ws := B_ws.new n7
    replace B_xb := B_xb.new n7
    rw [hXG, hXT, hXA] at hgs
    rw [hXC]
    have gs := OwnTI.of hgs
    clear hgs
    obtain ⟨A_gs, c_gs_, K_gs, d_gs_, hva, hvb⟩ := gs.rd.form
    subst hva hvb
    obtain ⟨M_gs, e_gs_, hvc⟩ := own_sl2 gs.own.at_
    subst hvc
    have m7 : New w7 (w7.alloc (.cells #[.slice A_gs XG.length c_gs_, .slice K_gs XT.length d_gs_] 30)) := (New.same _).box _
    have B_gs : BoxV (w7.alloc (.cells #[.slice A_gs XG.length c_gs_, .slice K_gs XT.length d_gs_] 30)) w7.heap.size [.slice A_gs XG.length c_gs_, .slice K_gs XT.length d_gs_] := .two (by go_simp) (by go_simp) (by go_simp) (by go_simp) (by simp)
    have ⟨⟨c_P0, d_P0⟩, _, l_P0⟩ := P0.at2
    have ⟨⟨c_B_ws, d_B_ws⟩, _, l_B_ws⟩ := B_ws.at2
    have ⟨⟨c_B_xb, d_B_xb⟩, _, l_B_xb⟩ := B_xb.at2
    go_wp2_with fail
    clear c_P0 d_P0 l_P0 c_B_ws d_B_ws l_B_ws c_B_xb d_B_xb l_B_xb
    have q8 := m7.size
    have qb8 : w7.heap.size < (w7.alloc (.cells #[.slice A_gs XG.length c_gs_, .slice K_gs XT.length d_gs_] 30)).heap.size := by simp
    replace N := N.step m7
    replace R0 := R0.new m7
    replace ws := ws.new m7
    replace xb := xb.new m7
    replace gs := gs.new m7
    replace P0 := P0.new m7
    replace B_ws := B_ws.new m7
    replace B_xb := B_xb.new m7
    generalize (w7.alloc (.cells #[.slice A_gs XG.length c_gs_, .slice K_gs XT.length d_gs_] 30)) = w8 at *
    refine (c_eqTileSet_self _ _ _ _ _ _ _ _ XG XT _ _ _ gs.rd ws.rd).mono ?_
    rintro e w9 ⟨rfl, n9⟩
    have q9 := n9.size
    replace N := N.step n9
    replace R0 := R0.new n9
    replace ws := ws.new n9
    replace xb := xb.new n9
    replace gs := gs.new n9
    replace P0 := P0.new n9
    replace B_ws := B_ws.new n9
    replace B_xb := B_xb.new n9
    replace B_gs := B_gs.new n9
    have ⟨⟨c_P0, d_P0⟩, _, l_P0⟩ := P0.at2
    have ⟨⟨c_B_ws, d_B_ws⟩, _, l_B_ws⟩ := B_ws.at2
    have ⟨⟨c_B_xb, d_B_xb⟩, _, l_B_xb⟩ := B_xb.at2
    have ⟨⟨c_B_gs, d_B_gs⟩, _, l_B_gs⟩ := B_gs.at2
    go_wp2_with fail
    clear c_P0 d_P0 l_P0 c_B_ws d_B_ws l_B_ws c_B_xb d_B_xb l_B_xb c_B_gs d_B_gs l_B_gs
    refine (c_eqInt64S _ _ _ _ _ _ XA XA _ gs.rdA ws.rdA).mono ?_
    rintro e w10 ⟨rfl, n10⟩
    have q10 := n10.size
    replace N := N.step n10
    replace R0 := R0.new n10
    replace ws := ws.new n10
    replace xb := xb.new n10
    replace gs := gs.new n10
    replace P0 := P0.new n10
    replace B_ws := B_ws.new n10
    replace B_xb := B_xb.new n10
    replace B_gs := B_gs.new n10
    have ⟨⟨c_P0, d_P0⟩, _, l_P0⟩ := P0.at2
    have ⟨⟨c_B_ws, d_B_ws⟩, _, l_B_ws⟩ := B_ws.at2
    have ⟨⟨c_B_xb, d_B_xb⟩, _, l_B_xb⟩ := B_xb.at2
    have ⟨⟨c_B_gs, d_B_gs⟩, _, l_B_gs⟩ := B_gs.at2
    go_upto_region 10 with fail
    clear c_P0 d_P0 l_P0 c_B_ws d_B_ws l_B_ws c_B_xb d_B_xb l_B_xb c_B_gs d_B_gs l_B_gs
    have TT11 := Lib.hid (fun (wx : World) (nx : New w10 wx) => c_toTileSet _ _ _ _ G0 T0 _ wx (R0.new nx) (by omega) (by omega) hs0)
    have XX11 := Lib.hid xb
    go_region_held3 (fun w' => w'.cell? ⟨w5.heap.size, 0, none⟩ = some (.slice A_xb G0.length c_xb_) ∧ w'.cell? ⟨w5.heap.size, 1, none⟩ = some (.slice K_xb T0.length d_xb_) ∧ w'.cell? ⟨w.heap.size, 0, none⟩ = some (.slice A0 G0.length c0) ∧ w'.cell? ⟨w.heap.size, 1, none⟩ = some (.slice B0 T0.length d0))
      (exact keepV2 (w1 := w10) (by (repeat' (first | (with_reducible exact New.same _) | (with_reducible assumption) | (with_reducible refine New.box ?_ _) | (with_reducible refine New.drew_ ?_) | (with_reducible refine New.set ?_ ?_ _ _) | (with_reducible refine New.step ?_ (by assumption))))) B_xb P0)
      (first | (go_at_call 8; refine (c_eqTileSet_self _ _ _ _ _ _ _ _ G0 T0 _ _ _ ((XX11.out.new ((New.same _).drew_)).rd.new na11) hQ11.rd).mono ?_; rintro e wb11 ⟨rfl, nb11⟩) | (go_at_call 6; refine (TT11.out _ ?_).mono ?_; (· (repeat' (first | (with_reducible exact New.same _) | (with_reducible assumption) | (with_reducible refine New.box ?_ _) | (with_reducible refine New.drew_ ?_) | (with_reducible refine New.set ?_ ?_ _ _) | (with_reducible refine New.step ?_ (by assumption))))); rintro e wa11 ⟨gq11, tq11, sq11, rfl, hQ11, na11⟩))
    have M11 : New w10 wb11 := by (repeat' (first | (with_reducible exact New.same _) | (with_reducible assumption) | (with_reducible refine New.box ?_ _) | (with_reducible refine New.drew_ ?_) | (with_reducible refine New.set ?_ ?_ _ _) | (with_reducible refine New.step ?_ (by assumption))))
    clear TT11 XX11 hQ11
    have q11 := M11.size
    replace N := N.step M11
    replace R0 := R0.new M11
    replace ws := ws.new M11
    replace xb := xb.new M11
    replace gs := gs.new M11
    replace P0 := P0.new M11
    replace B_ws := B_ws.new M11
    replace B_xb := B_xb.new M11
    replace B_gs := B_gs.new M11
    have ⟨⟨c_P0, d_P0⟩, _, l_P0⟩ := P0.at2
    have ⟨⟨c_B_ws, d_B_ws⟩, _, l_B_ws⟩ := B_ws.at2
    have ⟨⟨c_B_xb, d_B_xb⟩, _, l_B_xb⟩ := B_xb.at2
    have ⟨⟨c_B_gs, d_B_gs⟩, _, l_B_gs⟩ := B_gs.at2
    go_wp2_with fail
    clear c_P0 d_P0 l_P0 c_B_ws d_B_ws l_B_ws c_B_xb d_B_xb l_B_xb c_B_gs d_B_gs l_B_gs
    refine (c_markTileSet _ _ _ _ _ _ _ 1 _ xb (by omega)).mono ?_
    rintro e w12 ⟨rfl, ym, f12⟩
    have q12 := f12.size
    replace N := N.fr f12 (by omega)
    replace R0 := R0.fr f12 (by omega)
    replace ws := ws.fr f12 (by omega)
    replace gs := gs.fr f12 (by omega)
    replace P0 := P0.fr f12 (by omega)
    replace B_ws := B_ws.fr f12 (by omega)
    replace B_xb := B_xb.fr f12 (by omega)
    replace B_gs := B_gs.fr f12 (by omega)
    rw [hZ]
    have ⟨⟨c_P0, d_P0⟩, _, l_P0⟩ := P0.at2
    have ⟨⟨c_B_ws, d_B_ws⟩, _, l_B_ws⟩ := B_ws.at2
    have ⟨⟨c_B_gs, d_B_gs⟩, _, l_B_gs⟩ := B_gs.at2
    go_wp2_with fail
    clear c_P0 d_P0 l_P0 c_B_ws d_B_ws l_B_ws c_B_gs d_B_gs l_B_gs
    refine (c_eqTileSet_self _ _ _ _ _ _ _ _ XG XT _ _ _ gs.rd ws.rd).mono ?_
    rintro e w13 ⟨rfl, n13⟩
    have q13 := n13.size
    replace N := N.step n13
    replace R0 := R0.new n13
    replace ws := ws.new n13
    replace gs := gs.new n13
    replace P0 := P0.new n13
    replace B_ws := B_ws.new n13
    replace B_gs := B_gs.new n13
    have ⟨⟨c_P0, d_P0⟩, _, l_P0⟩ := P0.at2
    have ⟨⟨c_B_ws, d_B_ws⟩, _, l_B_ws⟩ := B_ws.at2
    have ⟨⟨c_B_gs, d_B_gs⟩, _, l_B_gs⟩ := B_gs.at2
    go_wp2_with fail
    clear c_P0 d_P0 l_P0 c_B_ws d_B_ws l_B_ws c_B_gs d_B_gs l_B_gs
    refine (c_eqInt64S _ _ _ _ _ _ XA XA _ gs.rdA ws.rdA).mono ?_
    rintro e w14 ⟨rfl, n14⟩
    have q14 := n14.size
    replace N := N.step n14
    replace R0 := R0.new n14
    replace ws := ws.new n14
    replace gs := gs.new n14
    replace P0 := P0.new n14
    replace B_ws := B_ws.new n14
    replace B_gs := B_gs.new n14
    have ⟨⟨c_P0, d_P0⟩, _, l_P0⟩ := P0.at2
    have ⟨⟨c_B_ws, d_B_ws⟩, _, l_B_ws⟩ := B_ws.at2
    have ⟨⟨c_B_gs, d_B_gs⟩, _, l_B_gs⟩ := B_gs.at2
    go_wp2_with fail
    clear c_P0 d_P0 l_P0 c_B_ws d_B_ws l_B_ws c_B_gs d_B_gs l_B_gs
    refine (c_markTrim _ _ _ _ _ XG XT XA _ 1 _ gs (by omega) (by omega) (by omega)).mono ?_
    rintro e w15 ⟨rfl, gm, f15⟩
    have q15 := f15.size
    replace N := N.fr f15 (by omega)
    replace R0 := R0.fr f15 (by omega)
    replace ws := ws.fr f15 (by omega)
    replace P0 := P0.fr f15 (by omega)
    replace B_ws := B_ws.fr f15 (by omega)
    replace B_gs := B_gs.fr f15 (by omega)
    rw [hQ]
    have ⟨⟨c_P0, d_P0⟩, _, l_P0⟩ := P0.at2
    have ⟨⟨c_B_ws, d_B_ws⟩, _, l_B_ws⟩ := B_ws.at2
    have ⟨⟨c_B_gs, d_B_gs⟩, _, l_B_gs⟩ := B_gs.at2
    go_wp2_with fail
    clear c_P0 d_P0 l_P0 c_B_ws d_B_ws l_B_ws c_B_gs d_B_gs l_B_gs
    refine (c_markTrimA _ _ _ _ _ _ _ XA _ (Q : Int) _ gm (by omega) (by omega)).mono ?_
    rintro e w16 ⟨rfl, gn, f16⟩
    have q16 := f16.size
    replace N := N.fr f16 (by omega)
    replace R0 := R0.fr f16 (by omega)
    replace ws := ws.fr f16 (by omega)
    replace P0 := P0.fr f16 (by omega)
    replace B_ws := B_ws.fr f16 (by omega)
    replace B_gs := B_gs.fr f16 (by omega)
    rw [hQ2]
    have ⟨⟨c_P0, d_P0⟩, _, l_P0⟩ := P0.at2
    have ⟨⟨c_B_ws, d_B_ws⟩, _, l_B_ws⟩ := B_ws.at2
    have ⟨⟨c_B_gs, d_B_gs⟩, _, l_B_gs⟩ := B_gs.at2
    go_wp2_with fail
    clear c_P0 d_P0 l_P0 c_B_ws d_B_ws l_B_ws c_B_gs d_B_gs l_B_gs
    refine (c_heldTileSet _ _ _ _ XG.length XT _ 1 _ gn.rd (by omega) (by omega)).mono ?_
    rintro e w17 ⟨rfl, n17⟩
    have q17 := n17.size
    replace N := N.step n17
    replace R0 := R0.new n17
    replace ws := ws.new n17
    replace gn := gn.new n17
    replace P0 := P0.new n17
    replace B_ws := B_ws.new n17
    replace B_gs := B_gs.new n17
    rw [hQ]
    have ⟨⟨c_P0, d_P0⟩, _, l_P0⟩ := P0.at2
    have ⟨⟨c_B_ws, d_B_ws⟩, _, l_B_ws⟩ := B_ws.at2
    have ⟨⟨c_B_gs, d_B_gs⟩, _, l_B_gs⟩ := B_gs.at2
    go_wp2_with fail
    clear c_P0 d_P0 l_P0 c_B_ws d_B_ws l_B_ws c_B_gs d_B_gs l_B_gs
    refine (c_heldInt64S _ _ _ XA.length (Q : Int) _ gn.rdM (by omega) (by omega)).mono ?_
    rintro e w18 ⟨rfl, n18⟩
    have q18 := n18.size
    replace N := N.step n18
    replace R0 := R0.new n18
    replace ws := ws.new n18
    replace gn := gn.new n18
    replace P0 := P0.new n18
    replace B_ws := B_ws.new n18
    replace B_gs := B_gs.new n18
    rw [hQ2]
    have ⟨⟨c_P0, d_P0⟩, _, l_P0⟩ := P0.at2
    have ⟨⟨c_B_ws, d_B_ws⟩, _, l_B_ws⟩ := B_ws.at2
    have ⟨⟨c_B_gs, d_B_gs⟩, _, l_B_gs⟩ := B_gs.at2
    go_wp2_with fail
    clear c_P0 d_P0 l_P0 c_B_ws d_B_ws l_B_ws c_B_gs d_B_gs l_B_gs
    refine (c_toTileSet _ _ _ _ G0 T0 _ _ R0 (by omega) (by omega) hs0).mono ?_
    rintro e w19 ⟨g19, t19, s19, rfl, xc, n19⟩
    have q19 := n19.size
    replace N := N.step n19
    replace R0 := R0.new n19
    replace ws := ws.new n19
    replace gn := gn.new n19
    replace P0 := P0.new n19
    replace B_ws := B_ws.new n19
    replace B_gs := B_gs.new n19
    obtain ⟨A_xc, c_xc_, K_xc, d_xc_, hva, hvb⟩ := xc.rd.form
    subst hva hvb
    have ⟨⟨c_P0, d_P0⟩, _, l_P0⟩ := P0.at2
    have ⟨⟨c_B_ws, d_B_ws⟩, _, l_B_ws⟩ := B_ws.at2
    have ⟨⟨c_B_gs, d_B_gs⟩, _, l_B_gs⟩ := B_gs.at2
    go_wp2_with fail
    clear c_P0 d_P0 l_P0 c_B_ws d_B_ws l_B_ws c_B_gs d_B_gs l_B_gs
    refine (c_implTrimSet _ _ _ _ G0 T0 _ _ xc.rd hg0 ht0).mono ?_
    rintro e w20 ⟨g20, t20, a20, s20, rfl, hhs, n20⟩
    have q20 := n20.size
    replace N := N.step n20
    replace R0 := R0.new n20
    replace ws := ws.new n20
    replace gn := gn.new n20
    replace xc := xc.new n20
    replace P0 := P0.new n20
    replace B_ws := B_ws.new n20
    replace B_gs := B_gs.new n20
    rw [hXG, hXT, hXA] at hhs
    rw [hXC]
    have hs := OwnTI.of hhs
    clear hhs
    obtain ⟨A_hs, c_hs_, K_hs, d_hs_, hva, hvb⟩ := hs.rd.form
    subst hva hvb
    obtain ⟨M_hs, e_hs_, hvc⟩ := own_sl2 hs.own.at_
    subst hvc
    have m20 : New w20 (w20.alloc (.cells #[.slice A_hs XG.length c_hs_, .slice K_hs XT.length d_hs_] 30)) := (New.same _).box _
    have B_hs : BoxV (w20.alloc (.cells #[.slice A_hs XG.length c_hs_, .slice K_hs XT.length d_hs_] 30)) w20.heap.size [.slice A_hs XG.length c_hs_, .slice K_hs XT.length d_hs_] := .two (by go_simp) (by go_simp) (by go_simp) (by go_simp) (by simp)
    have ⟨⟨c_P0, d_P0⟩, _, l_P0⟩ := P0.at2
    have ⟨⟨c_B_ws, d_B_ws⟩, _, l_B_ws⟩ := B_ws.at2
    have ⟨⟨c_B_gs, d_B_gs⟩, _, l_B_gs⟩ := B_gs.at2
    go_wp2_with fail
    clear c_P0 d_P0 l_P0 c_B_ws d_B_ws l_B_ws c_B_gs d_B_gs l_B_gs
    have q21 := m20.size
    have qb21 : w20.heap.size < (w20.alloc (.cells #[.slice A_hs XG.length c_hs_, .slice K_hs XT.length d_hs_] 30)).heap.size := by simp
    replace N := N.step m20
    replace R0 := R0.new m20
    replace ws := ws.new m20
    replace gn := gn.new m20
    replace hs := hs.new m20
    replace P0 := P0.new m20
    replace B_ws := B_ws.new m20
    replace B_gs := B_gs.new m20
    generalize (w20.alloc (.cells #[.slice A_hs XG.length c_hs_, .slice K_hs XT.length d_hs_] 30)) = w21 at *
    refine (c_eqTileSet_self _ _ _ _ _ _ _ _ XG XT _ _ _ hs.rd ws.rd).mono ?_
    rintro e w22 ⟨rfl, n22⟩
    have q22 := n22.size
    replace N := N.step n22
    replace R0 := R0.new n22
    replace ws := ws.new n22
    replace gn := gn.new n22
    replace hs := hs.new n22
    replace P0 := P0.new n22
    replace B_ws := B_ws.new n22
    replace B_gs := B_gs.new n22
    replace B_hs := B_hs.new n22
    have ⟨⟨c_P0, d_P0⟩, _, l_P0⟩ := P0.at2
    have ⟨⟨c_B_ws, d_B_ws⟩, _, l_B_ws⟩ := B_ws.at2
    have ⟨⟨c_B_gs, d_B_gs⟩, _, l_B_gs⟩ := B_gs.at2
    have ⟨⟨c_B_hs, d_B_hs⟩, _, l_B_hs⟩ := B_hs.at2
    go_wp2_with fail
    clear c_P0 d_P0 l_P0 c_B_ws d_B_ws l_B_ws c_B_gs d_B_gs l_B_gs c_B_hs d_B_hs l_B_hs
    refine (c_eqInt64S _ _ _ _ _ _ XA XA _ hs.rdA ws.rdA).mono ?_
    rintro e w23 ⟨rfl, n23⟩
    have q23 := n23.size
    replace N := N.step n23
    replace R0 := R0.new n23
    replace ws := ws.new n23
    replace gn := gn.new n23
    replace hs := hs.new n23
    replace P0 := P0.new n23
    replace B_ws := B_ws.new n23
    replace B_gs := B_gs.new n23
    replace B_hs := B_hs.new n23
    have ⟨⟨c_P0, d_P0⟩, _, l_P0⟩ := P0.at2
    have ⟨⟨c_B_ws, d_B_ws⟩, _, l_B_ws⟩ := B_ws.at2
    have ⟨⟨c_B_gs, d_B_gs⟩, _, l_B_gs⟩ := B_gs.at2
    have ⟨⟨c_B_hs, d_B_hs⟩, _, l_B_hs⟩ := B_hs.at2
    go_wp2_with fail
    clear c_P0 d_P0 l_P0 c_B_ws d_B_ws l_B_ws c_B_gs d_B_gs l_B_gs c_B_hs d_B_hs l_B_hs
    refine (c_heldTileSet _ _ _ _ XG.length XT _ 1 _ gn.rd (by omega) (by omega)).mono ?_
    rintro e w24 ⟨rfl, n24⟩
    have q24 := n24.size
    replace N := N.step n24
    replace R0 := R0.new n24
    replace ws := ws.new n24
    replace gn := gn.new n24
    replace hs := hs.new n24
    replace P0 := P0.new n24
    replace B_ws := B_ws.new n24
    replace B_gs := B_gs.new n24
    replace B_hs := B_hs.new n24
    rw [hQ]
    have ⟨⟨c_P0, d_P0⟩, _, l_P0⟩ := P0.at2
    have ⟨⟨c_B_ws, d_B_ws⟩, _, l_B_ws⟩ := B_ws.at2
    have ⟨⟨c_B_gs, d_B_gs⟩, _, l_B_gs⟩ := B_gs.at2
    have ⟨⟨c_B_hs, d_B_hs⟩, _, l_B_hs⟩ := B_hs.at2
    go_wp2_with fail
    clear c_P0 d_P0 l_P0 c_B_ws d_B_ws l_B_ws c_B_gs d_B_gs l_B_gs c_B_hs d_B_hs l_B_hs
    refine (c_heldInt64S _ _ _ XA.length (Q : Int) _ gn.rdM (by omega) (by omega)).mono ?_
    rintro e w25 ⟨rfl, n25⟩
    have q25 := n25.size
    replace N := N.step n25
    replace R0 := R0.new n25
    replace ws := ws.new n25
    replace gn := gn.new n25
    replace hs := hs.new n25
    replace P0 := P0.new n25
    replace B_ws := B_ws.new n25
    replace B_gs := B_gs.new n25
    replace B_hs := B_hs.new n25
    rw [hQ2]
    have ⟨⟨c_P0, d_P0⟩, _, l_P0⟩ := P0.at2
    have ⟨⟨c_B_ws, d_B_ws⟩, _, l_B_ws⟩ := B_ws.at2
    have ⟨⟨c_B_gs, d_B_gs⟩, _, l_B_gs⟩ := B_gs.at2
    have ⟨⟨c_B_hs, d_B_hs⟩, _, l_B_hs⟩ := B_hs.at2
    go_wp2
    go_ret
    exact ⟨rfl, N⟩
  · have EE0 : L0 = -1 := by rw [← E0]; exact szS_lo _ _ _ (by rw [E0]; omega)
    subst EE0
    go_enter Try.func3, Try.ntmps3
    go_wp2_with fail
    have q0 : w.heap.size + 1 ≤ (w.alloc (.cells #[.slice A0 G0.length c0, .slice B0 T0.length d0] 25)).heap.size := by simp
    generalize (w.alloc (.cells #[.slice A0 G0.length c0, .slice B0 T0.length d0] 25)) = W0 at *
    replace R0 := R0.new N
    refine (c_szTileSet _ _ _ _ G0 T0 _ (1048576) _ R0 hg0 ht0 (by omega) (by omega)).mono ?_
    rintro e w26 ⟨rfl, n26⟩
    have q26 := n26.size
    replace N := N.step n26
    replace R0 := R0.new n26
    replace P0 := P0.new n26
    rw [E0]
    have ⟨⟨c_P0, d_P0⟩, _, l_P0⟩ := P0.at2
    go_wp2
    go_ret
    exact ⟨rfl, N⟩

set_option maxRecDepth 100000 in
theorem lifted (os : Os) (started : os.Started) (H : Type) (enc : TypeId × Value → H) :
    ReturnsInHanded {} Try.checked os 3 .any (Rows.fnExactTrimSetSpec.pre6 enc Try.prog Try.f3 Rows.fnExactTrimSetRow.domain false) (Rows.fnExactTrimSetSpec.post enc Try.prog Try.f3 false true false false) := by
  refine returnsInHanded_of_change (C := Try.checked) prog_own started (by kernel_rfl) Try.func3
    (ChangeSpec.witness6 (enc := enc) (C := Try.checked) false ⟨#[], #[.agg #[.slice none 0 0, .slice none 0 0]], []⟩ 8 (by kernel_rfl) (by kernel_rfl) (by kernel_rfl) (by kernel_rfl)) ?_
  intro W base args ds gs before hval0 hW _ _
  have hval : ∀ (j : Nat) t v, Try.f3.params[j]? = some t → args[j]? = some v → Value.okWide Try.prog W .any base t v := hval0
  have hW' := hW
  obtain ⟨p, q, hA0, hV, rfl, _, _⟩ := hW
  have hA : DataW.TrodAll enc Try.prog W 0 (fun _ => true) true Try.f3.params.toList args.toList ds p := hA0
  rw [Try.params3] at hA hval
  have hlt : ∀ x ∈ p, x.block < W.heap.size := fun x hx => hW'.lt x (List.mem_append_left _ hx)
  obtain ⟨v0, vs0, d0, ds0, p0, q0, hargs, rfl, rfl, h0, t0⟩ := trodAll_cons hA
  obtain ⟨rfl, rfl, rfl⟩ := trodAll_nil t0
  obtain rfl : args = #[v0] := by cases args; simp_all
  have hlt0 : ∀ x ∈ p0, x.block < W.heap.size := fun x hx => hlt x (List.mem_append_left _ hx)
  obtain ⟨gv0, tv0, G0, T0, sv0, rfl, ⟨rg0, hg0⟩, rt0, ht0⟩ := open_set Try.underlying25 (by kernel_rfl) rfl rfl rfl rfl (by kernel_rfl) (by kernel_rfl) Try.underlying22 Try.underlying62 (by kernel_rfl) rfl rfl rfl rfl Try.underlying23 Try.underlying64 (by kernel_rfl) rfl rfl rfl rfl (by kernel_rfl) (by kernel_rfl) (by kernel_rfl) Try.underlying9 Try.underlying2 Try.underlying31 (hval 0 25 v0 rfl rfl) h0 hlt0
  refine (walk W gv0 tv0 G0 T0 sv0 ⟨rg0, rt0⟩ hg0 ht0).mono fun e W' ⟨he, hb⟩ => ⟨_, he, ?_⟩
  exact law_post prog_laid (by kernel_rfl) rfl Try.underlying4 rfl (by intro ds h; rw [Try.params3] at h; match ds, h with | [_], _ => exact ⟨rfl, rfl, rfl⟩) hW' hb

theorem over : Rows.fnExactTrimSetRow.holds Try.pinned (OpenSpec.ofChange Rows.fnExactTrimSetSpec) :=
  OpenClaim.holds_of_wide 3 Try.f3 rfl rfl rfl rfl rfl rfl rfl ⟨rfl, rfl, rfl, rfl, rfl⟩ rfl rfl rfl rfl rfl (by kernel_rfl) Try.func3 (by kernel_rfl)
    (of_decide_eq_true (by kernel_rfl)) (by unfold Func.isWrapper; first | (rw [if_pos (by decide +kernel)]; kernel_rfl) | (rw [if_neg (by decide +kernel)]; exact ⟨rfl, rfl⟩))
    (fun os started H enc _ => lifted os started H enc)

theorem proved : Rows.FnExactTrimSetSaid := over
end fnExactTrimSet
#print axioms fnExactTrimSet.proved

end Go.Proofs.Ytcbifdfcllaaaaa
