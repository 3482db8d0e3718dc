/- The law FnExactAssemblyText returns true for every input that can be read as data, where the listed tables hold what the program's text lays. -/
import Derived.Test.YtfnihmmkbnkmnaaDoorTab
import Derived.Test.YtfnihmmkbnkmnaaDoorAsmTx3
import Derived.Test.YtfnihmmkbnkmnaaDoorSameAsm
namespace Go.Proofs.YtfnihmmkbnkmnaaDoor
open Go.ChangeShapes Go.WideShapes Go.ChangeAt Go.RowKit
open Go.ChangeMaps (open_string)
namespace fnExactAssemblyText
set_option linter.unusedVariables false
set_option maxRecDepth 100000 in
set_option maxHeartbeats 4000000 in
theorem walk (w : World) (gv0 tv0 : Value) (G0 : List (ByteArray × Int)) (T0 : List (ByteArray × List Int)) (sv0 : List Value) (r0 : RdS w 0 w.heap.size gv0 tv0 G0 T0 sv0) (hg0 : ∀ g ∈ G0, g.1.size ≤ maxLen) (ht0 : ∀ t ∈ T0, t.1.size ≤ maxLen) (v1 : Value) (z1 : List ((Int × Int) × Int)) (r1 : Rd w 0 w.heap.size 3 v1 z1.length (z1.flatMap plCells)) (hT : TabW w) : Calls Tryd.prog 5 #[.agg #[gv0, tv0], .agg #[v1]] w fun e w' => e = .returned (.bool true) ∧ New w w' := by
  have R0 := r0
  obtain ⟨A0, c0, B0, d0, rfl, rfl⟩ := r0.form
  have R1 := r1
  obtain ⟨_, hm1, _, A1, c1, rfl, _⟩ := r1
  have N : New w ((w.alloc (.cells #[.slice A0 G0.length c0, .slice B0 T0.length d0] 31)).alloc (.cells #[.slice A1 z1.length c1] 43)) := (((New.same w).box _).box _)
  have P0 : BoxV ((w.alloc (.cells #[.slice A0 G0.length c0, .slice B0 T0.length d0] 31)).alloc (.cells #[.slice A1 z1.length c1] 43)) (w.heap.size) [.slice A0 G0.length c0, .slice B0 T0.length d0] := .two (by go_simp) (by go_simp) (by go_simp) (by go_simp) (by simp <;> omega)
  have P1 : BoxV ((w.alloc (.cells #[.slice A0 G0.length c0, .slice B0 T0.length d0] 31)).alloc (.cells #[.slice A1 z1.length c1] 43)) (w.heap.size + 1) [.slice A1 z1.length c1] := .one (by go_simp) (by go_simp) (by simp <;> omega)
  obtain ⟨L0, E0⟩ : ∃ L, szS (1048576) G0 T0 = L := ⟨_, rfl⟩
  by_cases hz0 : 0 ≤ L0
  · have ⟨hb0, hG0, hT0, hS0⟩ := szS_le (by rw [E0]; exact hz0 : 0 ≤ szS (1048576) G0 T0)
    rw [E0] at hb0
    have hs0 : ∀ t ∈ T0, t.2.length ≤ 1048576 := fun t ht => by have := hS0 t ht; omega
    clear hS0
    obtain ⟨L1, E1⟩ : ∃ L, szL (L0) z1.length = L := ⟨_, rfl⟩
    by_cases hz1 : 0 ≤ L1
    · have hb1 : L1 ≤ L0 ∧ (z1.length : Int) ≤ L0 := by unfold szL at E1; split at E1 <;> omega
      have el1 := eqL_self z1
      obtain ⟨X, hX⟩ : ∃ X, asmT G0 T0 z1 = X := ⟨_, rfl⟩
      have eX : (X.toList == X.toList) = true := beq_self_eq_true _
      have HTW := Lib.hid hT
      clear hT
      go_enter Tryd.func5, Tryd.ntmps5
      go_wp2_with fail
      have q0 : w.heap.size + 2 ≤ ((w.alloc (.cells #[.slice A0 G0.length c0, .slice B0 T0.length d0] 31)).alloc (.cells #[.slice A1 z1.length c1] 43)).heap.size := by simp
      generalize ((w.alloc (.cells #[.slice A0 G0.length c0, .slice B0 T0.length d0] 31)).alloc (.cells #[.slice A1 z1.length c1] 43)) = W0 at *
      replace R0 := R0.new N
      replace R1 := R1.new N
      refine (c_szTileSet _ _ _ _ G0 T0 _ (1048576) _ R0 hg0 ht0 (by omega) (by omega)).mono ?_
      rintro e w1 ⟨rfl, n1⟩
      have q1 := n1.size
      replace N := N.step n1
      replace R0 := R0.new n1
      replace R1 := R1.new n1
      replace P0 := P0.new n1
      replace P1 := P1.new n1
      rw [E0]
      have ⟨⟨c_P0, d_P0⟩, _, l_P0⟩ := P0.at2
      have ⟨c_P1, _, l_P1⟩ := P1.at1
      go_wp2_with fail
      clear c_P0 d_P0 l_P0 c_P1 l_P1
      refine (c_szAssembly A1 _ c1 (L0) _ hm1 (by omega) (by omega)).mono ?_
      rintro e w2 ⟨rfl, n2⟩
      have q2 := n2.size
      replace N := N.step n2
      replace R0 := R0.new n2
      replace R1 := R1.new n2
      replace P0 := P0.new n2
      replace P1 := P1.new n2
      rw [E1]
      have ⟨⟨c_P0, d_P0⟩, _, l_P0⟩ := P0.at2
      have ⟨c_P1, _, l_P1⟩ := P1.at1
      go_upto_region 8 with fail
      clear c_P0 d_P0 l_P0 c_P1 l_P1
      have T3_0 := Lib.hid (fun (wx : World) (nx : New w2 wx) => c_toTileSet _ _ _ _ G0 T0 _ wx (R0.new nx) (by omega) (by omega) hs0)
      have T3_1 := Lib.hid (fun (wx : World) (nx : New w2 wx) => c_toAssembly _ _ _ z1 wx (R1.new nx) (by omega))
      go_cut [6] (fun sx wx => sx = .string X ∧ New w2 wx)
      case first =>
        go_region_held3 (fun w' => w'.cell? ⟨w.heap.size, 0, none⟩ = some (.slice A0 G0.length c0) ∧ w'.cell? ⟨w.heap.size, 1, none⟩ = some (.slice B0 T0.length d0) ∧ w'.cell? ⟨w.heap.size + 1, 0, none⟩ = some (.slice A1 z1.length c1))
          (exact keepVB (w1 := w2) (by (repeat' (first | (with_reducible exact New.same _) | (with_reducible assumption) | (with_reducible refine New.box ?_ _) | (with_reducible refine New.drew_ ?_) | (with_reducible refine New.set ?_ ?_ _ _) | (with_reducible refine New.step ?_ (by assumption))))) P0 P1)
          (first | (go_at_call_of 13 (Value.slice A0 G0.length c0); refine (T3_0.out _ ?_).mono ?_; (· (repeat' (first | (with_reducible exact New.same _) | (with_reducible assumption) | (with_reducible refine New.box ?_ _) | (with_reducible refine New.drew_ ?_) | (with_reducible refine New.set ?_ ?_ _ _) | (with_reducible refine New.step ?_ (by assumption))))); rintro e wa3_0 ⟨gq3_0, tq3_0, sq3_0, rfl, hQ3_0, na3_0⟩) | (go_at_call 18; refine (T3_1.out _ ?_).mono ?_; (· (repeat' (first | (with_reducible exact New.same _) | (with_reducible assumption) | (with_reducible refine New.box ?_ _) | (with_reducible refine New.drew_ ?_) | (with_reducible refine New.set ?_ ?_ _ _) | (with_reducible refine New.step ?_ (by assumption))))); rintro e wa3_1 ⟨u3_1, rfl, hQ3_1, na3_1⟩) | (go_at_call 17; refine (c_specAssemblyText _ _ _ _ _ _ _ G0 T0 _ z1 _ (RdS.new hQ3_0.rd ?_) hg0 ht0 (Rd.new hQ3_1.rd ?_)).mono ?_; (· (repeat' (first | (with_reducible exact New.same _) | (with_reducible assumption) | (with_reducible refine New.box ?_ _) | (with_reducible refine New.drew_ ?_) | (with_reducible refine New.set ?_ ?_ _ _) | (with_reducible refine New.step ?_ (by assumption))))); (· (repeat' (first | (with_reducible exact New.same _) | (with_reducible assumption) | (with_reducible refine New.box ?_ _) | (with_reducible refine New.drew_ ?_) | (with_reducible refine New.set ?_ ?_ _ _) | (with_reducible refine New.step ?_ (by assumption))))); rintro e wc3 ⟨rfl, nc3⟩; rw [hX]))
        all_goals (go_wp2_with fail; go_meet; exact ⟨rfl, by (repeat' (first | (with_reducible exact New.same _) | (with_reducible assumption) | (with_reducible refine New.box ?_ _) | (with_reducible refine New.drew_ ?_) | (with_reducible refine New.set ?_ ?_ _ _) | (with_reducible refine New.step ?_ (by assumption))))⟩)
      case rest =>
        obtain ⟨rfl, M3⟩ := hcut
        clear T3_0 T3_1
        have q3 := M3.size
        replace N := N.step M3
        replace R0 := R0.new M3
        replace R1 := R1.new M3
        replace P0 := P0.new M3
        replace P1 := P1.new M3
        have ⟨⟨c_P0, d_P0⟩, _, l_P0⟩ := P0.at2
        have ⟨c_P1, _, l_P1⟩ := P1.at1
        go_wp2_with fail
        clear c_P0 d_P0 l_P0 c_P1 l_P1
        refine (c_toTileSet _ _ _ _ G0 T0 _ _ R0 (by omega) (by omega) hs0).mono ?_
        rintro e w4 ⟨g4, t4, s4, rfl, xa, n4⟩
        have q4 := n4.size
        replace N := N.step n4
        replace R0 := R0.new n4
        replace R1 := R1.new n4
        replace P0 := P0.new n4
        replace P1 := P1.new n4
        obtain ⟨A_xa, c_xa_, K_xa, d_xa_, hva, hvb⟩ := xa.rd.form
        subst hva hvb
        have m4 : New w4 (w4.alloc (.cells #[.slice A_xa G0.length c_xa_, .slice K_xa T0.length d_xa_] 37)) := (New.same _).box _
        have B_xa : BoxV (w4.alloc (.cells #[.slice A_xa G0.length c_xa_, .slice K_xa T0.length d_xa_] 37)) w4.heap.size [.slice A_xa G0.length c_xa_, .slice K_xa T0.length d_xa_] := .two (by go_simp) (by go_simp) (by go_simp) (by go_simp) (by simp)
        have ⟨⟨c_P0, d_P0⟩, _, l_P0⟩ := P0.at2
        have ⟨c_P1, _, l_P1⟩ := P1.at1
        go_wp2_with fail
        clear c_P0 d_P0 l_P0 c_P1 l_P1
        have q5 := m4.size
        have qb5 : w4.heap.size < (w4.alloc (.cells #[.slice A_xa G0.length c_xa_, .slice K_xa T0.length d_xa_] 37)).heap.size := by simp
        replace N := N.step m4
        replace R0 := R0.new m4
        replace R1 := R1.new m4
        replace xa := xa.new m4
        replace P0 := P0.new m4
        replace P1 := P1.new m4
        generalize (w4.alloc (.cells #[.slice A_xa G0.length c_xa_, .slice K_xa T0.length d_xa_] 37)) = w5 at *
        refine (c_toAssembly _ _ _ z1 _ R1 (by omega)).mono ?_
        rintro e w6 ⟨v6, rfl, xb, n6⟩
        have q6 := n6.size
        replace N := N.step n6
        replace R0 := R0.new n6
        replace R1 := R1.new n6
        replace xa := xa.new n6
        replace P0 := P0.new n6
        replace P1 := P1.new n6
        replace B_xa := B_xa.new n6
        have ⟨_, _, _, A_xb, c_xb_, hv6, _⟩ := xb.rd
        subst hv6
        have m6 : New w6 (w6.alloc (.cells #[.slice A_xb z1.length c_xb_] 48)) := (New.same _).box _
        have B_xb : BoxV (w6.alloc (.cells #[.slice A_xb z1.length c_xb_] 48)) w6.heap.size [.slice A_xb z1.length c_xb_] := .one (by go_simp) (by go_simp) (by simp <;> omega)
        have ⟨⟨c_P0, d_P0⟩, _, l_P0⟩ := P0.at2
        have ⟨c_P1, _, l_P1⟩ := P1.at1
        have ⟨⟨c_B_xa, d_B_xa⟩, _, l_B_xa⟩ := B_xa.at2
        go_wp2_with fail
        clear c_P0 d_P0 l_P0 c_P1 l_P1 c_B_xa d_B_xa l_B_xa
        have q7 := m6.size
        have qb7 : w6.heap.size < (w6.alloc (.cells #[.slice A_xb z1.length c_xb_] 48)).heap.size := by simp
        replace N := N.step m6
        replace R0 := R0.new m6
        replace R1 := R1.new m6
        replace xa := xa.new m6
        replace xb := xb.new m6
        replace P0 := P0.new m6
        replace P1 := P1.new m6
        replace B_xa := B_xa.new m6
        generalize (w6.alloc (.cells #[.slice A_xb z1.length c_xb_] 48)) = w7 at *
        refine (c_implAssemblyText _ _ _ _ _ _ _ G0 T0 _ z1 _ xa.rd hg0 ht0 xb.rd (tab_new HTW.out (by (repeat' (first | (with_reducible exact New.same _) | (with_reducible assumption) | (with_reducible refine New.box ?_ _) | (with_reducible refine New.drew_ ?_) | (with_reducible refine New.set ?_ ?_ _ _) | (with_reducible refine New.step ?_ (by assumption))))))).mono ?_
        rintro e w8 ⟨rfl, n8⟩
        have q8 := n8.size
        replace N := N.step n8
        replace R0 := R0.new n8
        replace R1 := R1.new n8
        replace xa := xa.new n8
        replace xb := xb.new n8
        replace P0 := P0.new n8
        replace P1 := P1.new n8
        replace B_xa := B_xa.new n8
        replace B_xb := B_xb.new n8
        rw [hX]
        have ⟨⟨c_P0, d_P0⟩, _, l_P0⟩ := P0.at2
        have ⟨c_P1, _, l_P1⟩ := P1.at1
        have ⟨⟨c_B_xa, d_B_xa⟩, _, l_B_xa⟩ := B_xa.at2
        have ⟨c_B_xb, _, l_B_xb⟩ := B_xb.at1
        go_upto_region 14 with fail
        clear c_P0 d_P0 l_P0 c_P1 l_P1 c_B_xa d_B_xa l_B_xa c_B_xb l_B_xb
        have TT9 := Lib.hid (fun (wx : World) (nx : New w8 wx) => c_toTileSet _ _ _ _ G0 T0 _ wx (R0.new nx) (by omega) (by omega) hs0)
        have XX9 := Lib.hid xa
        go_region_held3 (fun w' => w'.cell? ⟨w4.heap.size, 0, none⟩ = some (.slice A_xa G0.length c_xa_) ∧ w'.cell? ⟨w4.heap.size, 1, none⟩ = some (.slice K_xa T0.length d_xa_) ∧ w'.cell? ⟨w.heap.size, 0, none⟩ = some (.slice A0 G0.length c0) ∧ w'.cell? ⟨w.heap.size, 1, none⟩ = some (.slice B0 T0.length d0))
          (exact keepV2 (w1 := w8) (by (repeat' (first | (with_reducible exact New.same _) | (with_reducible assumption) | (with_reducible refine New.box ?_ _) | (with_reducible refine New.drew_ ?_) | (with_reducible refine New.set ?_ ?_ _ _) | (with_reducible refine New.step ?_ (by assumption))))) B_xa P0)
          (first | (go_at_call 15; refine (c_eqTileSet_self _ _ _ _ _ _ _ _ G0 T0 _ _ _ ((XX9.out.new ((New.same _).drew_)).rd.new na9) hQ9.rd).mono ?_; rintro e wb9 ⟨rfl, nb9⟩) | (go_at_call 13; refine (TT9.out _ ?_).mono ?_; (· (repeat' (first | (with_reducible exact New.same _) | (with_reducible assumption) | (with_reducible refine New.box ?_ _) | (with_reducible refine New.drew_ ?_) | (with_reducible refine New.set ?_ ?_ _ _) | (with_reducible refine New.step ?_ (by assumption))))); rintro e wa9 ⟨gq9, tq9, sq9, rfl, hQ9, na9⟩))
        have M9 : New w8 wb9 := by (repeat' (first | (with_reducible exact New.same _) | (with_reducible assumption) | (with_reducible refine New.box ?_ _) | (with_reducible refine New.drew_ ?_) | (with_reducible refine New.set ?_ ?_ _ _) | (with_reducible refine New.step ?_ (by assumption))))
        clear TT9 XX9 hQ9
        have q9 := M9.size
        replace N := N.step M9
        replace R0 := R0.new M9
        replace R1 := R1.new M9
        replace xa := xa.new M9
        replace xb := xb.new M9
        replace P0 := P0.new M9
        replace P1 := P1.new M9
        replace B_xa := B_xa.new M9
        replace B_xb := B_xb.new M9
        have ⟨⟨c_P0, d_P0⟩, _, l_P0⟩ := P0.at2
        have ⟨c_P1, _, l_P1⟩ := P1.at1
        have ⟨⟨c_B_xa, d_B_xa⟩, _, l_B_xa⟩ := B_xa.at2
        have ⟨c_B_xb, _, l_B_xb⟩ := B_xb.at1
        go_upto_region 16 with fail
        clear c_P0 d_P0 l_P0 c_P1 l_P1 c_B_xa d_B_xa l_B_xa c_B_xb l_B_xb
        have TT10 := Lib.hid (fun (wx : World) (nx : New wb9 wx) => c_toAssembly _ _ _ z1 wx (R1.new nx) (by omega))
        have XX10 := Lib.hid xb
        go_region_held3 (fun w' => w'.cell? ⟨w6.heap.size, 0, none⟩ = some (.slice A_xb z1.length c_xb_) ∧ w'.cell? ⟨w.heap.size + 1, 0, none⟩ = some (.slice A1 z1.length c1))
          (exact keepB2 (w1 := wb9) (by (repeat' (first | (with_reducible exact New.same _) | (with_reducible assumption) | (with_reducible refine New.box ?_ _) | (with_reducible refine New.drew_ ?_) | (with_reducible refine New.set ?_ ?_ _ _) | (with_reducible refine New.step ?_ (by assumption))))) B_xb P1)
          (first | (go_at_call 20; refine (c_eqAssembly_self _ _ _ _ _ _ z1 _ ((XX10.out.new ((New.same _).drew_)).rd.new na10) hQ10.rd).mono ?_; rintro e wb10 ⟨rfl, nb10⟩) | (go_at_call 18; refine (TT10.out _ ?_).mono ?_; (· (repeat' (first | (with_reducible exact New.same _) | (with_reducible assumption) | (with_reducible refine New.box ?_ _) | (with_reducible refine New.drew_ ?_) | (with_reducible refine New.set ?_ ?_ _ _) | (with_reducible refine New.step ?_ (by assumption))))); rintro e wa10 ⟨u10, rfl, hQ10, na10⟩))
        have M10 : New wb9 wb10 := by (repeat' (first | (with_reducible exact New.same _) | (with_reducible assumption) | (with_reducible refine New.box ?_ _) | (with_reducible refine New.drew_ ?_) | (with_reducible refine New.set ?_ ?_ _ _) | (with_reducible refine New.step ?_ (by assumption))))
        clear TT10 XX10 hQ10
        have q10 := M10.size
        replace N := N.step M10
        replace R0 := R0.new M10
        replace R1 := R1.new M10
        replace xa := xa.new M10
        replace xb := xb.new M10
        replace P0 := P0.new M10
        replace P1 := P1.new M10
        replace B_xa := B_xa.new M10
        replace B_xb := B_xb.new M10
        have ⟨⟨c_P0, d_P0⟩, _, l_P0⟩ := P0.at2
        have ⟨c_P1, _, l_P1⟩ := P1.at1
        have ⟨⟨c_B_xa, d_B_xa⟩, _, l_B_xa⟩ := B_xa.at2
        have ⟨c_B_xb, _, l_B_xb⟩ := B_xb.at1
        go_wp2
        go_ret
        exact ⟨rfl, N⟩
    · have EE1 : L1 = -1 := by unfold szL at E1; split at E1 <;> omega
      subst EE1
      go_enter Tryd.func5, Tryd.ntmps5
      go_wp2_with fail
      have q0 : w.heap.size + 2 ≤ ((w.alloc (.cells #[.slice A0 G0.length c0, .slice B0 T0.length d0] 31)).alloc (.cells #[.slice A1 z1.length c1] 43)).heap.size := by simp
      generalize ((w.alloc (.cells #[.slice A0 G0.length c0, .slice B0 T0.length d0] 31)).alloc (.cells #[.slice A1 z1.length c1] 43)) = W0 at *
      replace R0 := R0.new N
      replace R1 := R1.new N
      refine (c_szTileSet _ _ _ _ G0 T0 _ (1048576) _ R0 hg0 ht0 (by omega) (by omega)).mono ?_
      rintro e w11 ⟨rfl, n11⟩
      have q11 := n11.size
      replace N := N.step n11
      replace R0 := R0.new n11
      replace R1 := R1.new n11
      replace P0 := P0.new n11
      replace P1 := P1.new n11
      rw [E0]
      have ⟨⟨c_P0, d_P0⟩, _, l_P0⟩ := P0.at2
      have ⟨c_P1, _, l_P1⟩ := P1.at1
      go_wp2_with fail
      clear c_P0 d_P0 l_P0 c_P1 l_P1
      refine (c_szAssembly A1 _ c1 (L0) _ hm1 (by omega) (by omega)).mono ?_
      rintro e w12 ⟨rfl, n12⟩
      have q12 := n12.size
      replace N := N.step n12
      replace R0 := R0.new n12
      replace R1 := R1.new n12
      replace P0 := P0.new n12
      replace P1 := P1.new n12
      rw [E1]
      have ⟨⟨c_P0, d_P0⟩, _, l_P0⟩ := P0.at2
      have ⟨c_P1, _, l_P1⟩ := P1.at1
      go_wp2
      go_ret
      exact ⟨rfl, N⟩
  · have EE0 : L0 = -1 := by rw [← E0]; exact szS_lo _ _ _ (by rw [E0]; omega)
    subst EE0
    go_enter Tryd.func5, Tryd.ntmps5
    go_wp2_with fail
    have q0 : w.heap.size + 2 ≤ ((w.alloc (.cells #[.slice A0 G0.length c0, .slice B0 T0.length d0] 31)).alloc (.cells #[.slice A1 z1.length c1] 43)).heap.size := by simp
    generalize ((w.alloc (.cells #[.slice A0 G0.length c0, .slice B0 T0.length d0] 31)).alloc (.cells #[.slice A1 z1.length c1] 43)) = W0 at *
    replace R0 := R0.new N
    replace R1 := R1.new N
    refine (c_szTileSet _ _ _ _ G0 T0 _ (1048576) _ R0 hg0 ht0 (by omega) (by omega)).mono ?_
    rintro e w13 ⟨rfl, n13⟩
    have q13 := n13.size
    replace N := N.step n13
    replace R0 := R0.new n13
    replace R1 := R1.new n13
    replace P0 := P0.new n13
    replace P1 := P1.new n13
    rw [E0]
    have ⟨⟨c_P0, d_P0⟩, _, l_P0⟩ := P0.at2
    have ⟨c_P1, _, l_P1⟩ := P1.at1
    go_wp2
    go_ret
    exact ⟨rfl, N⟩


set_option maxRecDepth 100000 in
theorem contract (H : Type) (enc : TypeId × Value → H) (W : World) (base : Nat) (args : Array Value) (ds gs : List (DataW H)) (before : List MemPlace)
    (hval0 : ∀ (j : Nat) t v, Tryd.f5.params[j]? = some t → args[j]? = some v → Value.okWide Tryd.prog W .any base t v)
    (hW : DataW.Whole enc Tryd.prog Tryd.f5.params.toList Rows.fnExactAssemblyTextSpec.vars false W args.toList ds gs before) (hL : laidMetH Tryd.prog Rows.fnExactAssemblyTextRow.laid W) :
    Calls Tryd.prog 5 args W fun e W' => ∃ v, e = .returned v ∧ Rows.fnExactAssemblyTextSpec.post enc Tryd.prog Tryd.f5 false true false false W args v W' := by
  have hval : ∀ (j : Nat) t v, Tryd.f5.params[j]? = some t → args[j]? = some v → Value.okWide Tryd.prog W .any base t v := hval0
  have hW' := hW
  obtain ⟨p, q, hA0, hV, rfl, _, _⟩ := hW
  have hA : DataW.TrodAll enc Tryd.prog W 0 (fun _ => true) true Tryd.f5.params.toList args.toList ds p := hA0
  rw [Tryd.params5] at hA hval
  have hlt : ∀ x ∈ p, x.block < W.heap.size := fun x hx => hW'.lt x (List.mem_append_left _ hx)
  obtain ⟨v0, vs0, d0, ds0, p0, q0, hargs, rfl, rfl, h0, t0⟩ := trodAll_cons hA
  obtain ⟨v1, vs1, d1, ds1, p1, q1, rfl, rfl, rfl, h1, t1⟩ := trodAll_cons t0
  obtain ⟨rfl, rfl, rfl⟩ := trodAll_nil t1
  obtain rfl : args = #[v0, v1] := by cases args; simp_all
  have hlt0 : ∀ x ∈ p0, x.block < W.heap.size := fun x hx => hlt x (List.mem_append_left _ hx)
  have hlt1 : ∀ x ∈ p1, x.block < W.heap.size := fun x hx => hlt x (List.mem_append_right _ (List.mem_append_left _ hx))
  obtain ⟨gv0, tv0, G0, T0, sv0, rfl, ⟨rg0, hg0⟩, rt0, ht0⟩ := open_set Tryd.underlying31 (by kernel_rfl) rfl rfl rfl rfl (by kernel_rfl) (by kernel_rfl) Tryd.underlying28 Tryd.underlying95 (by kernel_rfl) rfl rfl rfl rfl Tryd.underlying29 Tryd.underlying99 (by kernel_rfl) rfl rfl rfl rfl (by kernel_rfl) (by kernel_rfl) (by kernel_rfl) Tryd.underlying9 Tryd.underlying2 Tryd.underlying97 (hval 0 31 v0 rfl rfl) h0 hlt0
  obtain ⟨u1, z1, rfl, r1⟩ := open_asm Tryd.underlying43 (by kernel_rfl) rfl rfl (by kernel_rfl) Tryd.underlying41 Tryd.underlying122 (by kernel_rfl) rfl rfl rfl rfl (by kernel_rfl) (by kernel_rfl) Tryd.underlying120 rfl rfl rfl rfl (by kernel_rfl) (by kernel_rfl) Tryd.underlying2 Tryd.underlying2 Tryd.underlying2 (hval 1 43 v1 rfl rfl) h1 hlt1
  refine (walk W gv0 tv0 G0 T0 sv0 ⟨rg0, rt0⟩ hg0 ht0 u1 z1 r1 (tabw_of hL)).mono fun e W' ⟨he, hb⟩ => ⟨_, he, ?_⟩
  exact law_post prog_laid (by kernel_rfl) rfl Tryd.underlying4 rfl (by intro ds h; rw [Tryd.params5] at h; match ds, h with | [_, _], _ => exact ⟨rfl, rfl, rfl⟩) hW' hb

theorem reads (os : Os) {H : Type} (enc : TypeId × Value → H) : ∃ places, DataW.whole enc Tryd.prog ((laidWorld os).forCall (fun _ _ => 0) ⟨#[], #[.agg #[.slice none 0 0, .slice none 0 0], .agg #[.slice none 0 0]], []⟩).memory Tryd.f5.params.toList Rows.fnExactAssemblyTextSpec.vars false #[.agg #[.slice none 0 0, .slice none 0 0], .agg #[.slice none 0 0]].toList 8 = some ([.agg [.nil, .nil], .agg [.nil]], [], places) :=
  ⟨[], by kernel_rfl⟩

set_option maxRecDepth 100000 in
theorem lifted (os : Os) (started : os.Started) (H : Type) (enc : TypeId × Value → H) (F : Stop.Interp) :
    ReturnsInHanded {} Tryd.checked os 5 .any ((OpenSpec.ofChange Rows.fnExactAssemblyTextSpec).preRow enc Tryd.prog Tryd.f5 Rows.fnExactAssemblyTextRow.domain false Rows.fnExactAssemblyTextRow.laid) (((OpenSpec.ofChange Rows.fnExactAssemblyTextSpec).at F).post enc Tryd.prog Tryd.f5 false true false false) := by
  obtain ⟨places, hx⟩ := reads os enc
  refine returnsInHanded_of_row (C := Tryd.checked) (s := OpenSpec.ofChange Rows.fnExactAssemblyTextSpec) prog_own started (by kernel_rfl) Tryd.func5
    (witness_row_at (enc := enc) (C := Tryd.checked) false (laidWorld os) #[.agg #[.slice none 0 0, .slice none 0 0], .agg #[.slice none 0 0]] rfl (by kernel_rfl) (by kernel_rfl) (by kernel_rfl)
      (OpenSpec.preRow_of_cond 8 hx (by kernel_rfl) (fun k hk => by cases hk) (by kernel_rfl) (laidMet_of_run' 8 (by kernel_rfl) (by kernel_rfl)))) ?_
  intro W base args ds gs before hval hW _ _ _ hL hsh _
  exact contract H enc W base args ds gs before hval hW hL

set_option maxRecDepth 100000 in
theorem over : Rows.FnExactAssemblyTextSaid :=
  OpenClaim.holds_of_cond 5 Tryd.f5 rfl rfl rfl rfl rfl rfl rfl ⟨rfl, rfl, rfl, rfl, rfl⟩ rfl rfl rfl rfl rfl (by kernel_rfl) Tryd.func5 (by kernel_rfl)
    (of_decide_eq_true (by kernel_rfl)) (by unfold Func.isWrapper; first | (rw [if_pos (by decide +kernel)]; kernel_rfl) | (rw [if_neg (by decide +kernel)]; exact ⟨rfl, rfl⟩))
    (fun os started H enc _ F => by rw [OpenClaim.pre_eq_preRow]; exact lifted os started H enc F)

theorem plain (f : FuncId) (fn : Func) (hf : Tryd.pinned.checked.prog.funcNamed "loop.example/g01081/laws.FnExactAssemblyText" = some f) (hfn : Tryd.pinned.checked.prog.funcs[f]? = some fn) :
    false = Tryd.pinned.checked.prog.looks [] ∧ ∀ (j : Nat) t, fn.params[j]? = some t → Tryd.pinned.checked.prog.wantsStandIn t = false := by
  obtain rfl : f = 5 := Option.some.inj ((show Tryd.prog.funcNamed "loop.example/g01081/laws.FnExactAssemblyText" = some 5 by kernel_rfl).symm.trans hf) |>.symm
  obtain rfl : fn = Tryd.f5 := (Option.some.inj (Tryd.func5.symm.trans hfn)).symm
  refine ⟨by kernel_rfl, fun j t ht => ?_⟩
  rw [Tryd.params5] at ht
  have ht' := Array.mem_of_getElem? ht
  simp only [List.mem_toArray, List.mem_cons, List.not_mem_nil, or_false] at ht'
  rcases ht' with rfl | rfl
  · exact (show Tryd.prog.wantsStandIn 31 = false by kernel_rfl)
  · exact (show Tryd.prog.wantsStandIn 43 = false by kernel_rfl)

theorem proved : Rows.FnExactAssemblyTextCardSaid :=
  Claim7.holds_tied_plain_at .later [] _ _ _ _ over (fun _ h => by cases h) (by kernel_rfl) (fun _ h => by cases h) fnExactAssemblyText_row_tie rfl ⟨rfl, rfl⟩ (by kernel_rfl) rfl plain (by kernel_rfl)
end fnExactAssemblyText
#print axioms fnExactAssemblyText.proved

end Go.Proofs.YtfnihmmkbnkmnaaDoor
