/- The law FnExactSameSystem returns true for every input that can be read as data. No condition. -/
import Derived.Test.YtcikfognbjbniaaSys
namespace Go.Proofs.Ytcikfognbjbniaa
open Go.ChangeShapes Go.WideShapes Go.ChangeAt Go.RowKit
open Go.ChangeMaps (open_string)
namespace fnExactSameSystem
set_option linter.unusedVariables false
set_option maxRecDepth 100000 in
set_option maxHeartbeats 4000000 in
theorem walk (w : World) (gv0 tv0 av0 : Value) (G0 : List (ByteArray × Int)) (T0 : List (ByteArray × List Int)) (sv0 : List Value) (z0 : List ((Int × Int) × Int)) (tm0 : Int) (r0 : RdY w 0 w.heap.size gv0 tv0 av0 G0 T0 sv0 z0) (hg0 : ∀ g ∈ G0, g.1.size ≤ maxLen) (ht0 : ∀ t ∈ T0, t.1.size ≤ maxLen) (bt0 : -9223372036854775808 ≤ tm0 ∧ tm0 ≤ 9223372036854775807) (gv1 tv1 av1 : Value) (G1 : List (ByteArray × Int)) (T1 : List (ByteArray × List Int)) (sv1 : List Value) (z1 : List ((Int × Int) × Int)) (tm1 : Int) (r1 : RdY w 0 w.heap.size gv1 tv1 av1 G1 T1 sv1 z1) (hg1 : ∀ g ∈ G1, g.1.size ≤ maxLen) (ht1 : ∀ t ∈ T1, t.1.size ≤ maxLen) (bt1 : -9223372036854775808 ≤ tm1 ∧ tm1 ≤ 9223372036854775807) : Calls Try.prog 3 #[.agg #[gv0, tv0, av0, .int .i64 tm0], .agg #[gv1, tv1, av1, .int .i64 tm1]] w fun e w' => e = .returned (.bool true) ∧ New w w' := by
  have R0 := r0
  obtain ⟨A0, c0, B0, d0, M0, e0, rfl, rfl, rfl⟩ := r0.form
  have R1 := r1
  obtain ⟨A1, c1, B1, d1, M1, e1, rfl, rfl, rfl⟩ := r1.form
  have N : New w ((w.alloc (.cells #[.slice A0 G0.length c0, .slice B0 T0.length d0, .slice M0 z0.length e0, .int .i64 tm0] 30)).alloc (.cells #[.slice A1 G1.length c1, .slice B1 T1.length d1, .slice M1 z1.length e1, .int .i64 tm1] 30)) := (((New.same w).box _).box _)
  have P0 : BoxV ((w.alloc (.cells #[.slice A0 G0.length c0, .slice B0 T0.length d0, .slice M0 z0.length e0, .int .i64 tm0] 30)).alloc (.cells #[.slice A1 G1.length c1, .slice B1 T1.length d1, .slice M1 z1.length e1, .int .i64 tm1] 30)) (w.heap.size) [.slice A0 G0.length c0, .slice B0 T0.length d0, .slice M0 z0.length e0, .int .i64 tm0] := .four (by go_simp) (by go_simp) (by go_simp) (by go_simp) (by go_simp) (by go_simp) (by go_simp) (by go_simp) (by simp <;> omega)
  have P1 : BoxV ((w.alloc (.cells #[.slice A0 G0.length c0, .slice B0 T0.length d0, .slice M0 z0.length e0, .int .i64 tm0] 30)).alloc (.cells #[.slice A1 G1.length c1, .slice B1 T1.length d1, .slice M1 z1.length e1, .int .i64 tm1] 30)) (w.heap.size + 1) [.slice A1 G1.length c1, .slice B1 T1.length d1, .slice M1 z1.length e1, .int .i64 tm1] := .four (by go_simp) (by go_simp) (by go_simp) (by go_simp) (by go_simp) (by go_simp) (by go_simp) (by go_simp) (by simp <;> omega)
  obtain ⟨L0, E0⟩ : ∃ L, szY (1048576) G0 T0 z0.length = L := ⟨_, rfl⟩
  by_cases hz0 : 0 ≤ L0
  · have ⟨hb0, hG0, hT0, hS0, hA0⟩ := szY_le (by rw [E0]; exact hz0 : 0 ≤ szY (1048576) G0 T0 z0.length)
    rw [E0] at hb0
    have hs0 : ∀ t ∈ T0, t.2.length ≤ 1048576 := fun t ht => by have := hS0 t ht; omega
    clear hS0
    have el0 := eqL_self z0
    obtain ⟨L1, E1⟩ : ∃ L, szY (L0) G1 T1 z1.length = L := ⟨_, rfl⟩
    by_cases hz1 : 0 ≤ L1
    · have ⟨hb1, hG1, hT1, hS1, hA1⟩ := szY_le (by rw [E1]; exact hz1 : 0 ≤ szY (L0) G1 T1 z1.length)
      rw [E1] at hb1
      have hs1 : ∀ t ∈ T1, t.2.length ≤ 1048576 := fun t ht => by have := hS1 t ht; omega
      clear hS1
      have el1 := eqL_self z1
      have ebb : ((yEq G0 G1 T0 T1 z0 z1 tm0 tm1) != (yEq G0 G1 T0 T1 z0 z1 tm0 tm1)) = false := by simp
      go_enter Try.func3, Try.ntmps3
      go_wp2_with fail
      have q0 : w.heap.size + 2 ≤ ((w.alloc (.cells #[.slice A0 G0.length c0, .slice B0 T0.length d0, .slice M0 z0.length e0, .int .i64 tm0] 30)).alloc (.cells #[.slice A1 G1.length c1, .slice B1 T1.length d1, .slice M1 z1.length e1, .int .i64 tm1] 30)).heap.size := by simp
      generalize ((w.alloc (.cells #[.slice A0 G0.length c0, .slice B0 T0.length d0, .slice M0 z0.length e0, .int .i64 tm0] 30)).alloc (.cells #[.slice A1 G1.length c1, .slice B1 T1.length d1, .slice M1 z1.length e1, .int .i64 tm1] 30)) = W0 at *
      replace R0 := R0.new N
      replace R1 := R1.new N
      refine (c_szSystem _ _ _ _ _ 0 0 G0 T0 _ z0 tm0 (1048576) _ R0 hg0 ht0 (by omega) (by omega)).mono ?_
      rintro e w1 ⟨rfl, n1⟩
      have q1 := n1.size
      replace N := N.step n1
      replace R0 := R0.new n1
      replace R1 := R1.new n1
      replace P0 := P0.new n1
      replace P1 := P1.new n1
      rw [E0]
      have ⟨⟨c_P0, d_P0, e_P0, f_P0⟩, _, l_P0⟩ := P0.at4
      have ⟨⟨c_P1, d_P1, e_P1, f_P1⟩, _, l_P1⟩ := P1.at4
      go_wp2_with fail
      clear c_P0 d_P0 e_P0 f_P0 l_P0 c_P1 d_P1 e_P1 f_P1 l_P1
      refine (c_szSystem _ _ _ _ _ 0 0 G1 T1 _ z1 tm1 (L0) _ R1 hg1 ht1 (by omega) (by omega)).mono ?_
      rintro e w2 ⟨rfl, n2⟩
      have q2 := n2.size
      replace N := N.step n2
      replace R0 := R0.new n2
      replace R1 := R1.new n2
      replace P0 := P0.new n2
      replace P1 := P1.new n2
      rw [E1]
      have ⟨⟨c_P0, d_P0, e_P0, f_P0⟩, _, l_P0⟩ := P0.at4
      have ⟨⟨c_P1, d_P1, e_P1, f_P1⟩, _, l_P1⟩ := P1.at4
      go_upto_region 8 with fail
      clear c_P0 d_P0 e_P0 f_P0 l_P0 c_P1 d_P1 e_P1 f_P1 l_P1
      have T3_0 := Lib.hid (fun (wx : World) (nx : New w2 wx) => c_toSystem _ _ _ _ _ 0 0 G0 T0 _ z0 tm0 wx (R0.new nx) (by omega) (by omega) hs0 (by omega))
      have T3_1 := Lib.hid (fun (wx : World) (nx : New w2 wx) => c_toSystem _ _ _ _ _ 0 0 G1 T1 _ z1 tm1 wx (R1.new nx) (by omega) (by omega) hs1 (by omega))
      go_cut [6] (fun sx wx => sx = .bool (yEq G0 G1 T0 T1 z0 z1 tm0 tm1) ∧ New w2 wx)
      case first =>
        go_region_held3 (fun w' => w'.cell? ⟨w.heap.size, 0, none⟩ = some (.slice A0 G0.length c0) ∧ w'.cell? ⟨w.heap.size, 1, none⟩ = some (.slice B0 T0.length d0) ∧ w'.cell? ⟨w.heap.size, 2, none⟩ = some (.slice M0 z0.length e0) ∧ w'.cell? ⟨w.heap.size, 3, none⟩ = some (.int .i64 tm0) ∧ w'.cell? ⟨w.heap.size + 1, 0, none⟩ = some (.slice A1 G1.length c1) ∧ w'.cell? ⟨w.heap.size + 1, 1, none⟩ = some (.slice B1 T1.length d1) ∧ w'.cell? ⟨w.heap.size + 1, 2, none⟩ = some (.slice M1 z1.length e1) ∧ w'.cell? ⟨w.heap.size + 1, 3, none⟩ = some (.int .i64 tm1))
          (exact keepV4 (w1 := w2) (by (repeat' (first | (with_reducible exact New.same _) | (with_reducible assumption) | (with_reducible refine New.box ?_ _) | (with_reducible refine New.drew_ ?_) | (with_reducible refine New.set ?_ ?_ _ _) | (with_reducible refine New.step ?_ (by assumption))))) P0 P1)
          (first | (go_at_call_of 10 (Value.slice A0 G0.length c0); refine (T3_0.out _ ?_).mono ?_; (· (repeat' (first | (with_reducible exact New.same _) | (with_reducible assumption) | (with_reducible refine New.box ?_ _) | (with_reducible refine New.drew_ ?_) | (with_reducible refine New.set ?_ ?_ _ _) | (with_reducible refine New.step ?_ (by assumption))))); rintro e wa3_0 ⟨gq3_0, tq3_0, sq3_0, vq3_0, rfl, hQ3_0, na3_0⟩) | (go_at_call_of 10 (Value.slice A1 G1.length c1); refine (T3_1.out _ ?_).mono ?_; (· (repeat' (first | (with_reducible exact New.same _) | (with_reducible assumption) | (with_reducible refine New.box ?_ _) | (with_reducible refine New.drew_ ?_) | (with_reducible refine New.set ?_ ?_ _ _) | (with_reducible refine New.step ?_ (by assumption))))); rintro e wa3_1 ⟨gq3_1, tq3_1, sq3_1, vq3_1, rfl, hQ3_1, na3_1⟩) | (go_at_call 9; refine (c_specSameSystem _ _ _ _ _ _ _ _ _ _ G0 G1 T0 T1 _ _ z0 z1 tm0 tm1 _ (RdY.new hQ3_0.rd ?_) (RdY.new hQ3_1.rd ?_)).mono ?_; (· (repeat' (first | (with_reducible exact New.same _) | (with_reducible assumption) | (with_reducible refine New.box ?_ _) | (with_reducible refine New.drew_ ?_) | (with_reducible refine New.set ?_ ?_ _ _) | (with_reducible refine New.step ?_ (by assumption))))); (· (repeat' (first | (with_reducible exact New.same _) | (with_reducible assumption) | (with_reducible refine New.box ?_ _) | (with_reducible refine New.drew_ ?_) | (with_reducible refine New.set ?_ ?_ _ _) | (with_reducible refine New.step ?_ (by assumption))))); rintro e wc3 ⟨rfl, nc3⟩))
        all_goals (go_wp2_with fail; go_meet; exact ⟨rfl, by (repeat' (first | (with_reducible exact New.same _) | (with_reducible assumption) | (with_reducible refine New.box ?_ _) | (with_reducible refine New.drew_ ?_) | (with_reducible refine New.set ?_ ?_ _ _) | (with_reducible refine New.step ?_ (by assumption))))⟩)
      case rest =>
        obtain ⟨rfl, M3⟩ := hcut
        clear T3_0 T3_1
        have q3 := M3.size
        replace N := N.step M3
        replace R0 := R0.new M3
        replace R1 := R1.new M3
        replace P0 := P0.new M3
        replace P1 := P1.new M3
        have ⟨⟨c_P0, d_P0, e_P0, f_P0⟩, _, l_P0⟩ := P0.at4
        have ⟨⟨c_P1, d_P1, e_P1, f_P1⟩, _, l_P1⟩ := P1.at4
        go_wp2_with fail
        clear c_P0 d_P0 e_P0 f_P0 l_P0 c_P1 d_P1 e_P1 f_P1 l_P1
        refine (c_toSystem _ _ _ _ _ 0 0 G0 T0 _ z0 tm0 _ R0 (by omega) (by omega) hs0 (by omega)).mono ?_
        rintro e w4 ⟨g4, t4, s4, v4, rfl, xa, n4⟩
        have q4 := n4.size
        replace N := N.step n4
        replace R0 := R0.new n4
        replace R1 := R1.new n4
        replace P0 := P0.new n4
        replace P1 := P1.new n4
        obtain ⟨A_xa, c_xa_, K_xa, d_xa_, M_xa, e_xa_, hva, hvb, hvc⟩ := xa.rd.form
        subst hva hvb hvc
        have m4 : New w4 (w4.alloc (.cells #[.slice A_xa G0.length c_xa_, .slice K_xa T0.length d_xa_, .slice M_xa z0.length e_xa_, .int .i64 tm0] 41)) := (New.same _).box _
        have B_xa : BoxV (w4.alloc (.cells #[.slice A_xa G0.length c_xa_, .slice K_xa T0.length d_xa_, .slice M_xa z0.length e_xa_, .int .i64 tm0] 41)) w4.heap.size [.slice A_xa G0.length c_xa_, .slice K_xa T0.length d_xa_, .slice M_xa z0.length e_xa_, .int .i64 tm0] := .four (by go_simp) (by go_simp) (by go_simp) (by go_simp) (by go_simp) (by go_simp) (by go_simp) (by go_simp) (by simp)
        have ⟨⟨c_P0, d_P0, e_P0, f_P0⟩, _, l_P0⟩ := P0.at4
        have ⟨⟨c_P1, d_P1, e_P1, f_P1⟩, _, l_P1⟩ := P1.at4
        go_wp2_with fail
        clear c_P0 d_P0 e_P0 f_P0 l_P0 c_P1 d_P1 e_P1 f_P1 l_P1
        have q5 := m4.size
        have qb5 : w4.heap.size < (w4.alloc (.cells #[.slice A_xa G0.length c_xa_, .slice K_xa T0.length d_xa_, .slice M_xa z0.length e_xa_, .int .i64 tm0] 41)).heap.size := by simp
        replace N := N.step m4
        replace R0 := R0.new m4
        replace R1 := R1.new m4
        replace xa := xa.new m4
        replace P0 := P0.new m4
        replace P1 := P1.new m4
        generalize (w4.alloc (.cells #[.slice A_xa G0.length c_xa_, .slice K_xa T0.length d_xa_, .slice M_xa z0.length e_xa_, .int .i64 tm0] 41)) = w5 at *
        refine (c_toSystem _ _ _ _ _ 0 0 G1 T1 _ z1 tm1 _ R1 (by omega) (by omega) hs1 (by omega)).mono ?_
        rintro e w6 ⟨g6, t6, s6, v6, rfl, xb, n6⟩
        have q6 := n6.size
        replace N := N.step n6
        replace R0 := R0.new n6
        replace R1 := R1.new n6
        replace xa := xa.new n6
        replace P0 := P0.new n6
        replace P1 := P1.new n6
        replace B_xa := B_xa.new n6
        obtain ⟨A_xb, c_xb_, K_xb, d_xb_, M_xb, e_xb_, hva, hvb, hvc⟩ := xb.rd.form
        subst hva hvb hvc
        have m6 : New w6 (w6.alloc (.cells #[.slice A_xb G1.length c_xb_, .slice K_xb T1.length d_xb_, .slice M_xb z1.length e_xb_, .int .i64 tm1] 41)) := (New.same _).box _
        have B_xb : BoxV (w6.alloc (.cells #[.slice A_xb G1.length c_xb_, .slice K_xb T1.length d_xb_, .slice M_xb z1.length e_xb_, .int .i64 tm1] 41)) w6.heap.size [.slice A_xb G1.length c_xb_, .slice K_xb T1.length d_xb_, .slice M_xb z1.length e_xb_, .int .i64 tm1] := .four (by go_simp) (by go_simp) (by go_simp) (by go_simp) (by go_simp) (by go_simp) (by go_simp) (by go_simp) (by simp)
        have ⟨⟨c_P0, d_P0, e_P0, f_P0⟩, _, l_P0⟩ := P0.at4
        have ⟨⟨c_P1, d_P1, e_P1, f_P1⟩, _, l_P1⟩ := P1.at4
        have ⟨⟨c_B_xa, d_B_xa, e_B_xa, f_B_xa⟩, _, l_B_xa⟩ := B_xa.at4
        go_wp2_with fail
        clear c_P0 d_P0 e_P0 f_P0 l_P0 c_P1 d_P1 e_P1 f_P1 l_P1 c_B_xa d_B_xa e_B_xa f_B_xa l_B_xa
        have q7 := m6.size
        have qb7 : w6.heap.size < (w6.alloc (.cells #[.slice A_xb G1.length c_xb_, .slice K_xb T1.length d_xb_, .slice M_xb z1.length e_xb_, .int .i64 tm1] 41)).heap.size := by simp
        replace N := N.step m6
        replace R0 := R0.new m6
        replace R1 := R1.new m6
        replace xa := xa.new m6
        replace xb := xb.new m6
        replace P0 := P0.new m6
        replace P1 := P1.new m6
        replace B_xa := B_xa.new m6
        generalize (w6.alloc (.cells #[.slice A_xb G1.length c_xb_, .slice K_xb T1.length d_xb_, .slice M_xb z1.length e_xb_, .int .i64 tm1] 41)) = w7 at *
        refine (c_implSameSystem _ _ _ _ _ _ _ _ _ _ G0 G1 T0 T1 _ _ z0 z1 tm0 tm1 _ xa.rd xb.rd).mono ?_
        rintro e w8 ⟨rfl, n8⟩
        have q8 := n8.size
        replace N := N.step n8
        replace R0 := R0.new n8
        replace R1 := R1.new n8
        replace xa := xa.new n8
        replace xb := xb.new n8
        replace P0 := P0.new n8
        replace P1 := P1.new n8
        replace B_xa := B_xa.new n8
        replace B_xb := B_xb.new n8
        have ⟨⟨c_P0, d_P0, e_P0, f_P0⟩, _, l_P0⟩ := P0.at4
        have ⟨⟨c_P1, d_P1, e_P1, f_P1⟩, _, l_P1⟩ := P1.at4
        have ⟨⟨c_B_xa, d_B_xa, e_B_xa, f_B_xa⟩, _, l_B_xa⟩ := B_xa.at4
        have ⟨⟨c_B_xb, d_B_xb, e_B_xb, f_B_xb⟩, _, l_B_xb⟩ := B_xb.at4
        go_upto_region 14 with fail
        clear c_P0 d_P0 e_P0 f_P0 l_P0 c_P1 d_P1 e_P1 f_P1 l_P1 c_B_xa d_B_xa e_B_xa f_B_xa l_B_xa c_B_xb d_B_xb e_B_xb f_B_xb l_B_xb
        have TT9 := Lib.hid (fun (wx : World) (nx : New w8 wx) => c_toSystem _ _ _ _ _ 0 0 G0 T0 _ z0 tm0 wx (R0.new nx) (by omega) (by omega) hs0 (by omega))
        have XX9 := Lib.hid xa
        go_region_held3 (fun w' => w'.cell? ⟨w4.heap.size, 0, none⟩ = some (.slice A_xa G0.length c_xa_) ∧ w'.cell? ⟨w4.heap.size, 1, none⟩ = some (.slice K_xa T0.length d_xa_) ∧ w'.cell? ⟨w4.heap.size, 2, none⟩ = some (.slice M_xa z0.length e_xa_) ∧ w'.cell? ⟨w4.heap.size, 3, none⟩ = some (.int .i64 tm0) ∧ w'.cell? ⟨w.heap.size, 0, none⟩ = some (.slice A0 G0.length c0) ∧ w'.cell? ⟨w.heap.size, 1, none⟩ = some (.slice B0 T0.length d0) ∧ w'.cell? ⟨w.heap.size, 2, none⟩ = some (.slice M0 z0.length e0) ∧ w'.cell? ⟨w.heap.size, 3, none⟩ = some (.int .i64 tm0))
          (exact keepV4 (w1 := w8) (by (repeat' (first | (with_reducible exact New.same _) | (with_reducible assumption) | (with_reducible refine New.box ?_ _) | (with_reducible refine New.drew_ ?_) | (with_reducible refine New.set ?_ ?_ _ _) | (with_reducible refine New.step ?_ (by assumption))))) B_xa P0)
          (first | (go_at_call 12; refine (c_eqSystem_self _ _ _ _ _ _ _ _ _ _ G0 T0 _ _ z0 tm0 _ ((XX9.out.new ((New.same _).drew_)).rd.new na9) hQ9.rd).mono ?_; rintro e wb9 ⟨rfl, nb9⟩) | (go_at_call 10; refine (TT9.out _ ?_).mono ?_; (· (repeat' (first | (with_reducible exact New.same _) | (with_reducible assumption) | (with_reducible refine New.box ?_ _) | (with_reducible refine New.drew_ ?_) | (with_reducible refine New.set ?_ ?_ _ _) | (with_reducible refine New.step ?_ (by assumption))))); rintro e wa9 ⟨gq9, tq9, sq9, vq9, rfl, hQ9, na9⟩))
        have M9 : New w8 wb9 := by (repeat' (first | (with_reducible exact New.same _) | (with_reducible assumption) | (with_reducible refine New.box ?_ _) | (with_reducible refine New.drew_ ?_) | (with_reducible refine New.set ?_ ?_ _ _) | (with_reducible refine New.step ?_ (by assumption))))
        clear TT9 XX9 hQ9
        have q9 := M9.size
        replace N := N.step M9
        replace R0 := R0.new M9
        replace R1 := R1.new M9
        replace xa := xa.new M9
        replace xb := xb.new M9
        replace P0 := P0.new M9
        replace P1 := P1.new M9
        replace B_xa := B_xa.new M9
        replace B_xb := B_xb.new M9
        have ⟨⟨c_P0, d_P0, e_P0, f_P0⟩, _, l_P0⟩ := P0.at4
        have ⟨⟨c_P1, d_P1, e_P1, f_P1⟩, _, l_P1⟩ := P1.at4
        have ⟨⟨c_B_xa, d_B_xa, e_B_xa, f_B_xa⟩, _, l_B_xa⟩ := B_xa.at4
        have ⟨⟨c_B_xb, d_B_xb, e_B_xb, f_B_xb⟩, _, l_B_xb⟩ := B_xb.at4
        go_upto_region 16 with fail
        clear c_P0 d_P0 e_P0 f_P0 l_P0 c_P1 d_P1 e_P1 f_P1 l_P1 c_B_xa d_B_xa e_B_xa f_B_xa l_B_xa c_B_xb d_B_xb e_B_xb f_B_xb l_B_xb
        have TT10 := Lib.hid (fun (wx : World) (nx : New wb9 wx) => c_toSystem _ _ _ _ _ 0 0 G1 T1 _ z1 tm1 wx (R1.new nx) (by omega) (by omega) hs1 (by omega))
        have XX10 := Lib.hid xb
        go_region_held3 (fun w' => w'.cell? ⟨w6.heap.size, 0, none⟩ = some (.slice A_xb G1.length c_xb_) ∧ w'.cell? ⟨w6.heap.size, 1, none⟩ = some (.slice K_xb T1.length d_xb_) ∧ w'.cell? ⟨w6.heap.size, 2, none⟩ = some (.slice M_xb z1.length e_xb_) ∧ w'.cell? ⟨w6.heap.size, 3, none⟩ = some (.int .i64 tm1) ∧ w'.cell? ⟨w.heap.size + 1, 0, none⟩ = some (.slice A1 G1.length c1) ∧ w'.cell? ⟨w.heap.size + 1, 1, none⟩ = some (.slice B1 T1.length d1) ∧ w'.cell? ⟨w.heap.size + 1, 2, none⟩ = some (.slice M1 z1.length e1) ∧ w'.cell? ⟨w.heap.size + 1, 3, none⟩ = some (.int .i64 tm1))
          (exact keepV4 (w1 := wb9) (by (repeat' (first | (with_reducible exact New.same _) | (with_reducible assumption) | (with_reducible refine New.box ?_ _) | (with_reducible refine New.drew_ ?_) | (with_reducible refine New.set ?_ ?_ _ _) | (with_reducible refine New.step ?_ (by assumption))))) B_xb P1)
          (first | (go_at_call 12; refine (c_eqSystem_self _ _ _ _ _ _ _ _ _ _ G1 T1 _ _ z1 tm1 _ ((XX10.out.new ((New.same _).drew_)).rd.new na10) hQ10.rd).mono ?_; rintro e wb10 ⟨rfl, nb10⟩) | (go_at_call 10; refine (TT10.out _ ?_).mono ?_; (· (repeat' (first | (with_reducible exact New.same _) | (with_reducible assumption) | (with_reducible refine New.box ?_ _) | (with_reducible refine New.drew_ ?_) | (with_reducible refine New.set ?_ ?_ _ _) | (with_reducible refine New.step ?_ (by assumption))))); rintro e wa10 ⟨gq10, tq10, sq10, vq10, rfl, hQ10, na10⟩))
        have M10 : New wb9 wb10 := by (repeat' (first | (with_reducible exact New.same _) | (with_reducible assumption) | (with_reducible refine New.box ?_ _) | (with_reducible refine New.drew_ ?_) | (with_reducible refine New.set ?_ ?_ _ _) | (with_reducible refine New.step ?_ (by assumption))))
        clear TT10 XX10 hQ10
        have q10 := M10.size
        replace N := N.step M10
        replace R0 := R0.new M10
        replace R1 := R1.new M10
        replace xa := xa.new M10
        replace xb := xb.new M10
        replace P0 := P0.new M10
        replace P1 := P1.new M10
        replace B_xa := B_xa.new M10
        replace B_xb := B_xb.new M10
        have ⟨⟨c_P0, d_P0, e_P0, f_P0⟩, _, l_P0⟩ := P0.at4
        have ⟨⟨c_P1, d_P1, e_P1, f_P1⟩, _, l_P1⟩ := P1.at4
        have ⟨⟨c_B_xa, d_B_xa, e_B_xa, f_B_xa⟩, _, l_B_xa⟩ := B_xa.at4
        have ⟨⟨c_B_xb, d_B_xb, e_B_xb, f_B_xb⟩, _, l_B_xb⟩ := B_xb.at4
        go_wp2
        go_ret
        exact ⟨rfl, N⟩
    · have EE1 : L1 = -1 := by rw [← E1]; exact szY_lo _ _ _ _ (by rw [E1]; omega)
      subst EE1
      go_enter Try.func3, Try.ntmps3
      go_wp2_with fail
      have q0 : w.heap.size + 2 ≤ ((w.alloc (.cells #[.slice A0 G0.length c0, .slice B0 T0.length d0, .slice M0 z0.length e0, .int .i64 tm0] 30)).alloc (.cells #[.slice A1 G1.length c1, .slice B1 T1.length d1, .slice M1 z1.length e1, .int .i64 tm1] 30)).heap.size := by simp
      generalize ((w.alloc (.cells #[.slice A0 G0.length c0, .slice B0 T0.length d0, .slice M0 z0.length e0, .int .i64 tm0] 30)).alloc (.cells #[.slice A1 G1.length c1, .slice B1 T1.length d1, .slice M1 z1.length e1, .int .i64 tm1] 30)) = W0 at *
      replace R0 := R0.new N
      replace R1 := R1.new N
      refine (c_szSystem _ _ _ _ _ 0 0 G0 T0 _ z0 tm0 (1048576) _ R0 hg0 ht0 (by omega) (by omega)).mono ?_
      rintro e w11 ⟨rfl, n11⟩
      have q11 := n11.size
      replace N := N.step n11
      replace R0 := R0.new n11
      replace R1 := R1.new n11
      replace P0 := P0.new n11
      replace P1 := P1.new n11
      rw [E0]
      have ⟨⟨c_P0, d_P0, e_P0, f_P0⟩, _, l_P0⟩ := P0.at4
      have ⟨⟨c_P1, d_P1, e_P1, f_P1⟩, _, l_P1⟩ := P1.at4
      go_wp2_with fail
      clear c_P0 d_P0 e_P0 f_P0 l_P0 c_P1 d_P1 e_P1 f_P1 l_P1
      refine (c_szSystem _ _ _ _ _ 0 0 G1 T1 _ z1 tm1 (L0) _ R1 hg1 ht1 (by omega) (by omega)).mono ?_
      rintro e w12 ⟨rfl, n12⟩
      have q12 := n12.size
      replace N := N.step n12
      replace R0 := R0.new n12
      replace R1 := R1.new n12
      replace P0 := P0.new n12
      replace P1 := P1.new n12
      rw [E1]
      have ⟨⟨c_P0, d_P0, e_P0, f_P0⟩, _, l_P0⟩ := P0.at4
      have ⟨⟨c_P1, d_P1, e_P1, f_P1⟩, _, l_P1⟩ := P1.at4
      go_wp2
      go_ret
      exact ⟨rfl, N⟩
  · have EE0 : L0 = -1 := by rw [← E0]; exact szY_lo _ _ _ _ (by rw [E0]; omega)
    subst EE0
    go_enter Try.func3, Try.ntmps3
    go_wp2_with fail
    have q0 : w.heap.size + 2 ≤ ((w.alloc (.cells #[.slice A0 G0.length c0, .slice B0 T0.length d0, .slice M0 z0.length e0, .int .i64 tm0] 30)).alloc (.cells #[.slice A1 G1.length c1, .slice B1 T1.length d1, .slice M1 z1.length e1, .int .i64 tm1] 30)).heap.size := by simp
    generalize ((w.alloc (.cells #[.slice A0 G0.length c0, .slice B0 T0.length d0, .slice M0 z0.length e0, .int .i64 tm0] 30)).alloc (.cells #[.slice A1 G1.length c1, .slice B1 T1.length d1, .slice M1 z1.length e1, .int .i64 tm1] 30)) = W0 at *
    replace R0 := R0.new N
    replace R1 := R1.new N
    refine (c_szSystem _ _ _ _ _ 0 0 G0 T0 _ z0 tm0 (1048576) _ R0 hg0 ht0 (by omega) (by omega)).mono ?_
    rintro e w13 ⟨rfl, n13⟩
    have q13 := n13.size
    replace N := N.step n13
    replace R0 := R0.new n13
    replace R1 := R1.new n13
    replace P0 := P0.new n13
    replace P1 := P1.new n13
    rw [E0]
    have ⟨⟨c_P0, d_P0, e_P0, f_P0⟩, _, l_P0⟩ := P0.at4
    have ⟨⟨c_P1, d_P1, e_P1, f_P1⟩, _, l_P1⟩ := P1.at4
    go_wp2
    go_ret
    exact ⟨rfl, N⟩
set_option maxHeartbeats 4000000 in
set_option maxRecDepth 100000 in
theorem lifted (os : Os) (started : os.Started) (H : Type) (enc : TypeId × Value → H) :
    ReturnsInHanded {} Try.checked os 3 .any (Rows.fnExactSameSystemSpec.pre6 enc Try.prog Try.f3 Rows.fnExactSameSystemRow.domain false) (Rows.fnExactSameSystemSpec.post enc Try.prog Try.f3 false true false false) := by
  refine returnsInHanded_of_change (C := Try.checked) prog_own started (by kernel_rfl) Try.func3
    (ChangeSpec.witness6 (enc := enc) (C := Try.checked) false ⟨#[], #[.agg #[.slice none 0 0, .slice none 0 0, .slice none 0 0, .int .i64 0], .agg #[.slice none 0 0, .slice none 0 0, .slice none 0 0, .int .i64 0]], []⟩ 8 (by kernel_rfl) (by kernel_rfl) (by kernel_rfl) (by kernel_rfl)) ?_
  intro W base args ds gs before hval0 hW _ _
  have hval : ∀ (j : Nat) t v, Try.f3.params[j]? = some t → args[j]? = some v → Value.okWide Try.prog W .any base t v := hval0
  have hW' := hW
  obtain ⟨p, q, hA0, hV, rfl, _, _⟩ := hW
  have hA : DataW.TrodAll enc Try.prog W 0 (fun _ => true) true Try.f3.params.toList args.toList ds p := hA0
  rw [Try.params3] at hA hval
  have hlt : ∀ x ∈ p, x.block < W.heap.size := fun x hx => hW'.lt x (List.mem_append_left _ hx)
  obtain ⟨v0, vs0, d0, ds0, p0, q0, hargs, rfl, rfl, h0, t0⟩ := trodAll_cons hA
  obtain ⟨v1, vs1, d1, ds1, p1, q1, rfl, rfl, rfl, h1, t1⟩ := trodAll_cons t0
  obtain ⟨rfl, rfl, rfl⟩ := trodAll_nil t1
  obtain rfl : args = #[v0, v1] := by cases args; simp_all
  have hlt0 : ∀ x ∈ p0, x.block < W.heap.size := fun x hx => hlt x (List.mem_append_left _ hx)
  have hlt1 : ∀ x ∈ p1, x.block < W.heap.size := fun x hx => hlt x (List.mem_append_right _ (List.mem_append_left _ hx))
  obtain ⟨gv0, tv0, av0, G0, T0, sv0, z0, tm0, rfl, ry0, hg0, ht0, bt0⟩ := open_sys Try.underlying30 (by kernel_rfl) rfl rfl rfl rfl rfl rfl Try.underlying25 (by kernel_rfl) rfl rfl rfl rfl (by kernel_rfl) (by kernel_rfl) Try.underlying22 Try.underlying108 (by kernel_rfl) rfl rfl rfl rfl Try.underlying23 Try.underlying110 (by kernel_rfl) rfl rfl rfl rfl (by kernel_rfl) (by kernel_rfl) (by kernel_rfl) Try.underlying9 Try.underlying2 Try.underlying52 Try.underlying28 (by kernel_rfl) rfl rfl (by kernel_rfl) Try.underlying26 Try.underlying120 (by kernel_rfl) rfl rfl rfl rfl (by kernel_rfl) Try.underlying118 rfl rfl rfl rfl (hval 0 30 v0 rfl rfl) h0 hlt0
  obtain ⟨gv1, tv1, av1, G1, T1, sv1, z1, tm1, rfl, ry1, hg1, ht1, bt1⟩ := open_sys Try.underlying30 (by kernel_rfl) rfl rfl rfl rfl rfl rfl Try.underlying25 (by kernel_rfl) rfl rfl rfl rfl (by kernel_rfl) (by kernel_rfl) Try.underlying22 Try.underlying108 (by kernel_rfl) rfl rfl rfl rfl Try.underlying23 Try.underlying110 (by kernel_rfl) rfl rfl rfl rfl (by kernel_rfl) (by kernel_rfl) (by kernel_rfl) Try.underlying9 Try.underlying2 Try.underlying52 Try.underlying28 (by kernel_rfl) rfl rfl (by kernel_rfl) Try.underlying26 Try.underlying120 (by kernel_rfl) rfl rfl rfl rfl (by kernel_rfl) Try.underlying118 rfl rfl rfl rfl (hval 1 30 v1 rfl rfl) h1 hlt1
  refine (walk W gv0 tv0 av0 G0 T0 sv0 z0 tm0 ry0 hg0 ht0 bt0 gv1 tv1 av1 G1 T1 sv1 z1 tm1 ry1 hg1 ht1 bt1).mono fun e W' ⟨he, hb⟩ => ⟨_, he, ?_⟩
  exact law_post prog_laid (by kernel_rfl) rfl Try.underlying4 rfl (by intro ds h; rw [Try.params3] at h; match ds, h with | [_, _], _ => exact ⟨rfl, rfl, rfl⟩) hW' hb

theorem over : Rows.fnExactSameSystemRow.holds Try.pinned (OpenSpec.ofChange Rows.fnExactSameSystemSpec) :=
  OpenClaim.holds_of_wide 3 Try.f3 rfl rfl rfl rfl rfl rfl rfl ⟨rfl, rfl, rfl, rfl, rfl⟩ rfl rfl rfl rfl rfl (by kernel_rfl) Try.func3 (by kernel_rfl)
    (of_decide_eq_true (by kernel_rfl)) (by unfold Func.isWrapper; first | (rw [if_pos (by decide +kernel)]; kernel_rfl) | (rw [if_neg (by decide +kernel)]; exact ⟨rfl, rfl⟩))
    (fun os started H enc _ => lifted os started H enc)

theorem proved : Rows.FnExactSameSystemSaid := over
end fnExactSameSystem
#print axioms fnExactSameSystem.proved

end Go.Proofs.Ytcikfognbjbniaa
