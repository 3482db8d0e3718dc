/- The law FnExactSameProof returns true for every input that can be read as data. No condition. -/
import Derived.Test.YthafdlfhkcbjhaaProof
namespace Go.Proofs.Ythafdlfhkcbjhaa
open Go.ChangeShapes Go.WideShapes Go.ChangeAt Go.RowKit
open Go.ChangeMaps (open_string)
namespace fnExactSameProof
set_option linter.unusedVariables false
set_option maxRecDepth 100000 in
set_option maxHeartbeats 4000000 in
theorem walk (w : World) (kd0 : Int) (sq0 ot0 pt0 fl0 : Value) (xs0 ys0 : List ((Int × Int) × Int)) (z0 : List Int) (F0 : List (List Int)) (sv0 : List Value) (r0 : RdF w 0 w.heap.size sq0 ot0 pt0 fl0 xs0 ys0 z0 F0 sv0) (kd1 : Int) (sq1 ot1 pt1 fl1 : Value) (xs1 ys1 : List ((Int × Int) × Int)) (z1 : List Int) (F1 : List (List Int)) (sv1 : List Value) (r1 : RdF w 0 w.heap.size sq1 ot1 pt1 fl1 xs1 ys1 z1 F1 sv1) : Calls Try.prog 5 #[.agg #[.int .i64 kd0, sq0, ot0, pt0, fl0], .agg #[.int .i64 kd1, sq1, ot1, pt1, fl1]] w fun e w' => e = .returned (.bool true) ∧ New w w' := by
  have R0 := r0
  obtain ⟨A0, a0, B0, b0, C0, c0, D0, d0, rfl, rfl, rfl, rfl⟩ := r0.form
  have R1 := r1
  obtain ⟨A1, a1, B1, b1, C1, c1, D1, d1, rfl, rfl, rfl, rfl⟩ := r1.form
  have N : New w ((w.alloc (.cells #[.int .i64 kd0, .slice A0 xs0.length a0, .slice B0 ys0.length b0, .slice C0 z0.length c0, .slice D0 F0.length d0] 36)).alloc (.cells #[.int .i64 kd1, .slice A1 xs1.length a1, .slice B1 ys1.length b1, .slice C1 z1.length c1, .slice D1 F1.length d1] 36)) := (((New.same w).box _).box _)
  have P0 : BoxV ((w.alloc (.cells #[.int .i64 kd0, .slice A0 xs0.length a0, .slice B0 ys0.length b0, .slice C0 z0.length c0, .slice D0 F0.length d0] 36)).alloc (.cells #[.int .i64 kd1, .slice A1 xs1.length a1, .slice B1 ys1.length b1, .slice C1 z1.length c1, .slice D1 F1.length d1] 36)) (w.heap.size) [.int .i64 kd0, .slice A0 xs0.length a0, .slice B0 ys0.length b0, .slice C0 z0.length c0, .slice D0 F0.length d0] := .five (by go_simp) (by go_simp) (by go_simp) (by go_simp) (by go_simp) (by go_simp) (by go_simp) (by go_simp) (by go_simp) (by go_simp) (by simp <;> omega)
  have P1 : BoxV ((w.alloc (.cells #[.int .i64 kd0, .slice A0 xs0.length a0, .slice B0 ys0.length b0, .slice C0 z0.length c0, .slice D0 F0.length d0] 36)).alloc (.cells #[.int .i64 kd1, .slice A1 xs1.length a1, .slice B1 ys1.length b1, .slice C1 z1.length c1, .slice D1 F1.length d1] 36)) (w.heap.size + 1) [.int .i64 kd1, .slice A1 xs1.length a1, .slice B1 ys1.length b1, .slice C1 z1.length c1, .slice D1 F1.length d1] := .five (by go_simp) (by go_simp) (by go_simp) (by go_simp) (by go_simp) (by go_simp) (by go_simp) (by go_simp) (by go_simp) (by go_simp) (by simp <;> omega)
  obtain ⟨L0, E0⟩ : ∃ L, szPf (1048576) xs0.length ys0.length z0.length F0 = L := ⟨_, rfl⟩
  by_cases hz0 : 0 ≤ L0
  · have ⟨hb0, hx0, hy0, hz0_, hF0, hS0⟩ := szPf_le (by rw [E0]; exact hz0 : 0 ≤ szPf (1048576) xs0.length ys0.length z0.length F0)
    rw [E0] at hb0
    have hs0 : ∀ t ∈ F0, t.length ≤ 1048576 := fun t ht => by have := hS0 t ht; omega
    clear hS0
    obtain ⟨L1, E1⟩ : ∃ L, szPf (L0) xs1.length ys1.length z1.length F1 = L := ⟨_, rfl⟩
    by_cases hz1 : 0 ≤ L1
    · have ⟨hb1, hx1, hy1, hz1_, hF1, hS1⟩ := szPf_le (by rw [E1]; exact hz1 : 0 ≤ szPf (L0) xs1.length ys1.length z1.length F1)
      rw [E1] at hb1
      have hs1 : ∀ t ∈ F1, t.length ≤ 1048576 := fun t ht => by have := hS1 t ht; omega
      clear hS1
      have ebb : ((pfEq kd0 kd1 xs0 xs1 ys0 ys1 z0 z1 F0 F1) != (pfEq kd0 kd1 xs0 xs1 ys0 ys1 z0 z1 F0 F1)) = false := by simp
      go_enter Try.func5, Try.ntmps5
      go_wp2_with fail
      have q0 : w.heap.size + 2 ≤ ((w.alloc (.cells #[.int .i64 kd0, .slice A0 xs0.length a0, .slice B0 ys0.length b0, .slice C0 z0.length c0, .slice D0 F0.length d0] 36)).alloc (.cells #[.int .i64 kd1, .slice A1 xs1.length a1, .slice B1 ys1.length b1, .slice C1 z1.length c1, .slice D1 F1.length d1] 36)).heap.size := by simp
      generalize ((w.alloc (.cells #[.int .i64 kd0, .slice A0 xs0.length a0, .slice B0 ys0.length b0, .slice C0 z0.length c0, .slice D0 F0.length d0] 36)).alloc (.cells #[.int .i64 kd1, .slice A1 xs1.length a1, .slice B1 ys1.length b1, .slice C1 z1.length c1, .slice D1 F1.length d1] 36)) = W0 at *
      replace R0 := R0.new N
      replace R1 := R1.new N
      refine (c_szProof _ _ _ _ _ _ xs0 ys0 z0 F0 _ kd0 (1048576) _ R0 (by omega) (by omega)).mono ?_
      rintro e w1 ⟨rfl, n1⟩
      have q1 := n1.size
      replace N := N.step n1
      replace R0 := R0.new n1
      replace R1 := R1.new n1
      replace P0 := P0.new n1
      replace P1 := P1.new n1
      rw [E0]
      have ⟨⟨c_P0, d_P0, e_P0, f_P0, g_P0⟩, _, l_P0⟩ := P0.at5
      have ⟨⟨c_P1, d_P1, e_P1, f_P1, g_P1⟩, _, l_P1⟩ := P1.at5
      go_wp2_with fail
      clear c_P0 d_P0 e_P0 f_P0 g_P0 l_P0 c_P1 d_P1 e_P1 f_P1 g_P1 l_P1
      refine (c_szProof _ _ _ _ _ _ xs1 ys1 z1 F1 _ kd1 (L0) _ R1 (by omega) (by omega)).mono ?_
      rintro e w2 ⟨rfl, n2⟩
      have q2 := n2.size
      replace N := N.step n2
      replace R0 := R0.new n2
      replace R1 := R1.new n2
      replace P0 := P0.new n2
      replace P1 := P1.new n2
      rw [E1]
      have ⟨⟨c_P0, d_P0, e_P0, f_P0, g_P0⟩, _, l_P0⟩ := P0.at5
      have ⟨⟨c_P1, d_P1, e_P1, f_P1, g_P1⟩, _, l_P1⟩ := P1.at5
      go_upto_region 8 with fail
      clear c_P0 d_P0 e_P0 f_P0 g_P0 l_P0 c_P1 d_P1 e_P1 f_P1 g_P1 l_P1
      have T3_0 := Lib.hid (fun (wx : World) (nx : New w2 wx) => c_toProof _ _ _ _ _ _ xs0 ys0 z0 F0 _ kd0 wx (R0.new nx) (by omega) (by omega) (by omega) (by omega) hs0)
      have T3_1 := Lib.hid (fun (wx : World) (nx : New w2 wx) => c_toProof _ _ _ _ _ _ xs1 ys1 z1 F1 _ kd1 wx (R1.new nx) (by omega) (by omega) (by omega) (by omega) hs1)
      go_cut [6] (fun sx wx => sx = .bool (pfEq kd0 kd1 xs0 xs1 ys0 ys1 z0 z1 F0 F1) ∧ New w2 wx)
      case first =>
        go_region_held3 (fun w' => w'.cell? ⟨w.heap.size, 0, none⟩ = some (.int .i64 kd0) ∧ w'.cell? ⟨w.heap.size, 1, none⟩ = some (.slice A0 xs0.length a0) ∧ w'.cell? ⟨w.heap.size, 2, none⟩ = some (.slice B0 ys0.length b0) ∧ w'.cell? ⟨w.heap.size, 3, none⟩ = some (.slice C0 z0.length c0) ∧ w'.cell? ⟨w.heap.size, 4, none⟩ = some (.slice D0 F0.length d0) ∧ w'.cell? ⟨w.heap.size + 1, 0, none⟩ = some (.int .i64 kd1) ∧ w'.cell? ⟨w.heap.size + 1, 1, none⟩ = some (.slice A1 xs1.length a1) ∧ w'.cell? ⟨w.heap.size + 1, 2, none⟩ = some (.slice B1 ys1.length b1) ∧ w'.cell? ⟨w.heap.size + 1, 3, none⟩ = some (.slice C1 z1.length c1) ∧ w'.cell? ⟨w.heap.size + 1, 4, none⟩ = some (.slice D1 F1.length d1))
          (exact keepV5 (w1 := w2) (by (repeat' (first | (with_reducible exact New.same _) | (with_reducible assumption) | (with_reducible refine New.box ?_ _) | (with_reducible refine New.drew_ ?_) | (with_reducible refine New.set ?_ ?_ _ _) | (with_reducible refine New.step ?_ (by assumption))))) P0 P1)
          (first | (go_at_call_of 19 (Value.slice A0 xs0.length a0); refine (T3_0.out _ ?_).mono ?_; (· (repeat' (first | (with_reducible exact New.same _) | (with_reducible assumption) | (with_reducible refine New.box ?_ _) | (with_reducible refine New.drew_ ?_) | (with_reducible refine New.set ?_ ?_ _ _) | (with_reducible refine New.step ?_ (by assumption))))); rintro e wa3_0 ⟨gq3_0, tq3_0, pq3_0, vq3_0, sq3_0, rfl, hQ3_0, na3_0⟩) | (go_at_call_of 19 (Value.slice A1 xs1.length a1); refine (T3_1.out _ ?_).mono ?_; (· (repeat' (first | (with_reducible exact New.same _) | (with_reducible assumption) | (with_reducible refine New.box ?_ _) | (with_reducible refine New.drew_ ?_) | (with_reducible refine New.set ?_ ?_ _ _) | (with_reducible refine New.step ?_ (by assumption))))); rintro e wa3_1 ⟨gq3_1, tq3_1, pq3_1, vq3_1, sq3_1, rfl, hQ3_1, na3_1⟩) | (go_at_call 18; refine (c_specSameProof _ _ _ _ _ _ _ _ _ _ _ _ xs0 ys0 xs1 ys1 z0 z1 F0 F1 _ _ kd0 kd1 _ (RdF.new hQ3_0.rd ?_) (RdF.new hQ3_1.rd ?_)).mono ?_; (· (repeat' (first | (with_reducible exact New.same _) | (with_reducible assumption) | (with_reducible refine New.box ?_ _) | (with_reducible refine New.drew_ ?_) | (with_reducible refine New.set ?_ ?_ _ _) | (with_reducible refine New.step ?_ (by assumption))))); (· (repeat' (first | (with_reducible exact New.same _) | (with_reducible assumption) | (with_reducible refine New.box ?_ _) | (with_reducible refine New.drew_ ?_) | (with_reducible refine New.set ?_ ?_ _ _) | (with_reducible refine New.step ?_ (by assumption))))); rintro e wc3 ⟨rfl, nc3⟩))
        all_goals (go_wp2_with fail; go_meet; exact ⟨rfl, by (repeat' (first | (with_reducible exact New.same _) | (with_reducible assumption) | (with_reducible refine New.box ?_ _) | (with_reducible refine New.drew_ ?_) | (with_reducible refine New.set ?_ ?_ _ _) | (with_reducible refine New.step ?_ (by assumption))))⟩)
      case rest =>
        obtain ⟨rfl, M3⟩ := hcut
        clear T3_0 T3_1
        have q3 := M3.size
        replace N := N.step M3
        replace R0 := R0.new M3
        replace R1 := R1.new M3
        replace P0 := P0.new M3
        replace P1 := P1.new M3
        have ⟨⟨c_P0, d_P0, e_P0, f_P0, g_P0⟩, _, l_P0⟩ := P0.at5
        have ⟨⟨c_P1, d_P1, e_P1, f_P1, g_P1⟩, _, l_P1⟩ := P1.at5
        go_wp2_with fail
        clear c_P0 d_P0 e_P0 f_P0 g_P0 l_P0 c_P1 d_P1 e_P1 f_P1 g_P1 l_P1
        refine (c_toProof _ _ _ _ _ _ xs0 ys0 z0 F0 _ kd0 _ R0 (by omega) (by omega) (by omega) (by omega) hs0).mono ?_
        rintro e w4 ⟨g4, t4, p4, v4, s4, rfl, xa, n4⟩
        have q4 := n4.size
        replace N := N.step n4
        replace R0 := R0.new n4
        replace R1 := R1.new n4
        replace P0 := P0.new n4
        replace P1 := P1.new n4
        obtain ⟨A_xa, a_xa, B_xa_, b_xa, C_xa, c_xa_, D_xa, d_xa_, hva, hvb, hvc, hvd⟩ := xa.rd.form
        subst hva hvb hvc hvd
        have m4 : New w4 (w4.alloc (.cells #[.int .i64 kd0, .slice A_xa xs0.length a_xa, .slice B_xa_ ys0.length b_xa, .slice C_xa z0.length c_xa_, .slice D_xa F0.length d_xa_] 41)) := (New.same _).box _
        have B_xa : BoxV (w4.alloc (.cells #[.int .i64 kd0, .slice A_xa xs0.length a_xa, .slice B_xa_ ys0.length b_xa, .slice C_xa z0.length c_xa_, .slice D_xa F0.length d_xa_] 41)) w4.heap.size [.int .i64 kd0, .slice A_xa xs0.length a_xa, .slice B_xa_ ys0.length b_xa, .slice C_xa z0.length c_xa_, .slice D_xa F0.length d_xa_] := .five (by go_simp) (by go_simp) (by go_simp) (by go_simp) (by go_simp) (by go_simp) (by go_simp) (by go_simp) (by go_simp) (by go_simp) (by simp)
        have ⟨⟨c_P0, d_P0, e_P0, f_P0, g_P0⟩, _, l_P0⟩ := P0.at5
        have ⟨⟨c_P1, d_P1, e_P1, f_P1, g_P1⟩, _, l_P1⟩ := P1.at5
        go_wp2_with fail
        clear c_P0 d_P0 e_P0 f_P0 g_P0 l_P0 c_P1 d_P1 e_P1 f_P1 g_P1 l_P1
        have q5 := m4.size
        have qb5 : w4.heap.size < (w4.alloc (.cells #[.int .i64 kd0, .slice A_xa xs0.length a_xa, .slice B_xa_ ys0.length b_xa, .slice C_xa z0.length c_xa_, .slice D_xa F0.length d_xa_] 41)).heap.size := by simp
        replace N := N.step m4
        replace R0 := R0.new m4
        replace R1 := R1.new m4
        replace xa := xa.new m4
        replace P0 := P0.new m4
        replace P1 := P1.new m4
        generalize (w4.alloc (.cells #[.int .i64 kd0, .slice A_xa xs0.length a_xa, .slice B_xa_ ys0.length b_xa, .slice C_xa z0.length c_xa_, .slice D_xa F0.length d_xa_] 41)) = w5 at *
        refine (c_toProof _ _ _ _ _ _ xs1 ys1 z1 F1 _ kd1 _ R1 (by omega) (by omega) (by omega) (by omega) hs1).mono ?_
        rintro e w6 ⟨g6, t6, p6, v6, s6, rfl, xb, n6⟩
        have q6 := n6.size
        replace N := N.step n6
        replace R0 := R0.new n6
        replace R1 := R1.new n6
        replace xa := xa.new n6
        replace P0 := P0.new n6
        replace P1 := P1.new n6
        replace B_xa := B_xa.new n6
        obtain ⟨A_xb, a_xb, B_xb_, b_xb, C_xb, c_xb_, D_xb, d_xb_, hva, hvb, hvc, hvd⟩ := xb.rd.form
        subst hva hvb hvc hvd
        have m6 : New w6 (w6.alloc (.cells #[.int .i64 kd1, .slice A_xb xs1.length a_xb, .slice B_xb_ ys1.length b_xb, .slice C_xb z1.length c_xb_, .slice D_xb F1.length d_xb_] 41)) := (New.same _).box _
        have B_xb : BoxV (w6.alloc (.cells #[.int .i64 kd1, .slice A_xb xs1.length a_xb, .slice B_xb_ ys1.length b_xb, .slice C_xb z1.length c_xb_, .slice D_xb F1.length d_xb_] 41)) w6.heap.size [.int .i64 kd1, .slice A_xb xs1.length a_xb, .slice B_xb_ ys1.length b_xb, .slice C_xb z1.length c_xb_, .slice D_xb F1.length d_xb_] := .five (by go_simp) (by go_simp) (by go_simp) (by go_simp) (by go_simp) (by go_simp) (by go_simp) (by go_simp) (by go_simp) (by go_simp) (by simp)
        have ⟨⟨c_P0, d_P0, e_P0, f_P0, g_P0⟩, _, l_P0⟩ := P0.at5
        have ⟨⟨c_P1, d_P1, e_P1, f_P1, g_P1⟩, _, l_P1⟩ := P1.at5
        have ⟨⟨c_B_xa, d_B_xa, e_B_xa, f_B_xa, g_B_xa⟩, _, l_B_xa⟩ := B_xa.at5
        go_wp2_with fail
        clear c_P0 d_P0 e_P0 f_P0 g_P0 l_P0 c_P1 d_P1 e_P1 f_P1 g_P1 l_P1 c_B_xa d_B_xa e_B_xa f_B_xa g_B_xa l_B_xa
        have q7 := m6.size
        have qb7 : w6.heap.size < (w6.alloc (.cells #[.int .i64 kd1, .slice A_xb xs1.length a_xb, .slice B_xb_ ys1.length b_xb, .slice C_xb z1.length c_xb_, .slice D_xb F1.length d_xb_] 41)).heap.size := by simp
        replace N := N.step m6
        replace R0 := R0.new m6
        replace R1 := R1.new m6
        replace xa := xa.new m6
        replace xb := xb.new m6
        replace P0 := P0.new m6
        replace P1 := P1.new m6
        replace B_xa := B_xa.new m6
        generalize (w6.alloc (.cells #[.int .i64 kd1, .slice A_xb xs1.length a_xb, .slice B_xb_ ys1.length b_xb, .slice C_xb z1.length c_xb_, .slice D_xb F1.length d_xb_] 41)) = w7 at *
        refine (c_implSameProof _ _ _ _ _ _ _ _ _ _ _ _ xs0 ys0 xs1 ys1 z0 z1 F0 F1 _ _ kd0 kd1 _ xa.rd xb.rd).mono ?_
        rintro e w8 ⟨rfl, n8⟩
        have q8 := n8.size
        replace N := N.step n8
        replace R0 := R0.new n8
        replace R1 := R1.new n8
        replace xa := xa.new n8
        replace xb := xb.new n8
        replace P0 := P0.new n8
        replace P1 := P1.new n8
        replace B_xa := B_xa.new n8
        replace B_xb := B_xb.new n8
        have ⟨⟨c_P0, d_P0, e_P0, f_P0, g_P0⟩, _, l_P0⟩ := P0.at5
        have ⟨⟨c_P1, d_P1, e_P1, f_P1, g_P1⟩, _, l_P1⟩ := P1.at5
        have ⟨⟨c_B_xa, d_B_xa, e_B_xa, f_B_xa, g_B_xa⟩, _, l_B_xa⟩ := B_xa.at5
        have ⟨⟨c_B_xb, d_B_xb, e_B_xb, f_B_xb, g_B_xb⟩, _, l_B_xb⟩ := B_xb.at5
        go_upto_region 14 with fail
        clear c_P0 d_P0 e_P0 f_P0 g_P0 l_P0 c_P1 d_P1 e_P1 f_P1 g_P1 l_P1 c_B_xa d_B_xa e_B_xa f_B_xa g_B_xa l_B_xa c_B_xb d_B_xb e_B_xb f_B_xb g_B_xb l_B_xb
        have TT9 := Lib.hid (fun (wx : World) (nx : New w8 wx) => c_toProof _ _ _ _ _ _ xs0 ys0 z0 F0 _ kd0 wx (R0.new nx) (by omega) (by omega) (by omega) (by omega) hs0)
        have XX9 := Lib.hid xa
        go_region_held3 (fun w' => w'.cell? ⟨w4.heap.size, 0, none⟩ = some (.int .i64 kd0) ∧ w'.cell? ⟨w4.heap.size, 1, none⟩ = some (.slice A_xa xs0.length a_xa) ∧ w'.cell? ⟨w4.heap.size, 2, none⟩ = some (.slice B_xa_ ys0.length b_xa) ∧ w'.cell? ⟨w4.heap.size, 3, none⟩ = some (.slice C_xa z0.length c_xa_) ∧ w'.cell? ⟨w4.heap.size, 4, none⟩ = some (.slice D_xa F0.length d_xa_) ∧ w'.cell? ⟨w.heap.size, 0, none⟩ = some (.int .i64 kd0) ∧ w'.cell? ⟨w.heap.size, 1, none⟩ = some (.slice A0 xs0.length a0) ∧ w'.cell? ⟨w.heap.size, 2, none⟩ = some (.slice B0 ys0.length b0) ∧ w'.cell? ⟨w.heap.size, 3, none⟩ = some (.slice C0 z0.length c0) ∧ w'.cell? ⟨w.heap.size, 4, none⟩ = some (.slice D0 F0.length d0))
          (exact keepV5 (w1 := w8) (by (repeat' (first | (with_reducible exact New.same _) | (with_reducible assumption) | (with_reducible refine New.box ?_ _) | (with_reducible refine New.drew_ ?_) | (with_reducible refine New.set ?_ ?_ _ _) | (with_reducible refine New.step ?_ (by assumption))))) B_xa P0)
          (first | (go_at_call 21; refine (c_eqProof_self _ _ _ _ _ _ _ _ _ _ _ _ xs0 ys0 z0 F0 _ _ kd0 _ ((XX9.out.new ((New.same _).drew_)).rd.new na9) hQ9.rd).mono ?_; rintro e wb9 ⟨rfl, nb9⟩) | (go_at_call 19; refine (TT9.out _ ?_).mono ?_; (· (repeat' (first | (with_reducible exact New.same _) | (with_reducible assumption) | (with_reducible refine New.box ?_ _) | (with_reducible refine New.drew_ ?_) | (with_reducible refine New.set ?_ ?_ _ _) | (with_reducible refine New.step ?_ (by assumption))))); rintro e wa9 ⟨gq9, tq9, pq9, vq9, sq9, rfl, hQ9, na9⟩))
        have M9 : New w8 wb9 := by (repeat' (first | (with_reducible exact New.same _) | (with_reducible assumption) | (with_reducible refine New.box ?_ _) | (with_reducible refine New.drew_ ?_) | (with_reducible refine New.set ?_ ?_ _ _) | (with_reducible refine New.step ?_ (by assumption))))
        clear TT9 XX9 hQ9
        have q9 := M9.size
        replace N := N.step M9
        replace R0 := R0.new M9
        replace R1 := R1.new M9
        replace xa := xa.new M9
        replace xb := xb.new M9
        replace P0 := P0.new M9
        replace P1 := P1.new M9
        replace B_xa := B_xa.new M9
        replace B_xb := B_xb.new M9
        have ⟨⟨c_P0, d_P0, e_P0, f_P0, g_P0⟩, _, l_P0⟩ := P0.at5
        have ⟨⟨c_P1, d_P1, e_P1, f_P1, g_P1⟩, _, l_P1⟩ := P1.at5
        have ⟨⟨c_B_xa, d_B_xa, e_B_xa, f_B_xa, g_B_xa⟩, _, l_B_xa⟩ := B_xa.at5
        have ⟨⟨c_B_xb, d_B_xb, e_B_xb, f_B_xb, g_B_xb⟩, _, l_B_xb⟩ := B_xb.at5
        go_upto_region 16 with fail
        clear c_P0 d_P0 e_P0 f_P0 g_P0 l_P0 c_P1 d_P1 e_P1 f_P1 g_P1 l_P1 c_B_xa d_B_xa e_B_xa f_B_xa g_B_xa l_B_xa c_B_xb d_B_xb e_B_xb f_B_xb g_B_xb l_B_xb
        have TT10 := Lib.hid (fun (wx : World) (nx : New wb9 wx) => c_toProof _ _ _ _ _ _ xs1 ys1 z1 F1 _ kd1 wx (R1.new nx) (by omega) (by omega) (by omega) (by omega) hs1)
        have XX10 := Lib.hid xb
        go_region_held3 (fun w' => w'.cell? ⟨w6.heap.size, 0, none⟩ = some (.int .i64 kd1) ∧ w'.cell? ⟨w6.heap.size, 1, none⟩ = some (.slice A_xb xs1.length a_xb) ∧ w'.cell? ⟨w6.heap.size, 2, none⟩ = some (.slice B_xb_ ys1.length b_xb) ∧ w'.cell? ⟨w6.heap.size, 3, none⟩ = some (.slice C_xb z1.length c_xb_) ∧ w'.cell? ⟨w6.heap.size, 4, none⟩ = some (.slice D_xb F1.length d_xb_) ∧ w'.cell? ⟨w.heap.size + 1, 0, none⟩ = some (.int .i64 kd1) ∧ w'.cell? ⟨w.heap.size + 1, 1, none⟩ = some (.slice A1 xs1.length a1) ∧ w'.cell? ⟨w.heap.size + 1, 2, none⟩ = some (.slice B1 ys1.length b1) ∧ w'.cell? ⟨w.heap.size + 1, 3, none⟩ = some (.slice C1 z1.length c1) ∧ w'.cell? ⟨w.heap.size + 1, 4, none⟩ = some (.slice D1 F1.length d1))
          (exact keepV5 (w1 := wb9) (by (repeat' (first | (with_reducible exact New.same _) | (with_reducible assumption) | (with_reducible refine New.box ?_ _) | (with_reducible refine New.drew_ ?_) | (with_reducible refine New.set ?_ ?_ _ _) | (with_reducible refine New.step ?_ (by assumption))))) B_xb P1)
          (first | (go_at_call 21; refine (c_eqProof_self _ _ _ _ _ _ _ _ _ _ _ _ xs1 ys1 z1 F1 _ _ kd1 _ ((XX10.out.new ((New.same _).drew_)).rd.new na10) hQ10.rd).mono ?_; rintro e wb10 ⟨rfl, nb10⟩) | (go_at_call 19; refine (TT10.out _ ?_).mono ?_; (· (repeat' (first | (with_reducible exact New.same _) | (with_reducible assumption) | (with_reducible refine New.box ?_ _) | (with_reducible refine New.drew_ ?_) | (with_reducible refine New.set ?_ ?_ _ _) | (with_reducible refine New.step ?_ (by assumption))))); rintro e wa10 ⟨gq10, tq10, pq10, vq10, sq10, rfl, hQ10, na10⟩))
        have M10 : New wb9 wb10 := by (repeat' (first | (with_reducible exact New.same _) | (with_reducible assumption) | (with_reducible refine New.box ?_ _) | (with_reducible refine New.drew_ ?_) | (with_reducible refine New.set ?_ ?_ _ _) | (with_reducible refine New.step ?_ (by assumption))))
        clear TT10 XX10 hQ10
        have q10 := M10.size
        replace N := N.step M10
        replace R0 := R0.new M10
        replace R1 := R1.new M10
        replace xa := xa.new M10
        replace xb := xb.new M10
        replace P0 := P0.new M10
        replace P1 := P1.new M10
        replace B_xa := B_xa.new M10
        replace B_xb := B_xb.new M10
        have ⟨⟨c_P0, d_P0, e_P0, f_P0, g_P0⟩, _, l_P0⟩ := P0.at5
        have ⟨⟨c_P1, d_P1, e_P1, f_P1, g_P1⟩, _, l_P1⟩ := P1.at5
        have ⟨⟨c_B_xa, d_B_xa, e_B_xa, f_B_xa, g_B_xa⟩, _, l_B_xa⟩ := B_xa.at5
        have ⟨⟨c_B_xb, d_B_xb, e_B_xb, f_B_xb, g_B_xb⟩, _, l_B_xb⟩ := B_xb.at5
        go_wp2
        go_ret
        exact ⟨rfl, N⟩
    · have EE1 : L1 = -1 := by rw [← E1]; exact szPf_lo _ _ _ _ _ (by rw [E1]; omega)
      subst EE1
      go_enter Try.func5, Try.ntmps5
      go_wp2_with fail
      have q0 : w.heap.size + 2 ≤ ((w.alloc (.cells #[.int .i64 kd0, .slice A0 xs0.length a0, .slice B0 ys0.length b0, .slice C0 z0.length c0, .slice D0 F0.length d0] 36)).alloc (.cells #[.int .i64 kd1, .slice A1 xs1.length a1, .slice B1 ys1.length b1, .slice C1 z1.length c1, .slice D1 F1.length d1] 36)).heap.size := by simp
      generalize ((w.alloc (.cells #[.int .i64 kd0, .slice A0 xs0.length a0, .slice B0 ys0.length b0, .slice C0 z0.length c0, .slice D0 F0.length d0] 36)).alloc (.cells #[.int .i64 kd1, .slice A1 xs1.length a1, .slice B1 ys1.length b1, .slice C1 z1.length c1, .slice D1 F1.length d1] 36)) = W0 at *
      replace R0 := R0.new N
      replace R1 := R1.new N
      refine (c_szProof _ _ _ _ _ _ xs0 ys0 z0 F0 _ kd0 (1048576) _ R0 (by omega) (by omega)).mono ?_
      rintro e w11 ⟨rfl, n11⟩
      have q11 := n11.size
      replace N := N.step n11
      replace R0 := R0.new n11
      replace R1 := R1.new n11
      replace P0 := P0.new n11
      replace P1 := P1.new n11
      rw [E0]
      have ⟨⟨c_P0, d_P0, e_P0, f_P0, g_P0⟩, _, l_P0⟩ := P0.at5
      have ⟨⟨c_P1, d_P1, e_P1, f_P1, g_P1⟩, _, l_P1⟩ := P1.at5
      go_wp2_with fail
      clear c_P0 d_P0 e_P0 f_P0 g_P0 l_P0 c_P1 d_P1 e_P1 f_P1 g_P1 l_P1
      refine (c_szProof _ _ _ _ _ _ xs1 ys1 z1 F1 _ kd1 (L0) _ R1 (by omega) (by omega)).mono ?_
      rintro e w12 ⟨rfl, n12⟩
      have q12 := n12.size
      replace N := N.step n12
      replace R0 := R0.new n12
      replace R1 := R1.new n12
      replace P0 := P0.new n12
      replace P1 := P1.new n12
      rw [E1]
      have ⟨⟨c_P0, d_P0, e_P0, f_P0, g_P0⟩, _, l_P0⟩ := P0.at5
      have ⟨⟨c_P1, d_P1, e_P1, f_P1, g_P1⟩, _, l_P1⟩ := P1.at5
      go_wp2
      go_ret
      exact ⟨rfl, N⟩
  · have EE0 : L0 = -1 := by rw [← E0]; exact szPf_lo _ _ _ _ _ (by rw [E0]; omega)
    subst EE0
    go_enter Try.func5, Try.ntmps5
    go_wp2_with fail
    have q0 : w.heap.size + 2 ≤ ((w.alloc (.cells #[.int .i64 kd0, .slice A0 xs0.length a0, .slice B0 ys0.length b0, .slice C0 z0.length c0, .slice D0 F0.length d0] 36)).alloc (.cells #[.int .i64 kd1, .slice A1 xs1.length a1, .slice B1 ys1.length b1, .slice C1 z1.length c1, .slice D1 F1.length d1] 36)).heap.size := by simp
    generalize ((w.alloc (.cells #[.int .i64 kd0, .slice A0 xs0.length a0, .slice B0 ys0.length b0, .slice C0 z0.length c0, .slice D0 F0.length d0] 36)).alloc (.cells #[.int .i64 kd1, .slice A1 xs1.length a1, .slice B1 ys1.length b1, .slice C1 z1.length c1, .slice D1 F1.length d1] 36)) = W0 at *
    replace R0 := R0.new N
    replace R1 := R1.new N
    refine (c_szProof _ _ _ _ _ _ xs0 ys0 z0 F0 _ kd0 (1048576) _ R0 (by omega) (by omega)).mono ?_
    rintro e w13 ⟨rfl, n13⟩
    have q13 := n13.size
    replace N := N.step n13
    replace R0 := R0.new n13
    replace R1 := R1.new n13
    replace P0 := P0.new n13
    replace P1 := P1.new n13
    rw [E0]
    have ⟨⟨c_P0, d_P0, e_P0, f_P0, g_P0⟩, _, l_P0⟩ := P0.at5
    have ⟨⟨c_P1, d_P1, e_P1, f_P1, g_P1⟩, _, l_P1⟩ := P1.at5
    go_wp2
    go_ret
    exact ⟨rfl, N⟩
set_option maxHeartbeats 4000000 in
set_option maxRecDepth 100000 in
theorem lifted (os : Os) (started : os.Started) (H : Type) (enc : TypeId × Value → H) :
    ReturnsInHanded {} Try.checked os 5 .any (Rows.fnExactSameProofSpec.pre6 enc Try.prog Try.f5 Rows.fnExactSameProofRow.domain false) (Rows.fnExactSameProofSpec.post enc Try.prog Try.f5 false true false false) := by
  refine returnsInHanded_of_change (C := Try.checked) prog_own started (by kernel_rfl) Try.func5
    (ChangeSpec.witness6 (enc := enc) (C := Try.checked) false ⟨#[], #[.agg #[.int .i64 0, .slice none 0 0, .slice none 0 0, .slice none 0 0, .slice none 0 0], .agg #[.int .i64 0, .slice none 0 0, .slice none 0 0, .slice none 0 0, .slice none 0 0]], []⟩ 8 (by kernel_rfl) (by kernel_rfl) (by kernel_rfl) (by kernel_rfl)) ?_
  intro W base args ds gs before hval0 hW _ _
  have hval : ∀ (j : Nat) t v, Try.f5.params[j]? = some t → args[j]? = some v → Value.okWide Try.prog W .any base t v := hval0
  have hW' := hW
  obtain ⟨p, q, hA0, hV, rfl, _, _⟩ := hW
  have hA : DataW.TrodAll enc Try.prog W 0 (fun _ => true) true Try.f5.params.toList args.toList ds p := hA0
  rw [Try.params5] at hA hval
  have hlt : ∀ x ∈ p, x.block < W.heap.size := fun x hx => hW'.lt x (List.mem_append_left _ hx)
  obtain ⟨v0, vs0, d0, ds0, p0, q0, hargs, rfl, rfl, h0, t0⟩ := trodAll_cons hA
  obtain ⟨v1, vs1, d1, ds1, p1, q1, rfl, rfl, rfl, h1, t1⟩ := trodAll_cons t0
  obtain ⟨rfl, rfl, rfl⟩ := trodAll_nil t1
  obtain rfl : args = #[v0, v1] := by cases args; simp_all
  have hlt0 : ∀ x ∈ p0, x.block < W.heap.size := fun x hx => hlt x (List.mem_append_left _ hx)
  have hlt1 : ∀ x ∈ p1, x.block < W.heap.size := fun x hx => hlt x (List.mem_append_right _ (List.mem_append_left _ hx))
  obtain ⟨kd0, sq0, ot0, pt0, fl0, xs0, ys0, z0, F0, sv0, rfl, rf0⟩ := open_proof Try.underlying36 (by kernel_rfl) rfl rfl rfl rfl rfl rfl rfl rfl rfl rfl Try.underlying33 Try.underlying89 (by kernel_rfl) rfl rfl rfl rfl (by kernel_rfl) Try.underlying75 rfl rfl rfl rfl Try.underlying2 (by kernel_rfl) Try.underlying22 Try.underlying34 (by kernel_rfl) (by kernel_rfl) (by kernel_rfl) (hval 0 36 v0 rfl rfl) h0 hlt0
  obtain ⟨kd1, sq1, ot1, pt1, fl1, xs1, ys1, z1, F1, sv1, rfl, rf1⟩ := open_proof Try.underlying36 (by kernel_rfl) rfl rfl rfl rfl rfl rfl rfl rfl rfl rfl Try.underlying33 Try.underlying89 (by kernel_rfl) rfl rfl rfl rfl (by kernel_rfl) Try.underlying75 rfl rfl rfl rfl Try.underlying2 (by kernel_rfl) Try.underlying22 Try.underlying34 (by kernel_rfl) (by kernel_rfl) (by kernel_rfl) (hval 1 36 v1 rfl rfl) h1 hlt1
  refine (walk W kd0 sq0 ot0 pt0 fl0 xs0 ys0 z0 F0 sv0 rf0 kd1 sq1 ot1 pt1 fl1 xs1 ys1 z1 F1 sv1 rf1).mono fun e W' ⟨he, hb⟩ => ⟨_, he, ?_⟩
  exact law_post prog_laid (by kernel_rfl) rfl Try.underlying4 rfl (by intro ds h; rw [Try.params5] at h; match ds, h with | [_, _], _ => exact ⟨rfl, rfl, rfl⟩) hW' hb

theorem over : Rows.fnExactSameProofRow.holds Try.pinned (OpenSpec.ofChange Rows.fnExactSameProofSpec) :=
  OpenClaim.holds_of_wide 5 Try.f5 rfl rfl rfl rfl rfl rfl rfl ⟨rfl, rfl, rfl, rfl, rfl⟩ rfl rfl rfl rfl rfl (by kernel_rfl) Try.func5 (by kernel_rfl)
    (of_decide_eq_true (by kernel_rfl)) (by unfold Func.isWrapper; first | (rw [if_pos (by decide +kernel)]; kernel_rfl) | (rw [if_neg (by decide +kernel)]; exact ⟨rfl, rfl⟩))
    (fun os started H enc _ => lifted os started H enc)

theorem proved : Rows.FnExactSameProofSaid := over
end fnExactSameProof
#print axioms fnExactSameProof.proved

end Go.Proofs.Ythafdlfhkcbjhaa
