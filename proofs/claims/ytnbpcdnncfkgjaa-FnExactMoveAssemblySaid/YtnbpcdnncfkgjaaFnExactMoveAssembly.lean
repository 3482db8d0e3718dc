/- The law FnExactMoveAssembly returns true for every input that can be read as data. No condition. -/
import Derived.Test.YtnbpcdnncfkgjaaMoveAsm
import Derived.Test.YtnbpcdnncfkgjaaSameAsm
namespace Go.Proofs.Ytnbpcdnncfkgjaa
open Go.RowKit Go.Deep
theorem BoxV.alloc1 (w : World) (v : Value) (t : TypeId) : BoxV (w.alloc (.cells #[v] t)) w.heap.size [v] := .one (by go_simp) (by go_simp) (by simp)
theorem keep12 {w1 w2 : World} {b b' : Nat} {x y z : Value} (n : New w1 w2) (h0 : BoxV w1 b [x]) (h1 : BoxV w1 b' [y, z]) : w2.cell? ⟨b, 0, none⟩ = some x ∧ w2.cell? ⟨b', 0, none⟩ = some y ∧ w2.cell? ⟨b', 1, none⟩ = some z :=
  ⟨(h0.new n).at1.1, (h1.new n).at2.1.1, (h1.new n).at2.1.2⟩
open Go.ChangeShapes Go.WideShapes Go.ChangeAt Go.RowKit
open Go.ChangeMaps (open_string)
namespace fnExactMoveAssembly
set_option linter.unusedVariables false
set_option maxRecDepth 100000 in
set_option maxHeartbeats 4000000 in
theorem walk (w : World) (v0 : Value) (z0 : List ((Int × Int) × Int)) (r0 : Rd w 0 w.heap.size 3 v0 z0.length (z0.flatMap plCells)) (x1 y1 : Int) (bx1 : -9223372036854775808 ≤ x1 ∧ x1 ≤ 9223372036854775807) (by1 : -9223372036854775808 ≤ y1 ∧ y1 ≤ 9223372036854775807) : Calls Try.prog 6 #[.agg #[v0], .agg #[.int .i64 x1, .int .i64 y1]] w fun e w' => e = .returned (.bool true) ∧ New w w' := by
  have R0 := r0
  obtain ⟨_, hm0, _, A0, c0, rfl, _⟩ := r0
  have N : New w ((w.alloc (.cells #[.slice A0 z0.length c0] 24)).alloc (.cells #[.int .i64 x1, .int .i64 y1] 43)) := (((New.same w).box _).box _)
  have P0 : BoxV ((w.alloc (.cells #[.slice A0 z0.length c0] 24)).alloc (.cells #[.int .i64 x1, .int .i64 y1] 43)) w.heap.size [.slice A0 z0.length c0] := .one (by go_simp) (by go_simp) (by simp <;> omega)
  have P1 : BoxV ((w.alloc (.cells #[.slice A0 z0.length c0] 24)).alloc (.cells #[.int .i64 x1, .int .i64 y1] 43)) (w.heap.size + 1) [.int .i64 x1, .int .i64 y1] := .two (by go_simp) (by go_simp) (by go_simp) (by go_simp) (by simp <;> omega)
  by_cases hl0 : z0.length ≤ 1048576
  · have E0 : szL (1048576) z0.length = 1048576 - z0.length := szL_yes (by omega)
    have el0 := eqL_self z0
    have elr := eqL_self (mvF z0 x1 y1)
    have hln := mvF_len z0 x1 y1
    have eC : (mvC z0 x1 y1 != mvC z0 x1 y1) = false := by simp
    go_enter Try.func6, Try.ntmps6
    go_wp2_with fail
    have q0 : w.heap.size + 2 ≤ ((w.alloc (.cells #[.slice A0 z0.length c0] 24)).alloc (.cells #[.int .i64 x1, .int .i64 y1] 43)).heap.size := by simp
    generalize ((w.alloc (.cells #[.slice A0 z0.length c0] 24)).alloc (.cells #[.int .i64 x1, .int .i64 y1] 43)) = W0 at *
    replace R0 := R0.new N
    refine (c_szAssembly A0 _ c0 (1048576) _ hm0 (by omega) (by omega)).mono ?_
    rintro e w1 ⟨rfl, n1⟩
    have q1 := n1.size
    replace N := N.step n1
    replace R0 := R0.new n1
    replace P0 := P0.new n1
    replace P1 := P1.new n1
    rw [E0]
    have ⟨c_P0, _, l_P0⟩ := P0.at1
    have ⟨⟨c_P1, d_P1⟩, _, l_P1⟩ := P1.at2
    go_upto_region 5 with fail
    clear c_P0 l_P0 c_P1 d_P1 l_P1
    have T2 := Lib.hid (fun (wx : World) (nx : New w1 wx) => c_toAssembly _ _ _ z0 wx (R0.new nx) (by omega))
    go_cut [6, 7] (fun sa sb wx2 => ∃ (g : Nat) (u : Value) (lo hi : Nat), sa = .pointer (some ⟨g, 0, none⟩) ∧ sb = .int .i64 ((mvC z0 x1 y1)) ∧ BoxV wx2 g [u] ∧ Own wx2 lo hi 71 3 u ((mvF z0 x1 y1)).length (((mvF z0 x1 y1)).flatMap plCells) ∧ (w1.heap.size ≤ lo ∧ w1.heap.size ≤ g ∧ (g < lo ∨ hi ≤ g)) ∧ New w1 wx2)
    case first =>
      go_region_held3 (fun w' => w'.cell? ⟨w.heap.size, 0, none⟩ = some (.slice A0 z0.length c0) ∧ w'.cell? ⟨w.heap.size + 1, 0, none⟩ = some (.int .i64 x1) ∧ w'.cell? ⟨w.heap.size + 1, 1, none⟩ = some (.int .i64 y1))
        (exact keep12 (w1 := w1) (by (repeat' (first | (with_reducible exact New.same _) | (with_reducible assumption) | (with_reducible refine New.box ?_ _) | (with_reducible refine New.drew_ ?_) | (with_reducible refine New.set ?_ ?_ _ _) | (with_reducible refine New.step ?_ (by assumption))))) P0 P1)
        (first | (go_at_call 24; refine (c_toPoint _ _ _).mono ?_; rintro e wb ⟨rfl, nb⟩; have sb := (show New w1 wb from by (repeat' (first | (with_reducible exact New.same _) | (with_reducible assumption) | (with_reducible refine New.box ?_ _) | (with_reducible refine New.drew_ ?_) | (with_reducible refine New.set ?_ ?_ _ _) | (with_reducible refine New.step ?_ (by assumption))))).size; try (first | (have hz := BoxV.new (by assumption : BoxV _ _ [.slice none 0 0]) nb) | (have hz : BoxV _ w1.heap.size [.slice none 0 0] := (BoxV.alloc1 w1.drew _ _).new nb) | (have hz := (BoxV.alloc1 _ _ _).new nb)); try (obtain ⟨ck, fk, lk⟩ := hz.at1)) | (go_at_call 11; refine (T2.out _ ?_).mono ?_; (· (repeat' (first | (with_reducible exact New.same _) | (with_reducible assumption) | (with_reducible refine New.box ?_ _) | (with_reducible refine New.drew_ ?_) | (with_reducible refine New.set ?_ ?_ _ _) | (with_reducible refine New.step ?_ (by assumption))))); rintro e wa ⟨ua, rfl, hQ, na⟩; have sa := (show New w1 wa from by (repeat' (first | (with_reducible exact New.same _) | (with_reducible assumption) | (with_reducible refine New.box ?_ _) | (with_reducible refine New.drew_ ?_) | (with_reducible refine New.set ?_ ?_ _ _) | (with_reducible refine New.step ?_ (by assumption))))).size; try (first | (have hz := BoxV.new (by assumption : BoxV _ _ [.slice none 0 0]) na) | (have hz : BoxV _ w1.heap.size [.slice none 0 0] := (BoxV.alloc1 w1.drew _ _).new na) | (have hz := (BoxV.alloc1 _ _ _).new na)); try (obtain ⟨ck, fk, lk⟩ := hz.at1)) | (go_at_call 23; refine (c_specMoveAssembly _ _ _ z0 x1 y1 _ (Own.new hQ ?_)).mono ?_; (· (repeat' (first | (with_reducible exact New.same _) | (with_reducible assumption) | (with_reducible refine New.box ?_ _) | (with_reducible refine New.drew_ ?_) | (with_reducible refine New.set ?_ ?_ _ _) | (with_reducible refine New.step ?_ (by assumption))))); rintro e wc ⟨uc, rfl, hU, nc⟩; have sc := (show New w1 wc from by (repeat' (first | (with_reducible exact New.same _) | (with_reducible assumption) | (with_reducible refine New.box ?_ _) | (with_reducible refine New.drew_ ?_) | (with_reducible refine New.set ?_ ?_ _ _) | (with_reducible refine New.step ?_ (by assumption))))).size; obtain ⟨Ac, cc, rfl⟩ := own_slice3 hU.1; try (first | (have hz := BoxV.new (by assumption : BoxV _ _ [.slice none 0 0]) nc) | (have hz : BoxV _ w1.heap.size [.slice none 0 0] := (BoxV.alloc1 w1.drew _ _).new nc) | (have hz := (BoxV.alloc1 _ _ _).new nc)); try (obtain ⟨ck, fk, lk⟩ := hz.at1)))
      all_goals (go_wp2_with fail; go_meet)
      all_goals (first | exact ⟨_, _, _, _, rfl, rfl, BoxV.alloc1 _ _ _, hU.new ((New.same _).box _), ⟨by (try simp) <;> omega, by (try simp) <;> omega, .inr (Nat.le_refl _)⟩, by (repeat' (first | (with_reducible exact New.same _) | (with_reducible assumption) | (with_reducible refine New.box ?_ _) | (with_reducible refine New.drew_ ?_) | (with_reducible refine New.set ?_ ?_ _ _) | (with_reducible refine New.step ?_ (by assumption))))⟩ | exact ⟨_, _, _, _, rfl, rfl, hz.put1 _, hU.fr ((Fr.refl _ _ wc).setCell (Nat.le_refl _) (Nat.lt_succ_self _) _) (.inr (by (try simp) <;> omega)), ⟨by (try simp) <;> omega, by (try simp) <;> omega, by (try simp) <;> omega⟩, by (repeat' (first | (with_reducible exact New.same _) | (with_reducible assumption) | (with_reducible refine New.box ?_ _) | (with_reducible refine New.drew_ ?_) | (with_reducible refine New.set ?_ ?_ _ _) | (with_reducible refine New.step ?_ (by assumption))))⟩)
    case rest =>
      obtain ⟨g2, u2, lo2, hi2, rfl, rfl, G1, ws, ⟨b2a, b2b, b2c⟩, n2⟩ := hcut
      obtain ⟨A_ws, c_ws_, rfl⟩ := own_slice3 ws.1
      have l2 := ws.2.1
      have l2b := G1.lt
      clear T2
      have q2 := n2.size
      replace N := N.step n2
      replace R0 := R0.new n2
      replace P0 := P0.new n2
      replace P1 := P1.new n2
      have ⟨c_P0, _, l_P0⟩ := P0.at1
      have ⟨⟨c_P1, d_P1⟩, _, l_P1⟩ := P1.at2
      have ⟨c_G1, _, l_G1⟩ := G1.at1
      go_wp2_with fail
      clear c_P0 l_P0 c_P1 d_P1 l_P1 c_G1 l_G1
      refine (c_toAssembly _ _ _ z0 _ R0 (by omega)).mono ?_
      rintro e w3 ⟨v3, rfl, xb, n3⟩
      have q3 := n3.size
      replace N := N.step n3
      replace R0 := R0.new n3
      replace ws := ws.new n3
      replace P0 := P0.new n3
      replace P1 := P1.new n3
      replace G1 := G1.new n3
      have ⟨_, _, _, A_xb, c_xb_, hv3, _⟩ := xb.rd
      subst hv3
      have m3 : New w3 (w3.alloc (.cells #[.slice A_xb z0.length c_xb_] 29)) := (New.same _).box _
      have B_xb : BoxV (w3.alloc (.cells #[.slice A_xb z0.length c_xb_] 29)) w3.heap.size [.slice A_xb z0.length c_xb_] := .one (by go_simp) (by go_simp) (by simp <;> omega)
      have ⟨c_P0, _, l_P0⟩ := P0.at1
      have ⟨⟨c_P1, d_P1⟩, _, l_P1⟩ := P1.at2
      have ⟨c_G1, _, l_G1⟩ := G1.at1
      go_wp2_with fail
      clear c_P0 l_P0 c_P1 d_P1 l_P1 c_G1 l_G1
      have q4 := m3.size
      have qb4 : w3.heap.size < (w3.alloc (.cells #[.slice A_xb z0.length c_xb_] 29)).heap.size := by simp
      replace N := N.step m3
      replace R0 := R0.new m3
      replace ws := ws.new m3
      replace xb := xb.new m3
      replace P0 := P0.new m3
      replace P1 := P1.new m3
      replace G1 := G1.new m3
      generalize (w3.alloc (.cells #[.slice A_xb z0.length c_xb_] 29)) = w4 at *
      have ⟨c_P0, _, l_P0⟩ := P0.at1
      have ⟨⟨c_P1, d_P1⟩, _, l_P1⟩ := P1.at2
      have ⟨c_G1, _, l_G1⟩ := G1.at1
      have ⟨c_B_xb, _, l_B_xb⟩ := B_xb.at1
      go_upto_region 7 with fail
      clear c_P0 l_P0 c_P1 d_P1 l_P1 c_G1 l_G1 c_B_xb l_B_xb
      have X5 := Lib.hid xb
      go_cut [9, 10] (fun sa sb wx5 => ∃ (g : Nat) (u : Value) (lo hi : Nat), sa = .pointer (some ⟨g, 0, none⟩) ∧ sb = .int .i64 ((mvC z0 x1 y1)) ∧ BoxV wx5 g [u] ∧ Own wx5 lo hi 71 3 u ((mvF z0 x1 y1)).length (((mvF z0 x1 y1)).flatMap plCells) ∧ (w4.heap.size ≤ lo ∧ w4.heap.size ≤ g ∧ (g < lo ∨ hi ≤ g)) ∧ New w4 wx5)
      case first =>
        go_region_held3 (fun w' => w'.cell? ⟨w3.heap.size, 0, none⟩ = some (.slice A_xb z0.length c_xb_) ∧ w'.cell? ⟨w.heap.size + 1, 0, none⟩ = some (.int .i64 x1) ∧ w'.cell? ⟨w.heap.size + 1, 1, none⟩ = some (.int .i64 y1))
          (exact keep12 (w1 := w4) (by (repeat' (first | (with_reducible exact New.same _) | (with_reducible assumption) | (with_reducible refine New.box ?_ _) | (with_reducible refine New.drew_ ?_) | (with_reducible refine New.set ?_ ?_ _ _) | (with_reducible refine New.step ?_ (by assumption))))) B_xb P1)
          (first | (go_at_call 24; refine (c_toPoint _ _ _).mono ?_; rintro e wb ⟨rfl, nb⟩; have sb := (show New w4 wb from by (repeat' (first | (with_reducible exact New.same _) | (with_reducible assumption) | (with_reducible refine New.box ?_ _) | (with_reducible refine New.drew_ ?_) | (with_reducible refine New.set ?_ ?_ _ _) | (with_reducible refine New.step ?_ (by assumption))))).size; try (first | (have hz := BoxV.new (by assumption : BoxV _ _ [.slice none 0 0]) nb) | (have hz : BoxV _ w4.heap.size [.slice none 0 0] := (BoxV.alloc1 w4.drew _ _).new nb) | (have hz := (BoxV.alloc1 _ _ _).new nb)); try (obtain ⟨ck, fk, lk⟩ := hz.at1)) | (go_at_call 25; refine (c_implMoveAssembly _ _ _ z0 x1 y1 _ (Own.new X5.out ?_)).mono ?_; (· (repeat' (first | (with_reducible exact New.same _) | (with_reducible assumption) | (with_reducible refine New.box ?_ _) | (with_reducible refine New.drew_ ?_) | (with_reducible refine New.set ?_ ?_ _ _) | (with_reducible refine New.step ?_ (by assumption))))); rintro e wc ⟨uc, rfl, hU, nc⟩; have sc := (show New w4 wc from by (repeat' (first | (with_reducible exact New.same _) | (with_reducible assumption) | (with_reducible refine New.box ?_ _) | (with_reducible refine New.drew_ ?_) | (with_reducible refine New.set ?_ ?_ _ _) | (with_reducible refine New.step ?_ (by assumption))))).size; obtain ⟨Ac, cc, rfl⟩ := own_slice3 hU.1; try (first | (have hz := BoxV.new (by assumption : BoxV _ _ [.slice none 0 0]) nc) | (have hz : BoxV _ w4.heap.size [.slice none 0 0] := (BoxV.alloc1 w4.drew _ _).new nc) | (have hz := (BoxV.alloc1 _ _ _).new nc)); try (obtain ⟨ck, fk, lk⟩ := hz.at1)))
        all_goals (go_wp2_with fail; go_meet)
        all_goals (first | exact ⟨_, _, _, _, rfl, rfl, BoxV.alloc1 _ _ _, hU.new ((New.same _).box _), ⟨by (try simp) <;> omega, by (try simp) <;> omega, .inr (Nat.le_refl _)⟩, by (repeat' (first | (with_reducible exact New.same _) | (with_reducible assumption) | (with_reducible refine New.box ?_ _) | (with_reducible refine New.drew_ ?_) | (with_reducible refine New.set ?_ ?_ _ _) | (with_reducible refine New.step ?_ (by assumption))))⟩ | exact ⟨_, _, _, _, rfl, rfl, hz.put1 _, hU.fr ((Fr.refl _ _ wc).setCell (Nat.le_refl _) (Nat.lt_succ_self _) _) (.inr (by (try simp) <;> omega)), ⟨by (try simp) <;> omega, by (try simp) <;> omega, by (try simp) <;> omega⟩, by (repeat' (first | (with_reducible exact New.same _) | (with_reducible assumption) | (with_reducible refine New.box ?_ _) | (with_reducible refine New.drew_ ?_) | (with_reducible refine New.set ?_ ?_ _ _) | (with_reducible refine New.step ?_ (by assumption))))⟩)
      case rest =>
        obtain ⟨g5, u5, lo5, hi5, rfl, rfl, G2, gs, ⟨b5a, b5b, b5c⟩, n5⟩ := hcut
        obtain ⟨A_gs, c_gs_, rfl⟩ := own_slice3 gs.1
        have l5 := gs.2.1
        have l5b := G2.lt
        clear X5
        have q5 := n5.size
        replace N := N.step n5
        replace R0 := R0.new n5
        replace ws := ws.new n5
        replace xb := xb.new n5
        replace P0 := P0.new n5
        replace P1 := P1.new n5
        replace G1 := G1.new n5
        replace B_xb := B_xb.new n5
        have ⟨c_P0, _, l_P0⟩ := P0.at1
        have ⟨⟨c_P1, d_P1⟩, _, l_P1⟩ := P1.at2
        have ⟨c_G1, _, l_G1⟩ := G1.at1
        have ⟨c_B_xb, _, l_B_xb⟩ := B_xb.at1
        have ⟨c_G2, _, l_G2⟩ := G2.at1
        go_wp2_with fail
        clear c_P0 l_P0 c_P1 d_P1 l_P1 c_G1 l_G1 c_B_xb l_B_xb c_G2 l_G2
        refine (c_eqAssembly _ _ _ _ _ _ (mvF z0 x1 y1) (mvF z0 x1 y1) _ (gs.rd) (ws.rd)).mono ?_
        rintro e w6 ⟨rfl, n6⟩
        have q6 := n6.size
        replace N := N.step n6
        replace R0 := R0.new n6
        replace ws := ws.new n6
        replace xb := xb.new n6
        replace gs := gs.new n6
        replace P0 := P0.new n6
        replace P1 := P1.new n6
        replace G1 := G1.new n6
        replace B_xb := B_xb.new n6
        replace G2 := G2.new n6
        have ⟨c_P0, _, l_P0⟩ := P0.at1
        have ⟨⟨c_P1, d_P1⟩, _, l_P1⟩ := P1.at2
        have ⟨c_G1, _, l_G1⟩ := G1.at1
        have ⟨c_B_xb, _, l_B_xb⟩ := B_xb.at1
        have ⟨c_G2, _, l_G2⟩ := G2.at1
        go_upto_region 10 with fail
        clear c_P0 l_P0 c_P1 d_P1 l_P1 c_G1 l_G1 c_B_xb l_B_xb c_G2 l_G2
        have T7 := Lib.hid (fun (wx : World) (nx : New w6 wx) => c_toAssembly _ _ _ z0 wx (R0.new nx) (by omega))
        have X7 := Lib.hid xb
        go_region_held3 (fun w' => w'.cell? ⟨w3.heap.size, 0, none⟩ = some (.slice A_xb z0.length c_xb_) ∧ w'.cell? ⟨w.heap.size, 0, none⟩ = some (.slice A0 z0.length c0))
          (exact keepB2 (w1 := w6) (by (repeat' (first | (with_reducible exact New.same _) | (with_reducible assumption) | (with_reducible refine New.box ?_ _) | (with_reducible refine New.drew_ ?_) | (with_reducible refine New.set ?_ ?_ _ _) | (with_reducible refine New.step ?_ (by assumption))))) B_xb P0)
          (first | (go_at_call 13; refine (c_eqAssembly_self _ _ _ _ _ _ z0 _ ((X7.out.new ((New.same _).drew_)).rd.new na7) hQ7.rd).mono ?_; rintro e wb7 ⟨rfl, nb7⟩) | (go_at_call 11; refine (T7.out _ ?_).mono ?_; (· (repeat' (first | (with_reducible exact New.same _) | (with_reducible assumption) | (with_reducible refine New.box ?_ _) | (with_reducible refine New.drew_ ?_) | (with_reducible refine New.set ?_ ?_ _ _) | (with_reducible refine New.step ?_ (by assumption))))); rintro e wa7 ⟨u7, rfl, hQ7, na7⟩))
        have M7 : New w6 wb7 := by (repeat' (first | (with_reducible exact New.same _) | (with_reducible assumption) | (with_reducible refine New.box ?_ _) | (with_reducible refine New.drew_ ?_) | (with_reducible refine New.set ?_ ?_ _ _) | (with_reducible refine New.step ?_ (by assumption))))
        clear T7 X7 hQ7
        have q7 := M7.size
        replace N := N.step M7
        replace R0 := R0.new M7
        replace ws := ws.new M7
        replace xb := xb.new M7
        replace gs := gs.new M7
        replace P0 := P0.new M7
        replace P1 := P1.new M7
        replace G1 := G1.new M7
        replace B_xb := B_xb.new M7
        replace G2 := G2.new M7
        have ⟨c_P0, _, l_P0⟩ := P0.at1
        have ⟨⟨c_P1, d_P1⟩, _, l_P1⟩ := P1.at2
        have ⟨c_G1, _, l_G1⟩ := G1.at1
        have ⟨c_B_xb, _, l_B_xb⟩ := B_xb.at1
        have ⟨c_G2, _, l_G2⟩ := G2.at1
        go_wp2_with fail
        clear c_P0 l_P0 c_P1 d_P1 l_P1 c_G1 l_G1 c_B_xb l_B_xb c_G2 l_G2
        refine (c_markAssembly _ _ _ _ _ _ _ xb (by omega) (by omega)).mono ?_
        rintro e w8 ⟨rfl, ya, f8⟩
        have q8 := f8.size
        replace N := N.fr f8 (by omega)
        replace R0 := R0.fr f8 (by omega)
        replace ws := ws.fr f8 (by omega)
        replace gs := gs.fr f8 (by omega)
        replace P0 := P0.fr f8 (by omega)
        replace P1 := P1.fr f8 (by omega)
        replace G1 := G1.fr f8 (by omega)
        replace B_xb := B_xb.fr f8 (by omega)
        replace G2 := G2.fr f8 (by omega)
        have ⟨c_P0, _, l_P0⟩ := P0.at1
        have ⟨⟨c_P1, d_P1⟩, _, l_P1⟩ := P1.at2
        have ⟨c_G1, _, l_G1⟩ := G1.at1
        have ⟨c_G2, _, l_G2⟩ := G2.at1
        go_wp2_with fail
        clear c_P0 l_P0 c_P1 d_P1 l_P1 c_G1 l_G1 c_G2 l_G2
        refine (c_eqAssembly _ _ _ _ _ _ (mvF z0 x1 y1) (mvF z0 x1 y1) _ (gs.rd) (ws.rd)).mono ?_
        rintro e w9 ⟨rfl, n9⟩
        have q9 := n9.size
        replace N := N.step n9
        replace R0 := R0.new n9
        replace ws := ws.new n9
        replace gs := gs.new n9
        replace P0 := P0.new n9
        replace P1 := P1.new n9
        replace G1 := G1.new n9
        replace G2 := G2.new n9
        have ⟨c_P0, _, l_P0⟩ := P0.at1
        have ⟨⟨c_P1, d_P1⟩, _, l_P1⟩ := P1.at2
        have ⟨c_G1, _, l_G1⟩ := G1.at1
        have ⟨c_G2, _, l_G2⟩ := G2.at1
        go_wp2_with fail
        clear c_P0 l_P0 c_P1 d_P1 l_P1 c_G1 l_G1 c_G2 l_G2
        refine (c_markAssembly _ _ _ _ _ _ _ gs (by omega) (by omega)).mono ?_
        rintro e w10 ⟨rfl, gm, f10⟩
        have q10 := f10.size
        replace N := N.fr f10 (by omega)
        replace R0 := R0.fr f10 (by omega)
        replace ws := ws.fr f10 (by omega)
        replace P0 := P0.fr f10 (by omega)
        replace P1 := P1.fr f10 (by omega)
        replace G1 := G1.fr f10 (by omega)
        replace G2 := G2.fr f10 (by omega)
        have ⟨c_P0, _, l_P0⟩ := P0.at1
        have ⟨⟨c_P1, d_P1⟩, _, l_P1⟩ := P1.at2
        have ⟨c_G1, _, l_G1⟩ := G1.at1
        have ⟨c_G2, _, l_G2⟩ := G2.at1
        go_wp2_with fail
        clear c_P0 l_P0 c_P1 d_P1 l_P1 c_G1 l_G1 c_G2 l_G2
        refine (c_heldAssembly _ _ _ _ _ _ gm.rd (by omega) (by omega)).mono ?_
        rintro e w11 ⟨rfl, n11⟩
        have q11 := n11.size
        replace N := N.step n11
        replace R0 := R0.new n11
        replace ws := ws.new n11
        replace gm := gm.new n11
        replace P0 := P0.new n11
        replace P1 := P1.new n11
        replace G1 := G1.new n11
        replace G2 := G2.new n11
        have ⟨c_P0, _, l_P0⟩ := P0.at1
        have ⟨⟨c_P1, d_P1⟩, _, l_P1⟩ := P1.at2
        have ⟨c_G1, _, l_G1⟩ := G1.at1
        have ⟨c_G2, _, l_G2⟩ := G2.at1
        go_upto_region 24 with fail
        clear c_P0 l_P0 c_P1 d_P1 l_P1 c_G1 l_G1 c_G2 l_G2
        have T12 := Lib.hid (fun (wx : World) (nx : New w11 wx) => c_toAssembly _ _ _ z0 wx (R0.new nx) (by omega))
        go_cut [14, 15] (fun sa sb wx12 => ∃ (g : Nat) (u : Value) (lo hi : Nat), sa = .pointer (some ⟨g, 0, none⟩) ∧ sb = .int .i64 ((mvC z0 x1 y1)) ∧ BoxV wx12 g [u] ∧ Own wx12 lo hi 71 3 u ((mvF z0 x1 y1)).length (((mvF z0 x1 y1)).flatMap plCells) ∧ (w11.heap.size ≤ lo ∧ w11.heap.size ≤ g ∧ (g < lo ∨ hi ≤ g)) ∧ New w11 wx12)
        case first =>
          go_region_held3 (fun w' => w'.cell? ⟨w.heap.size, 0, none⟩ = some (.slice A0 z0.length c0) ∧ w'.cell? ⟨w.heap.size + 1, 0, none⟩ = some (.int .i64 x1) ∧ w'.cell? ⟨w.heap.size + 1, 1, none⟩ = some (.int .i64 y1))
            (exact keep12 (w1 := w11) (by (repeat' (first | (with_reducible exact New.same _) | (with_reducible assumption) | (with_reducible refine New.box ?_ _) | (with_reducible refine New.drew_ ?_) | (with_reducible refine New.set ?_ ?_ _ _) | (with_reducible refine New.step ?_ (by assumption))))) P0 P1)
            (first | (go_at_call 24; refine (c_toPoint _ _ _).mono ?_; rintro e wb ⟨rfl, nb⟩; have sb := (show New w11 wb from by (repeat' (first | (with_reducible exact New.same _) | (with_reducible assumption) | (with_reducible refine New.box ?_ _) | (with_reducible refine New.drew_ ?_) | (with_reducible refine New.set ?_ ?_ _ _) | (with_reducible refine New.step ?_ (by assumption))))).size; try (first | (have hz := BoxV.new (by assumption : BoxV _ _ [.slice none 0 0]) nb) | (have hz : BoxV _ w11.heap.size [.slice none 0 0] := (BoxV.alloc1 w11.drew _ _).new nb) | (have hz := (BoxV.alloc1 _ _ _).new nb)); try (obtain ⟨ck, fk, lk⟩ := hz.at1)) | (go_at_call 11; refine (T12.out _ ?_).mono ?_; (· (repeat' (first | (with_reducible exact New.same _) | (with_reducible assumption) | (with_reducible refine New.box ?_ _) | (with_reducible refine New.drew_ ?_) | (with_reducible refine New.set ?_ ?_ _ _) | (with_reducible refine New.step ?_ (by assumption))))); rintro e wa ⟨ua, rfl, hQ, na⟩; have sa := (show New w11 wa from by (repeat' (first | (with_reducible exact New.same _) | (with_reducible assumption) | (with_reducible refine New.box ?_ _) | (with_reducible refine New.drew_ ?_) | (with_reducible refine New.set ?_ ?_ _ _) | (with_reducible refine New.step ?_ (by assumption))))).size; try (first | (have hz := BoxV.new (by assumption : BoxV _ _ [.slice none 0 0]) na) | (have hz : BoxV _ w11.heap.size [.slice none 0 0] := (BoxV.alloc1 w11.drew _ _).new na) | (have hz := (BoxV.alloc1 _ _ _).new na)); try (obtain ⟨ck, fk, lk⟩ := hz.at1)) | (go_at_call 25; refine (c_implMoveAssembly _ _ _ z0 x1 y1 _ (Own.new hQ ?_)).mono ?_; (· (repeat' (first | (with_reducible exact New.same _) | (with_reducible assumption) | (with_reducible refine New.box ?_ _) | (with_reducible refine New.drew_ ?_) | (with_reducible refine New.set ?_ ?_ _ _) | (with_reducible refine New.step ?_ (by assumption))))); rintro e wc ⟨uc, rfl, hU, nc⟩; have sc := (show New w11 wc from by (repeat' (first | (with_reducible exact New.same _) | (with_reducible assumption) | (with_reducible refine New.box ?_ _) | (with_reducible refine New.drew_ ?_) | (with_reducible refine New.set ?_ ?_ _ _) | (with_reducible refine New.step ?_ (by assumption))))).size; obtain ⟨Ac, cc, rfl⟩ := own_slice3 hU.1; try (first | (have hz := BoxV.new (by assumption : BoxV _ _ [.slice none 0 0]) nc) | (have hz : BoxV _ w11.heap.size [.slice none 0 0] := (BoxV.alloc1 w11.drew _ _).new nc) | (have hz := (BoxV.alloc1 _ _ _).new nc)); try (obtain ⟨ck, fk, lk⟩ := hz.at1)))
          all_goals (go_wp2_with fail; go_meet)
          all_goals (first | exact ⟨_, _, _, _, rfl, rfl, BoxV.alloc1 _ _ _, hU.new ((New.same _).box _), ⟨by (try simp) <;> omega, by (try simp) <;> omega, .inr (Nat.le_refl _)⟩, by (repeat' (first | (with_reducible exact New.same _) | (with_reducible assumption) | (with_reducible refine New.box ?_ _) | (with_reducible refine New.drew_ ?_) | (with_reducible refine New.set ?_ ?_ _ _) | (with_reducible refine New.step ?_ (by assumption))))⟩ | exact ⟨_, _, _, _, rfl, rfl, hz.put1 _, hU.fr ((Fr.refl _ _ wc).setCell (Nat.le_refl _) (Nat.lt_succ_self _) _) (.inr (by (try simp) <;> omega)), ⟨by (try simp) <;> omega, by (try simp) <;> omega, by (try simp) <;> omega⟩, by (repeat' (first | (with_reducible exact New.same _) | (with_reducible assumption) | (with_reducible refine New.box ?_ _) | (with_reducible refine New.drew_ ?_) | (with_reducible refine New.set ?_ ?_ _ _) | (with_reducible refine New.step ?_ (by assumption))))⟩)
        case rest =>
          obtain ⟨g12, u12, lo12, hi12, rfl, rfl, G3, hs, ⟨b12a, b12b, b12c⟩, n12⟩ := hcut
          obtain ⟨A_hs, c_hs_, rfl⟩ := own_slice3 hs.1
          have l12 := hs.2.1
          have l12b := G3.lt
          clear T12
          have q12 := n12.size
          replace N := N.step n12
          replace R0 := R0.new n12
          replace ws := ws.new n12
          replace gm := gm.new n12
          replace P0 := P0.new n12
          replace P1 := P1.new n12
          replace G1 := G1.new n12
          replace G2 := G2.new n12
          have ⟨c_P0, _, l_P0⟩ := P0.at1
          have ⟨⟨c_P1, d_P1⟩, _, l_P1⟩ := P1.at2
          have ⟨c_G1, _, l_G1⟩ := G1.at1
          have ⟨c_G2, _, l_G2⟩ := G2.at1
          have ⟨c_G3, _, l_G3⟩ := G3.at1
          go_wp2_with fail
          clear c_P0 l_P0 c_P1 d_P1 l_P1 c_G1 l_G1 c_G2 l_G2 c_G3 l_G3
          refine (c_eqAssembly _ _ _ _ _ _ (mvF z0 x1 y1) (mvF z0 x1 y1) _ (hs.rd) (ws.rd)).mono ?_
          rintro e w13 ⟨rfl, n13⟩
          have q13 := n13.size
          replace N := N.step n13
          replace R0 := R0.new n13
          replace ws := ws.new n13
          replace gm := gm.new n13
          replace hs := hs.new n13
          replace P0 := P0.new n13
          replace P1 := P1.new n13
          replace G1 := G1.new n13
          replace G2 := G2.new n13
          replace G3 := G3.new n13
          have ⟨c_P0, _, l_P0⟩ := P0.at1
          have ⟨⟨c_P1, d_P1⟩, _, l_P1⟩ := P1.at2
          have ⟨c_G1, _, l_G1⟩ := G1.at1
          have ⟨c_G2, _, l_G2⟩ := G2.at1
          have ⟨c_G3, _, l_G3⟩ := G3.at1
          go_wp2_with fail
          clear c_P0 l_P0 c_P1 d_P1 l_P1 c_G1 l_G1 c_G2 l_G2 c_G3 l_G3
          refine (c_heldAssembly _ _ _ _ _ _ gm.rd (by omega) (by omega)).mono ?_
          rintro e w14 ⟨rfl, n14⟩
          have q14 := n14.size
          replace N := N.step n14
          replace R0 := R0.new n14
          replace ws := ws.new n14
          replace gm := gm.new n14
          replace hs := hs.new n14
          replace P0 := P0.new n14
          replace P1 := P1.new n14
          replace G1 := G1.new n14
          replace G2 := G2.new n14
          replace G3 := G3.new n14
          go_wp2
          go_ret
          exact ⟨rfl, N⟩
  · have E0 : szL (1048576) z0.length = -1 := szL_no (by omega)
    go_enter Try.func6, Try.ntmps6
    go_wp2_with fail
    have q0 : w.heap.size + 2 ≤ ((w.alloc (.cells #[.slice A0 z0.length c0] 24)).alloc (.cells #[.int .i64 x1, .int .i64 y1] 43)).heap.size := by simp
    generalize ((w.alloc (.cells #[.slice A0 z0.length c0] 24)).alloc (.cells #[.int .i64 x1, .int .i64 y1] 43)) = W0 at *
    replace R0 := R0.new N
    refine (c_szAssembly A0 _ c0 (1048576) _ hm0 (by omega) (by omega)).mono ?_
    rintro e w15 ⟨rfl, n15⟩
    have q15 := n15.size
    replace N := N.step n15
    replace R0 := R0.new n15
    replace P0 := P0.new n15
    replace P1 := P1.new n15
    rw [E0]
    go_wp2
    go_ret
    exact ⟨rfl, N⟩

set_option maxRecDepth 100000 in
theorem lifted (os : Os) (started : os.Started) (H : Type) (enc : TypeId × Value → H) :
    ReturnsInHanded {} Try.checked os 6 .any (Rows.fnExactMoveAssemblySpec.pre6 enc Try.prog Try.f6 Rows.fnExactMoveAssemblyRow.domain false) (Rows.fnExactMoveAssemblySpec.post enc Try.prog Try.f6 false true false false) := by
  refine returnsInHanded_of_change (C := Try.checked) prog_own started (by kernel_rfl) Try.func6
    (ChangeSpec.witness6 (enc := enc) (C := Try.checked) false ⟨#[], #[.agg #[.slice none 0 0], .agg #[.int .i64 0, .int .i64 0]], []⟩ 8 (by kernel_rfl) (by kernel_rfl) (by kernel_rfl) (by kernel_rfl)) ?_
  intro W base args ds gs before hval0 hW _ _
  have hval : ∀ (j : Nat) t v, Try.f6.params[j]? = some t → args[j]? = some v → Value.okWide Try.prog W .any base t v := hval0
  have hW' := hW
  obtain ⟨p, q, hA0, hV, rfl, _, _⟩ := hW
  have hA : DataW.TrodAll enc Try.prog W 0 (fun _ => true) true Try.f6.params.toList args.toList ds p := hA0
  rw [Try.params6] at hA hval
  have hlt : ∀ x ∈ p, x.block < W.heap.size := fun x hx => hW'.lt x (List.mem_append_left _ hx)
  obtain ⟨v0, vs0, d0, ds0, p0, q0, hargs, rfl, rfl, h0, t0⟩ := trodAll_cons hA
  obtain ⟨v1, vs1, d1, ds1, p1, q1, rfl, rfl, rfl, h1, t1⟩ := trodAll_cons t0
  obtain ⟨rfl, rfl, rfl⟩ := trodAll_nil t1
  obtain rfl : args = #[v0, v1] := by cases args; simp_all
  have hlt0 : ∀ x ∈ p0, x.block < W.heap.size := fun x hx => hlt x (List.mem_append_left _ hx)
  obtain ⟨u0, z0, rfl, r0⟩ := open_asm Try.underlying24 (by kernel_rfl) rfl rfl (by kernel_rfl) Try.underlying22 Try.underlying97 (by kernel_rfl) rfl rfl rfl rfl (by kernel_rfl) (by kernel_rfl) Try.underlying43 rfl rfl rfl rfl (by kernel_rfl) (by kernel_rfl) Try.underlying2 Try.underlying2 Try.underlying2 (hval 0 24 v0 rfl rfl) h0 hlt0
  obtain ⟨⟨x1, y1⟩, rfl, bx1, by1⟩ := open_ii Try.underlying43 (by kernel_rfl) rfl rfl rfl rfl (by kernel_rfl) (by kernel_rfl) Try.underlying2 Try.underlying2 (hval 1 43 v1 rfl rfl) h1
  refine (walk W u0 z0 r0 x1 y1 bx1 by1).mono fun e W' ⟨he, hb⟩ => ⟨_, he, ?_⟩
  exact law_post prog_laid (by kernel_rfl) rfl Try.underlying4 rfl (by intro ds h; rw [Try.params6] at h; match ds, h with | [_, _], _ => exact ⟨rfl, rfl, rfl⟩) hW' hb

theorem over : Rows.fnExactMoveAssemblyRow.holds Try.pinned (OpenSpec.ofChange Rows.fnExactMoveAssemblySpec) :=
  OpenClaim.holds_of_wide 6 Try.f6 rfl rfl rfl rfl rfl rfl rfl ⟨rfl, rfl, rfl, rfl, rfl⟩ rfl rfl rfl rfl rfl (by kernel_rfl) Try.func6 (by kernel_rfl)
    (of_decide_eq_true (by kernel_rfl)) (by unfold Func.isWrapper; first | (rw [if_pos (by decide +kernel)]; kernel_rfl) | (rw [if_neg (by decide +kernel)]; exact ⟨rfl, rfl⟩))
    (fun os started H enc _ => lifted os started H enc)

theorem proved : Rows.FnExactMoveAssemblySaid := over
end fnExactMoveAssembly
#print axioms fnExactMoveAssembly.proved

end Go.Proofs.Ytnbpcdnncfkgjaa
