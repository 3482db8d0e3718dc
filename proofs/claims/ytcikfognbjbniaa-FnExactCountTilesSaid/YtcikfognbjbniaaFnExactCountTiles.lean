/- The law FnExactCountTiles returns true for every input that can be read as data. No condition. -/
import Derived.Test.YtcikfognbjbniaaTally
import Derived.Test.YtcikfognbjbniaaMarkSet
namespace Go.Proofs.Ytcikfognbjbniaa
open Go.ChangeShapes Go.WideShapes Go.ChangeAt Go.RowKit
open Go.ChangeMaps (open_string)
namespace fnExactCountTiles
set_option linter.unusedVariables false
set_option maxRecDepth 100000 in
set_option maxHeartbeats 4000000 in
theorem walk (w : World) (gv0 tv0 : Value) (G0 : List (ByteArray × Int)) (T0 : List (ByteArray × List Int)) (sv0 : List Value) (r0 : RdS w 0 w.heap.size gv0 tv0 G0 T0 sv0) (hg0 : ∀ g ∈ G0, g.1.size ≤ maxLen) (ht0 : ∀ t ∈ T0, t.1.size ≤ maxLen) (v1 : Value) (z1 : List ((Int × Int) × Int)) (r1 : Rd w 0 w.heap.size 3 v1 z1.length (z1.flatMap plCells)) : Calls Try.prog 6 #[.agg #[gv0, tv0], .agg #[v1]] w fun e w' => e = .returned (.bool true) ∧ New w w' := by
  have R0 := r0
  obtain ⟨A0, c0, B0, d0, rfl, rfl⟩ := r0.form
  have R1 := r1
  obtain ⟨_, hm1, _, A1, c1, rfl, _⟩ := r1
  have N : New w ((w.alloc (.cells #[.slice A0 G0.length c0, .slice B0 T0.length d0] 25)).alloc (.cells #[.slice A1 z1.length c1] 28)) := (((New.same w).box _).box _)
  have P0 : BoxV ((w.alloc (.cells #[.slice A0 G0.length c0, .slice B0 T0.length d0] 25)).alloc (.cells #[.slice A1 z1.length c1] 28)) (w.heap.size) [.slice A0 G0.length c0, .slice B0 T0.length d0] := .two (by go_simp) (by go_simp) (by go_simp) (by go_simp) (by simp <;> omega)
  have P1 : BoxV ((w.alloc (.cells #[.slice A0 G0.length c0, .slice B0 T0.length d0] 25)).alloc (.cells #[.slice A1 z1.length c1] 28)) (w.heap.size + 1) [.slice A1 z1.length c1] := .one (by go_simp) (by go_simp) (by simp <;> omega)
  obtain ⟨L0, E0⟩ : ∃ L, szS (1048576) G0 T0 = L := ⟨_, rfl⟩
  by_cases hz0 : 0 ≤ L0
  · have ⟨hb0, hG0, hT0, hS0⟩ := szS_le (by rw [E0]; exact hz0 : 0 ≤ szS (1048576) G0 T0)
    rw [E0] at hb0
    have hs0 : ∀ t ∈ T0, t.2.length ≤ 1048576 := fun t ht => by have := hS0 t ht; omega
    clear hS0
    obtain ⟨L1, E1⟩ : ∃ L, szL (L0) z1.length = L := ⟨_, rfl⟩
    by_cases hz1 : 0 ≤ L1
    · have hb1 : L1 ≤ L0 ∧ (z1.length : Int) ≤ L0 := by unfold szL at E1; split at E1 <;> omega
      have el1 := eqL_self z1
      have eL := eqL_self (ctL G0 T0 z1)
      have eY : (ctC G0 T0 z1 != ctC G0 T0 z1) = false := by simp
      have hXl := ctL_len G0 T0 z1
      have hcn := cntT_le hs0
      obtain ⟨Z, hZ⟩ : ∃ Z : Nat, 1 + 2 * G0.length + cntT T0 = Z := ⟨_, rfl⟩
      obtain ⟨Z2, hZ2⟩ : ∃ Z2 : Nat, (Z : Int) + ((z1.length * 3 : Nat) : Int) = (Z2 : Int) := ⟨Z + z1.length * 3, by omega⟩
      have hz1 : decide ((Z2 : Int) < 0) = false := by simp
      have hZb : Z ≤ 4398050000000 := by have : T0.length * (1048576 + 1) ≤ 1048576 * (1048576 + 1) := Nat.mul_le_mul_right _ (by omega); omega
      go_enter Try.func6, Try.ntmps6
      go_wp2_with fail
      have q0 : w.heap.size + 2 ≤ ((w.alloc (.cells #[.slice A0 G0.length c0, .slice B0 T0.length d0] 25)).alloc (.cells #[.slice A1 z1.length c1] 28)).heap.size := by simp
      generalize ((w.alloc (.cells #[.slice A0 G0.length c0, .slice B0 T0.length d0] 25)).alloc (.cells #[.slice A1 z1.length c1] 28)) = W0 at *
      replace R0 := R0.new N
      replace R1 := R1.new N
      refine (c_szTileSet _ _ _ _ G0 T0 _ (1048576) _ R0 hg0 ht0 (by omega) (by omega)).mono ?_
      rintro e w1 ⟨rfl, n1⟩
      have q1 := n1.size
      replace N := N.step n1
      replace R0 := R0.new n1
      replace R1 := R1.new n1
      replace P0 := P0.new n1
      replace P1 := P1.new n1
      rw [E0]
      have ⟨⟨c_P0, d_P0⟩, _, l_P0⟩ := P0.at2
      have ⟨c_P1, _, l_P1⟩ := P1.at1
      go_wp2_with fail
      clear c_P0 d_P0 l_P0 c_P1 l_P1
      refine (c_szAssembly A1 _ c1 (L0) _ hm1 (by omega) (by omega)).mono ?_
      rintro e w2 ⟨rfl, n2⟩
      have q2 := n2.size
      replace N := N.step n2
      replace R0 := R0.new n2
      replace R1 := R1.new n2
      replace P0 := P0.new n2
      replace P1 := P1.new n2
      rw [E1]
      have ⟨⟨c_P0, d_P0⟩, _, l_P0⟩ := P0.at2
      have ⟨c_P1, _, l_P1⟩ := P1.at1
      go_upto_region 8 with fail
      clear c_P0 d_P0 l_P0 c_P1 l_P1
      have T3_0 := Lib.hid (fun (wx : World) (nx : New w2 wx) => c_toTileSet _ _ _ _ G0 T0 _ wx (R0.new nx) (by omega) (by omega) hs0)
      have T3_1 := Lib.hid (fun (wx : World) (nx : New w2 wx) => c_toAssembly _ _ _ z1 wx (R1.new nx) (by omega))
      go_cut [6, 7] (fun sx cx wx => cx = .int .i64 (ctC G0 T0 z1) ∧ Own wx w2.heap.size wx.heap.size 2 1 sx (ctL G0 T0 z1).length ((ctL G0 T0 z1).map (Value.int .i64)) ∧ New w2 wx)
      case first =>
        go_region_held3 (fun w' => w'.cell? ⟨w.heap.size, 0, none⟩ = some (.slice A0 G0.length c0) ∧ w'.cell? ⟨w.heap.size, 1, none⟩ = some (.slice B0 T0.length d0) ∧ w'.cell? ⟨w.heap.size + 1, 0, none⟩ = some (.slice A1 z1.length c1))
          (exact keepVB (w1 := w2) (by (repeat' (first | (with_reducible exact New.same _) | (with_reducible assumption) | (with_reducible refine New.box ?_ _) | (with_reducible refine New.drew_ ?_) | (with_reducible refine New.set ?_ ?_ _ _) | (with_reducible refine New.step ?_ (by assumption))))) P0 P1)
          (first | (go_at_call_of 16 (Value.slice A0 G0.length c0); refine (T3_0.out _ ?_).mono ?_; (· (repeat' (first | (with_reducible exact New.same _) | (with_reducible assumption) | (with_reducible refine New.box ?_ _) | (with_reducible refine New.drew_ ?_) | (with_reducible refine New.set ?_ ?_ _ _) | (with_reducible refine New.step ?_ (by assumption))))); rintro e wa3_0 ⟨gq3_0, tq3_0, sq3_0, rfl, hQ3_0, na3_0⟩) | (go_at_call 17; refine (T3_1.out _ ?_).mono ?_; (· (repeat' (first | (with_reducible exact New.same _) | (with_reducible assumption) | (with_reducible refine New.box ?_ _) | (with_reducible refine New.drew_ ?_) | (with_reducible refine New.set ?_ ?_ _ _) | (with_reducible refine New.step ?_ (by assumption))))); rintro e wa3_1 ⟨u3_1, rfl, hQ3_1, na3_1⟩) | (go_at_call 25; refine (c_specCountTiles _ _ _ _ _ _ _ G0 T0 _ z1 _ (RdS.new hQ3_0.rd ?_) hg0 ht0 (Rd.new hQ3_1.rd ?_)).mono ?_; (· (repeat' (first | (with_reducible exact New.same _) | (with_reducible assumption) | (with_reducible refine New.box ?_ _) | (with_reducible refine New.drew_ ?_) | (with_reducible refine New.set ?_ ?_ _ _) | (with_reducible refine New.step ?_ (by assumption))))); (· (repeat' (first | (with_reducible exact New.same _) | (with_reducible assumption) | (with_reducible refine New.box ?_ _) | (with_reducible refine New.drew_ ?_) | (with_reducible refine New.set ?_ ?_ _ _) | (with_reducible refine New.step ?_ (by assumption))))); rintro e wc3 ⟨vc3, rfl, hc3, nc3⟩))
        all_goals (go_wp2_with fail; go_meet; exact ⟨by rfl, (hc3).wide ((show New _ _ by (repeat' (first | (with_reducible exact New.same _) | (with_reducible assumption) | (with_reducible refine New.box ?_ _) | (with_reducible refine New.drew_ ?_) | (with_reducible refine New.set ?_ ?_ _ _) | (with_reducible refine New.step ?_ (by assumption))))).size) (Nat.le_refl _) (Nat.le_refl _), by (repeat' (first | (with_reducible exact New.same _) | (with_reducible assumption) | (with_reducible refine New.box ?_ _) | (with_reducible refine New.drew_ ?_) | (with_reducible refine New.set ?_ ?_ _ _) | (with_reducible refine New.step ?_ (by assumption))))⟩)
      case rest =>
        obtain ⟨rfl, ws, M3⟩ := hcut
        clear T3_0 T3_1
        have q3 := M3.size
        replace N := N.step M3
        replace R0 := R0.new M3
        replace R1 := R1.new M3
        replace P0 := P0.new M3
        replace P1 := P1.new M3
        have ⟨⟨c_P0, d_P0⟩, _, l_P0⟩ := P0.at2
        have ⟨c_P1, _, l_P1⟩ := P1.at1
        go_wp2_with fail
        clear c_P0 d_P0 l_P0 c_P1 l_P1
        refine (c_toTileSet _ _ _ _ G0 T0 _ _ R0 (by omega) (by omega) hs0).mono ?_
        rintro e w4 ⟨g4, t4, s4, rfl, xa, n4⟩
        have q4 := n4.size
        replace N := N.step n4
        replace R0 := R0.new n4
        replace R1 := R1.new n4
        replace ws := ws.new n4
        replace P0 := P0.new n4
        replace P1 := P1.new n4
        obtain ⟨A_xa, c_xa_, K_xa, d_xa_, hva, hvb⟩ := xa.rd.form
        subst hva hvb
        have m4 : New w4 (w4.alloc (.cells #[.slice A_xa G0.length c_xa_, .slice K_xa T0.length d_xa_] 36)) := (New.same _).box _
        have B_xa : BoxV (w4.alloc (.cells #[.slice A_xa G0.length c_xa_, .slice K_xa T0.length d_xa_] 36)) w4.heap.size [.slice A_xa G0.length c_xa_, .slice K_xa T0.length d_xa_] := .two (by go_simp) (by go_simp) (by go_simp) (by go_simp) (by simp)
        have ⟨⟨c_P0, d_P0⟩, _, l_P0⟩ := P0.at2
        have ⟨c_P1, _, l_P1⟩ := P1.at1
        go_wp2_with fail
        clear c_P0 d_P0 l_P0 c_P1 l_P1
        have q5 := m4.size
        have qb5 : w4.heap.size < (w4.alloc (.cells #[.slice A_xa G0.length c_xa_, .slice K_xa T0.length d_xa_] 36)).heap.size := by simp
        replace N := N.step m4
        replace R0 := R0.new m4
        replace R1 := R1.new m4
        replace ws := ws.new m4
        replace xa := xa.new m4
        replace P0 := P0.new m4
        replace P1 := P1.new m4
        generalize (w4.alloc (.cells #[.slice A_xa G0.length c_xa_, .slice K_xa T0.length d_xa_] 36)) = w5 at *
        refine (c_toAssembly _ _ _ z1 _ R1 (by omega)).mono ?_
        rintro e w6 ⟨v6, rfl, xb, n6⟩
        have q6 := n6.size
        replace N := N.step n6
        replace R0 := R0.new n6
        replace R1 := R1.new n6
        replace ws := ws.new n6
        replace xa := xa.new n6
        replace P0 := P0.new n6
        replace P1 := P1.new n6
        replace B_xa := B_xa.new n6
        have ⟨_, _, _, A_xb, c_xb_, hv6, _⟩ := xb.rd
        subst hv6
        have m6 : New w6 (w6.alloc (.cells #[.slice A_xb z1.length c_xb_] 39)) := (New.same _).box _
        have B_xb : BoxV (w6.alloc (.cells #[.slice A_xb z1.length c_xb_] 39)) w6.heap.size [.slice A_xb z1.length c_xb_] := .one (by go_simp) (by go_simp) (by simp <;> omega)
        have ⟨⟨c_P0, d_P0⟩, _, l_P0⟩ := P0.at2
        have ⟨c_P1, _, l_P1⟩ := P1.at1
        have ⟨⟨c_B_xa, d_B_xa⟩, _, l_B_xa⟩ := B_xa.at2
        go_wp2_with fail
        clear c_P0 d_P0 l_P0 c_P1 l_P1 c_B_xa d_B_xa l_B_xa
        have q7 := m6.size
        have qb7 : w6.heap.size < (w6.alloc (.cells #[.slice A_xb z1.length c_xb_] 39)).heap.size := by simp
        replace N := N.step m6
        replace R0 := R0.new m6
        replace R1 := R1.new m6
        replace ws := ws.new m6
        replace xa := xa.new m6
        replace xb := xb.new m6
        replace P0 := P0.new m6
        replace P1 := P1.new m6
        replace B_xa := B_xa.new m6
        generalize (w6.alloc (.cells #[.slice A_xb z1.length c_xb_] 39)) = w7 at *
        refine (c_implCountTiles _ _ _ _ _ _ _ G0 T0 _ z1 _ xa.rd hg0 ht0 xb.rd).mono ?_
        rintro e w8 ⟨v8, rfl, gs, n8⟩
        have q8 := n8.size
        replace N := N.step n8
        replace R0 := R0.new n8
        replace R1 := R1.new n8
        replace ws := ws.new n8
        replace xa := xa.new n8
        replace xb := xb.new n8
        replace P0 := P0.new n8
        replace P1 := P1.new n8
        replace B_xa := B_xa.new n8
        replace B_xb := B_xb.new n8
        have ⟨⟨c_P0, d_P0⟩, _, l_P0⟩ := P0.at2
        have ⟨c_P1, _, l_P1⟩ := P1.at1
        have ⟨⟨c_B_xa, d_B_xa⟩, _, l_B_xa⟩ := B_xa.at2
        have ⟨c_B_xb, _, l_B_xb⟩ := B_xb.at1
        go_wp2_with fail
        clear c_P0 d_P0 l_P0 c_P1 l_P1 c_B_xa d_B_xa l_B_xa c_B_xb l_B_xb
        refine (c_eqInt64S _ _ _ _ _ _ (ctL G0 T0 z1) (ctL G0 T0 z1) _ gs.rd ws.rd).mono ?_
        rintro e w9 ⟨rfl, n9⟩
        have q9 := n9.size
        replace N := N.step n9
        replace R0 := R0.new n9
        replace R1 := R1.new n9
        replace ws := ws.new n9
        replace xa := xa.new n9
        replace xb := xb.new n9
        replace gs := gs.new n9
        replace P0 := P0.new n9
        replace P1 := P1.new n9
        replace B_xa := B_xa.new n9
        replace B_xb := B_xb.new n9
        have ⟨⟨c_P0, d_P0⟩, _, l_P0⟩ := P0.at2
        have ⟨c_P1, _, l_P1⟩ := P1.at1
        have ⟨⟨c_B_xa, d_B_xa⟩, _, l_B_xa⟩ := B_xa.at2
        have ⟨c_B_xb, _, l_B_xb⟩ := B_xb.at1
        go_upto_region 14 with fail
        clear c_P0 d_P0 l_P0 c_P1 l_P1 c_B_xa d_B_xa l_B_xa c_B_xb l_B_xb
        have TT10 := Lib.hid (fun (wx : World) (nx : New w9 wx) => c_toTileSet _ _ _ _ G0 T0 _ wx (R0.new nx) (by omega) (by omega) hs0)
        have XX10 := Lib.hid xa
        go_region_held3 (fun w' => w'.cell? ⟨w4.heap.size, 0, none⟩ = some (.slice A_xa G0.length c_xa_) ∧ w'.cell? ⟨w4.heap.size, 1, none⟩ = some (.slice K_xa T0.length d_xa_) ∧ w'.cell? ⟨w.heap.size, 0, none⟩ = some (.slice A0 G0.length c0) ∧ w'.cell? ⟨w.heap.size, 1, none⟩ = some (.slice B0 T0.length d0))
          (exact keepV2 (w1 := w9) (by (repeat' (first | (with_reducible exact New.same _) | (with_reducible assumption) | (with_reducible refine New.box ?_ _) | (with_reducible refine New.drew_ ?_) | (with_reducible refine New.set ?_ ?_ _ _) | (with_reducible refine New.step ?_ (by assumption))))) B_xa P0)
          (first | (go_at_call 19; refine (c_eqTileSet_self _ _ _ _ _ _ _ _ G0 T0 _ _ _ ((XX10.out.new ((New.same _).drew_)).rd.new na10) hQ10.rd).mono ?_; rintro e wb10 ⟨rfl, nb10⟩) | (go_at_call 16; refine (TT10.out _ ?_).mono ?_; (· (repeat' (first | (with_reducible exact New.same _) | (with_reducible assumption) | (with_reducible refine New.box ?_ _) | (with_reducible refine New.drew_ ?_) | (with_reducible refine New.set ?_ ?_ _ _) | (with_reducible refine New.step ?_ (by assumption))))); rintro e wa10 ⟨gq10, tq10, sq10, rfl, hQ10, na10⟩))
        have M10 : New w9 wb10 := by (repeat' (first | (with_reducible exact New.same _) | (with_reducible assumption) | (with_reducible refine New.box ?_ _) | (with_reducible refine New.drew_ ?_) | (with_reducible refine New.set ?_ ?_ _ _) | (with_reducible refine New.step ?_ (by assumption))))
        clear TT10 XX10 hQ10
        have q10 := M10.size
        replace N := N.step M10
        replace R0 := R0.new M10
        replace R1 := R1.new M10
        replace ws := ws.new M10
        replace xa := xa.new M10
        replace xb := xb.new M10
        replace gs := gs.new M10
        replace P0 := P0.new M10
        replace P1 := P1.new M10
        replace B_xa := B_xa.new M10
        replace B_xb := B_xb.new M10
        have ⟨⟨c_P0, d_P0⟩, _, l_P0⟩ := P0.at2
        have ⟨c_P1, _, l_P1⟩ := P1.at1
        have ⟨⟨c_B_xa, d_B_xa⟩, _, l_B_xa⟩ := B_xa.at2
        have ⟨c_B_xb, _, l_B_xb⟩ := B_xb.at1
        go_upto_region 16 with fail
        clear c_P0 d_P0 l_P0 c_P1 l_P1 c_B_xa d_B_xa l_B_xa c_B_xb l_B_xb
        have TT11 := Lib.hid (fun (wx : World) (nx : New wb10 wx) => c_toAssembly _ _ _ z1 wx (R1.new nx) (by omega))
        have XX11 := Lib.hid xb
        go_region_held3 (fun w' => w'.cell? ⟨w6.heap.size, 0, none⟩ = some (.slice A_xb z1.length c_xb_) ∧ w'.cell? ⟨w.heap.size + 1, 0, none⟩ = some (.slice A1 z1.length c1))
          (exact keepB2 (w1 := wb10) (by (repeat' (first | (with_reducible exact New.same _) | (with_reducible assumption) | (with_reducible refine New.box ?_ _) | (with_reducible refine New.drew_ ?_) | (with_reducible refine New.set ?_ ?_ _ _) | (with_reducible refine New.step ?_ (by assumption))))) B_xb P1)
          (first | (go_at_call 20; refine (c_eqAssembly_self _ _ _ _ _ _ z1 _ ((XX11.out.new ((New.same _).drew_)).rd.new na11) hQ11.rd).mono ?_; rintro e wb11 ⟨rfl, nb11⟩) | (go_at_call 17; refine (TT11.out _ ?_).mono ?_; (· (repeat' (first | (with_reducible exact New.same _) | (with_reducible assumption) | (with_reducible refine New.box ?_ _) | (with_reducible refine New.drew_ ?_) | (with_reducible refine New.set ?_ ?_ _ _) | (with_reducible refine New.step ?_ (by assumption))))); rintro e wa11 ⟨u11, rfl, hQ11, na11⟩))
        have M11 : New wb10 wb11 := by (repeat' (first | (with_reducible exact New.same _) | (with_reducible assumption) | (with_reducible refine New.box ?_ _) | (with_reducible refine New.drew_ ?_) | (with_reducible refine New.set ?_ ?_ _ _) | (with_reducible refine New.step ?_ (by assumption))))
        clear TT11 XX11 hQ11
        have q11 := M11.size
        replace N := N.step M11
        replace R0 := R0.new M11
        replace R1 := R1.new M11
        replace ws := ws.new M11
        replace xa := xa.new M11
        replace xb := xb.new M11
        replace gs := gs.new M11
        replace P0 := P0.new M11
        replace P1 := P1.new M11
        replace B_xa := B_xa.new M11
        replace B_xb := B_xb.new M11
        have ⟨⟨c_P0, d_P0⟩, _, l_P0⟩ := P0.at2
        have ⟨c_P1, _, l_P1⟩ := P1.at1
        have ⟨⟨c_B_xa, d_B_xa⟩, _, l_B_xa⟩ := B_xa.at2
        have ⟨c_B_xb, _, l_B_xb⟩ := B_xb.at1
        go_wp2_with fail
        clear c_P0 d_P0 l_P0 c_P1 l_P1 c_B_xa d_B_xa l_B_xa c_B_xb l_B_xb
        refine (c_markTileSet _ _ _ _ _ _ _ 1 _ xa (by omega)).mono ?_
        rintro e w12 ⟨rfl, ym, f12⟩
        have q12 := f12.size
        replace N := N.fr f12 (by omega)
        replace R0 := R0.fr f12 (by omega)
        replace R1 := R1.fr f12 (by omega)
        replace ws := ws.fr f12 (by omega)
        replace xb := xb.fr f12 (by omega)
        replace gs := gs.fr f12 (by omega)
        replace P0 := P0.fr f12 (by omega)
        replace P1 := P1.fr f12 (by omega)
        replace B_xa := B_xa.fr f12 (by omega)
        replace B_xb := B_xb.fr f12 (by omega)
        rw [hZ]
        have ⟨⟨c_P0, d_P0⟩, _, l_P0⟩ := P0.at2
        have ⟨c_P1, _, l_P1⟩ := P1.at1
        have ⟨c_B_xb, _, l_B_xb⟩ := B_xb.at1
        go_wp2_with fail
        clear c_P0 d_P0 l_P0 c_P1 l_P1 c_B_xb l_B_xb
        refine (c_markAssembly _ _ _ _ _ (Z : Int) _ xb (by omega) (by omega)).mono ?_
        rintro e w13 ⟨rfl, yn, f13⟩
        have q13 := f13.size
        replace N := N.fr f13 (by omega)
        replace R0 := R0.fr f13 (by omega)
        replace R1 := R1.fr f13 (by omega)
        replace ws := ws.fr f13 (by omega)
        replace gs := gs.fr f13 (by omega)
        replace P0 := P0.fr f13 (by omega)
        replace P1 := P1.fr f13 (by omega)
        replace B_xb := B_xb.fr f13 (by omega)
        rw [hZ2]
        have ⟨⟨c_P0, d_P0⟩, _, l_P0⟩ := P0.at2
        have ⟨c_P1, _, l_P1⟩ := P1.at1
        go_wp2_with fail
        clear c_P0 d_P0 l_P0 c_P1 l_P1
        refine (c_eqInt64S _ _ _ _ _ _ (ctL G0 T0 z1) (ctL G0 T0 z1) _ gs.rd ws.rd).mono ?_
        rintro e w14 ⟨rfl, n14⟩
        have q14 := n14.size
        replace N := N.step n14
        replace R0 := R0.new n14
        replace R1 := R1.new n14
        replace ws := ws.new n14
        replace gs := gs.new n14
        replace P0 := P0.new n14
        replace P1 := P1.new n14
        have ⟨⟨c_P0, d_P0⟩, _, l_P0⟩ := P0.at2
        have ⟨c_P1, _, l_P1⟩ := P1.at1
        go_wp2_with fail
        clear c_P0 d_P0 l_P0 c_P1 l_P1
        refine (c_markInt64S _ _ _ _ _ _ _ gs (by omega) (by omega)).mono ?_
        rintro e w15 ⟨rfl, gm, f15⟩
        have q15 := f15.size
        replace N := N.fr f15 (by omega)
        replace R0 := R0.fr f15 (by omega)
        replace R1 := R1.fr f15 (by omega)
        replace ws := ws.fr f15 (by omega)
        replace P0 := P0.fr f15 (by omega)
        replace P1 := P1.fr f15 (by omega)
        have ⟨⟨c_P0, d_P0⟩, _, l_P0⟩ := P0.at2
        have ⟨c_P1, _, l_P1⟩ := P1.at1
        go_wp2_with fail
        clear c_P0 d_P0 l_P0 c_P1 l_P1
        refine (c_heldInt64S _ _ _ (ctL G0 T0 z1).length _ _ gm.rd (by omega) (by omega)).mono ?_
        rintro e w16 ⟨rfl, n16⟩
        have q16 := n16.size
        replace N := N.step n16
        replace R0 := R0.new n16
        replace R1 := R1.new n16
        replace ws := ws.new n16
        replace gm := gm.new n16
        replace P0 := P0.new n16
        replace P1 := P1.new n16
        have ⟨⟨c_P0, d_P0⟩, _, l_P0⟩ := P0.at2
        have ⟨c_P1, _, l_P1⟩ := P1.at1
        go_upto_region 31 with fail
        clear c_P0 d_P0 l_P0 c_P1 l_P1
        have T17_0 := Lib.hid (fun (wx : World) (nx : New w16 wx) => c_toTileSet _ _ _ _ G0 T0 _ wx (R0.new nx) (by omega) (by omega) hs0)
        have T17_1 := Lib.hid (fun (wx : World) (nx : New w16 wx) => c_toAssembly _ _ _ z1 wx (R1.new nx) (by omega))
        go_cut [15, 16] (fun sx cx wx => cx = .int .i64 (ctC G0 T0 z1) ∧ Own wx w16.heap.size wx.heap.size 2 1 sx (ctL G0 T0 z1).length ((ctL G0 T0 z1).map (Value.int .i64)) ∧ New w16 wx)
        case first =>
          go_region_held3 (fun w' => w'.cell? ⟨w.heap.size, 0, none⟩ = some (.slice A0 G0.length c0) ∧ w'.cell? ⟨w.heap.size, 1, none⟩ = some (.slice B0 T0.length d0) ∧ w'.cell? ⟨w.heap.size + 1, 0, none⟩ = some (.slice A1 z1.length c1))
            (exact keepVB (w1 := w16) (by (repeat' (first | (with_reducible exact New.same _) | (with_reducible assumption) | (with_reducible refine New.box ?_ _) | (with_reducible refine New.drew_ ?_) | (with_reducible refine New.set ?_ ?_ _ _) | (with_reducible refine New.step ?_ (by assumption))))) P0 P1)
            (first | (go_at_call_of 16 (Value.slice A0 G0.length c0); refine (T17_0.out _ ?_).mono ?_; (· (repeat' (first | (with_reducible exact New.same _) | (with_reducible assumption) | (with_reducible refine New.box ?_ _) | (with_reducible refine New.drew_ ?_) | (with_reducible refine New.set ?_ ?_ _ _) | (with_reducible refine New.step ?_ (by assumption))))); rintro e wa17_0 ⟨gq17_0, tq17_0, sq17_0, rfl, hQ17_0, na17_0⟩) | (go_at_call 17; refine (T17_1.out _ ?_).mono ?_; (· (repeat' (first | (with_reducible exact New.same _) | (with_reducible assumption) | (with_reducible refine New.box ?_ _) | (with_reducible refine New.drew_ ?_) | (with_reducible refine New.set ?_ ?_ _ _) | (with_reducible refine New.step ?_ (by assumption))))); rintro e wa17_1 ⟨u17_1, rfl, hQ17_1, na17_1⟩) | (go_at_call 26; refine (c_implCountTiles _ _ _ _ _ _ _ G0 T0 _ z1 _ (RdS.new hQ17_0.rd ?_) hg0 ht0 (Rd.new hQ17_1.rd ?_)).mono ?_; (· (repeat' (first | (with_reducible exact New.same _) | (with_reducible assumption) | (with_reducible refine New.box ?_ _) | (with_reducible refine New.drew_ ?_) | (with_reducible refine New.set ?_ ?_ _ _) | (with_reducible refine New.step ?_ (by assumption))))); (· (repeat' (first | (with_reducible exact New.same _) | (with_reducible assumption) | (with_reducible refine New.box ?_ _) | (with_reducible refine New.drew_ ?_) | (with_reducible refine New.set ?_ ?_ _ _) | (with_reducible refine New.step ?_ (by assumption))))); rintro e wc17 ⟨vc17, rfl, hc17, nc17⟩))
          all_goals (go_wp2_with fail; go_meet; exact ⟨by rfl, (hc17).wide ((show New _ _ by (repeat' (first | (with_reducible exact New.same _) | (with_reducible assumption) | (with_reducible refine New.box ?_ _) | (with_reducible refine New.drew_ ?_) | (with_reducible refine New.set ?_ ?_ _ _) | (with_reducible refine New.step ?_ (by assumption))))).size) (Nat.le_refl _) (Nat.le_refl _), by (repeat' (first | (with_reducible exact New.same _) | (with_reducible assumption) | (with_reducible refine New.box ?_ _) | (with_reducible refine New.drew_ ?_) | (with_reducible refine New.set ?_ ?_ _ _) | (with_reducible refine New.step ?_ (by assumption))))⟩)
        case rest =>
          obtain ⟨rfl, hs, M17⟩ := hcut
          clear T17_0 T17_1
          have q17 := M17.size
          replace N := N.step M17
          replace R0 := R0.new M17
          replace R1 := R1.new M17
          replace ws := ws.new M17
          replace gm := gm.new M17
          replace P0 := P0.new M17
          replace P1 := P1.new M17
          have ⟨⟨c_P0, d_P0⟩, _, l_P0⟩ := P0.at2
          have ⟨c_P1, _, l_P1⟩ := P1.at1
          go_wp2_with fail
          clear c_P0 d_P0 l_P0 c_P1 l_P1
          refine (c_eqInt64S _ _ _ _ _ _ (ctL G0 T0 z1) (ctL G0 T0 z1) _ hs.rd ws.rd).mono ?_
          rintro e w18 ⟨rfl, n18⟩
          have q18 := n18.size
          replace N := N.step n18
          replace R0 := R0.new n18
          replace R1 := R1.new n18
          replace ws := ws.new n18
          replace gm := gm.new n18
          replace hs := hs.new n18
          replace P0 := P0.new n18
          replace P1 := P1.new n18
          have ⟨⟨c_P0, d_P0⟩, _, l_P0⟩ := P0.at2
          have ⟨c_P1, _, l_P1⟩ := P1.at1
          go_wp2_with fail
          clear c_P0 d_P0 l_P0 c_P1 l_P1
          refine (c_heldInt64S _ _ _ (ctL G0 T0 z1).length _ _ gm.rd (by omega) (by omega)).mono ?_
          rintro e w19 ⟨rfl, n19⟩
          have q19 := n19.size
          replace N := N.step n19
          replace R0 := R0.new n19
          replace R1 := R1.new n19
          replace ws := ws.new n19
          replace gm := gm.new n19
          replace hs := hs.new n19
          replace P0 := P0.new n19
          replace P1 := P1.new n19
          have ⟨⟨c_P0, d_P0⟩, _, l_P0⟩ := P0.at2
          have ⟨c_P1, _, l_P1⟩ := P1.at1
          go_wp2
          go_ret
          exact ⟨rfl, N⟩
    · have EE1 : L1 = -1 := by unfold szL at E1; split at E1 <;> omega
      subst EE1
      go_enter Try.func6, Try.ntmps6
      go_wp2_with fail
      have q0 : w.heap.size + 2 ≤ ((w.alloc (.cells #[.slice A0 G0.length c0, .slice B0 T0.length d0] 25)).alloc (.cells #[.slice A1 z1.length c1] 28)).heap.size := by simp
      generalize ((w.alloc (.cells #[.slice A0 G0.length c0, .slice B0 T0.length d0] 25)).alloc (.cells #[.slice A1 z1.length c1] 28)) = W0 at *
      replace R0 := R0.new N
      replace R1 := R1.new N
      refine (c_szTileSet _ _ _ _ G0 T0 _ (1048576) _ R0 hg0 ht0 (by omega) (by omega)).mono ?_
      rintro e w20 ⟨rfl, n20⟩
      have q20 := n20.size
      replace N := N.step n20
      replace R0 := R0.new n20
      replace R1 := R1.new n20
      replace P0 := P0.new n20
      replace P1 := P1.new n20
      rw [E0]
      have ⟨⟨c_P0, d_P0⟩, _, l_P0⟩ := P0.at2
      have ⟨c_P1, _, l_P1⟩ := P1.at1
      go_wp2_with fail
      clear c_P0 d_P0 l_P0 c_P1 l_P1
      refine (c_szAssembly A1 _ c1 (L0) _ hm1 (by omega) (by omega)).mono ?_
      rintro e w21 ⟨rfl, n21⟩
      have q21 := n21.size
      replace N := N.step n21
      replace R0 := R0.new n21
      replace R1 := R1.new n21
      replace P0 := P0.new n21
      replace P1 := P1.new n21
      rw [E1]
      have ⟨⟨c_P0, d_P0⟩, _, l_P0⟩ := P0.at2
      have ⟨c_P1, _, l_P1⟩ := P1.at1
      go_wp2
      go_ret
      exact ⟨rfl, N⟩
  · have EE0 : L0 = -1 := by rw [← E0]; exact szS_lo _ _ _ (by rw [E0]; omega)
    subst EE0
    go_enter Try.func6, Try.ntmps6
    go_wp2_with fail
    have q0 : w.heap.size + 2 ≤ ((w.alloc (.cells #[.slice A0 G0.length c0, .slice B0 T0.length d0] 25)).alloc (.cells #[.slice A1 z1.length c1] 28)).heap.size := by simp
    generalize ((w.alloc (.cells #[.slice A0 G0.length c0, .slice B0 T0.length d0] 25)).alloc (.cells #[.slice A1 z1.length c1] 28)) = W0 at *
    replace R0 := R0.new N
    replace R1 := R1.new N
    refine (c_szTileSet _ _ _ _ G0 T0 _ (1048576) _ R0 hg0 ht0 (by omega) (by omega)).mono ?_
    rintro e w22 ⟨rfl, n22⟩
    have q22 := n22.size
    replace N := N.step n22
    replace R0 := R0.new n22
    replace R1 := R1.new n22
    replace P0 := P0.new n22
    replace P1 := P1.new n22
    rw [E0]
    have ⟨⟨c_P0, d_P0⟩, _, l_P0⟩ := P0.at2
    have ⟨c_P1, _, l_P1⟩ := P1.at1
    go_wp2
    go_ret
    exact ⟨rfl, N⟩

set_option maxRecDepth 100000 in
theorem lifted (os : Os) (started : os.Started) (H : Type) (enc : TypeId × Value → H) :
    ReturnsInHanded {} Try.checked os 6 .any (Rows.fnExactCountTilesSpec.pre6 enc Try.prog Try.f6 Rows.fnExactCountTilesRow.domain false) (Rows.fnExactCountTilesSpec.post enc Try.prog Try.f6 false true false false) := by
  refine returnsInHanded_of_change (C := Try.checked) prog_own started (by kernel_rfl) Try.func6
    (ChangeSpec.witness6 (enc := enc) (C := Try.checked) false ⟨#[], #[.agg #[.slice none 0 0, .slice none 0 0], .agg #[.slice none 0 0]], []⟩ 8 (by kernel_rfl) (by kernel_rfl) (by kernel_rfl) (by kernel_rfl)) ?_
  intro W base args ds gs before hval0 hW _ _
  have hval : ∀ (j : Nat) t v, Try.f6.params[j]? = some t → args[j]? = some v → Value.okWide Try.prog W .any base t v := hval0
  have hW' := hW
  obtain ⟨p, q, hA0, hV, rfl, _, _⟩ := hW
  have hA : DataW.TrodAll enc Try.prog W 0 (fun _ => true) true Try.f6.params.toList args.toList ds p := hA0
  rw [Try.params6] at hA hval
  have hlt : ∀ x ∈ p, x.block < W.heap.size := fun x hx => hW'.lt x (List.mem_append_left _ hx)
  obtain ⟨v0, vs0, d0, ds0, p0, q0, hargs, rfl, rfl, h0, t0⟩ := trodAll_cons hA
  obtain ⟨v1, vs1, d1, ds1, p1, q1, rfl, rfl, rfl, h1, t1⟩ := trodAll_cons t0
  obtain ⟨rfl, rfl, rfl⟩ := trodAll_nil t1
  obtain rfl : args = #[v0, v1] := by cases args; simp_all
  have hlt0 : ∀ x ∈ p0, x.block < W.heap.size := fun x hx => hlt x (List.mem_append_left _ hx)
  have hlt1 : ∀ x ∈ p1, x.block < W.heap.size := fun x hx => hlt x (List.mem_append_right _ (List.mem_append_left _ hx))
  obtain ⟨gv0, tv0, G0, T0, sv0, rfl, ⟨rg0, hg0⟩, rt0, ht0⟩ := open_set Try.underlying25 (by kernel_rfl) rfl rfl rfl rfl (by kernel_rfl) (by kernel_rfl) Try.underlying22 Try.underlying108 (by kernel_rfl) rfl rfl rfl rfl Try.underlying23 Try.underlying110 (by kernel_rfl) rfl rfl rfl rfl (by kernel_rfl) (by kernel_rfl) (by kernel_rfl) Try.underlying9 Try.underlying2 Try.underlying52 (hval 0 25 v0 rfl rfl) h0 hlt0
  obtain ⟨u1, z1, rfl, r1⟩ := open_asm Try.underlying28 (by kernel_rfl) rfl rfl (by kernel_rfl) Try.underlying26 Try.underlying120 (by kernel_rfl) rfl rfl rfl rfl (by kernel_rfl) (by kernel_rfl) Try.underlying118 rfl rfl rfl rfl (by kernel_rfl) (by kernel_rfl) Try.underlying2 Try.underlying2 Try.underlying2 (hval 1 28 v1 rfl rfl) h1 hlt1
  refine (walk W gv0 tv0 G0 T0 sv0 ⟨rg0, rt0⟩ hg0 ht0 u1 z1 r1).mono fun e W' ⟨he, hb⟩ => ⟨_, he, ?_⟩
  exact law_post prog_laid (by kernel_rfl) rfl Try.underlying4 rfl (by intro ds h; rw [Try.params6] at h; match ds, h with | [_, _], _ => exact ⟨rfl, rfl, rfl⟩) hW' hb

theorem over : Rows.fnExactCountTilesRow.holds Try.pinned (OpenSpec.ofChange Rows.fnExactCountTilesSpec) :=
  OpenClaim.holds_of_wide 6 Try.f6 rfl rfl rfl rfl rfl rfl rfl ⟨rfl, rfl, rfl, rfl, rfl⟩ rfl rfl rfl rfl rfl (by kernel_rfl) Try.func6 (by kernel_rfl)
    (of_decide_eq_true (by kernel_rfl)) (by unfold Func.isWrapper; first | (rw [if_pos (by decide +kernel)]; kernel_rfl) | (rw [if_neg (by decide +kernel)]; exact ⟨rfl, rfl⟩))
    (fun os started H enc _ => lifted os started H enc)

theorem proved : Rows.FnExactCountTilesSaid := over
end fnExactCountTiles
#print axioms fnExactCountTiles.proved

end Go.Proofs.Ytcikfognbjbniaa
