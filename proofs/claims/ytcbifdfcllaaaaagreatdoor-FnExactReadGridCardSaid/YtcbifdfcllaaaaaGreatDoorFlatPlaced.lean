/- Contracts of the functions on slices of Placed: copying, comparing, counting. -/
import Derived.Test.YtcbifdfcllaaaaaGreatDoorPl
namespace Go.Proofs.YtcbifdfcllaaaaaGreatDoor
open Go.RowKit Go.Deep
set_option linter.unusedVariables false
set_option linter.unusedSimpArgs false

theorem info_Placed : (Tryz.prog.info? 85).map (fun i => (i.zero, i.size, i.bytes)) = some (some (.agg #[.int .i64 0, .int .i64 0, .int .i64 0]), 3, 24) := by kernel_rfl
theorem row_Placed : ElemRow Tryz.prog 27 85 3 24 := elemRow Tryz.underlying27 info_Placed rfl (by omega)




set_option maxHeartbeats 2000000 in
theorem c_eqPlaced (p q : (Int × Int) × Int) (w : World) : Calls Tryz.prog 57 #[.agg #[.int .i64 p.1.1, .int .i64 p.1.2, .int .i64 p.2], .agg #[.int .i64 q.1.1, .int .i64 q.1.2, .int .i64 q.2]] w fun e w' => e = .returned (.bool (decide (p = q))) ∧ New w w' := by
  have N0 : New w ((w.alloc (.cells #[.int .i64 p.1.1, .int .i64 p.1.2, .int .i64 p.2] 85)).alloc (.cells #[.int .i64 q.1.1, .int .i64 q.1.2, .int .i64 q.2] 85)) := ((New.same w).box _).box _
  have B0 : BoxV ((w.alloc (.cells #[.int .i64 p.1.1, .int .i64 p.1.2, .int .i64 p.2] 85)).alloc (.cells #[.int .i64 q.1.1, .int .i64 q.1.2, .int .i64 q.2] 85)) w.heap.size [.int .i64 p.1.1, .int .i64 p.1.2, .int .i64 p.2] := .three (by go_simp) (by go_simp) (by go_simp) (by go_simp) (by go_simp) (by go_simp) (by simp <;> omega)
  have B1 : BoxV ((w.alloc (.cells #[.int .i64 p.1.1, .int .i64 p.1.2, .int .i64 p.2] 85)).alloc (.cells #[.int .i64 q.1.1, .int .i64 q.1.2, .int .i64 q.2] 85)) (w.heap.size + 1) [.int .i64 q.1.1, .int .i64 q.1.2, .int .i64 q.2] := .three (by go_simp) (by go_simp) (by go_simp) (by go_simp) (by go_simp) (by go_simp) (by simp <;> omega)
  have ⟨⟨a0, a1, a2⟩, _, _⟩ := B0.at3
  have ⟨⟨b0, b1, b2⟩, _, _⟩ := B1.at3
  by_cases h0 : p.1 = q.1
  · have D0 := Lib.hid (show decide (p.1 = q.1) = true from decide_eq_true h0)
    by_cases h1 : p.2 = q.2
    · have E := Lib.hid (show decide (p = q) = true from decide_eq_true (Prod.ext h0 h1))
      have g1 : (p.2 != q.2) = false := by simpa using h1
      clear h0 h1
      go_enter Tryz.func57, Tryz.ntmps57
      go_wp2_with fail
      clear a0 a1 a2 b0 b1 b2
      generalize ((w.alloc (.cells #[.int .i64 p.1.1, .int .i64 p.1.2, .int .i64 p.2] 85)).alloc (.cells #[.int .i64 q.1.1, .int .i64 q.1.2, .int .i64 q.2] 85)) = W0 at *
      refine (c_eqPoint p.1 q.1 _).mono ?_
      rintro e w1 ⟨rfl, n1⟩
      rw [D0.out]
      have ⟨⟨a0, a1, a2⟩, _, _⟩ := (B0.new n1).at3
      have ⟨⟨b0, b1, b2⟩, _, _⟩ := (B1.new n1).at3
      go_wp2
      go_ret
      exact ⟨ret_bool E.out.symm, N0.step n1⟩
    · have E := Lib.hid (show decide (p = q) = false from decide_eq_false (fun e => h1 (by rw [e])))
      have g1 : (p.2 != q.2) = true := by simpa using h1
      clear h0 h1
      go_enter Tryz.func57, Tryz.ntmps57
      go_wp2_with fail
      clear a0 a1 a2 b0 b1 b2
      generalize ((w.alloc (.cells #[.int .i64 p.1.1, .int .i64 p.1.2, .int .i64 p.2] 85)).alloc (.cells #[.int .i64 q.1.1, .int .i64 q.1.2, .int .i64 q.2] 85)) = W0 at *
      refine (c_eqPoint p.1 q.1 _).mono ?_
      rintro e w1 ⟨rfl, n1⟩
      rw [D0.out]
      have ⟨⟨a0, a1, a2⟩, _, _⟩ := (B0.new n1).at3
      have ⟨⟨b0, b1, b2⟩, _, _⟩ := (B1.new n1).at3
      go_wp2
      go_ret
      exact ⟨ret_bool E.out.symm, N0.step n1⟩
  · have D0 := Lib.hid (show decide (p.1 = q.1) = false from decide_eq_false h0)
    have E := Lib.hid (show decide (p = q) = false from decide_eq_false (fun e => h0 (by rw [e])))
    clear h0
    go_enter Tryz.func57, Tryz.ntmps57
    go_wp2_with fail
    clear a0 a1 a2 b0 b1 b2
    generalize ((w.alloc (.cells #[.int .i64 p.1.1, .int .i64 p.1.2, .int .i64 p.2] 85)).alloc (.cells #[.int .i64 q.1.1, .int .i64 q.1.2, .int .i64 q.2] 85)) = W0 at *
    refine (c_eqPoint p.1 q.1 _).mono ?_
    rintro e w1 ⟨rfl, n1⟩
    rw [D0.out]
    go_wp2
    go_ret
    exact ⟨ret_bool E.out.symm, N0.step n1⟩

set_option maxHeartbeats 4000000 in
theorem c_eqPlacedS (lo hi lo' hi' : Nat) (v u : Value) (xs ys : List ((Int × Int) × Int)) (w : World) (h : Rd w lo hi 3 v xs.length (xs.flatMap plCells)) (h' : Rd w lo' hi' 3 u ys.length (ys.flatMap plCells)) :
    Calls Tryz.prog 26 #[v, u] w fun e w' => e = .returned (.bool (eqL xs ys)) ∧ New w w' := by
  have HR := Lib.hid h
  have HS := Lib.hid h'
  obtain ⟨_, hm, hh, A, c, rfl, hrd⟩ := h
  obtain ⟨_, hm', hh', A', c', rfl, hrd'⟩ := h'
  have ha : 0 < xs.length → ∃ b off, A = some ⟨b, off, none⟩ := fun h => by obtain ⟨b, off, e, _⟩ := hrd h; exact ⟨b, off, e⟩
  have HA := Lib.hid ha
  have ha' : 0 < ys.length → ∃ b off, A' = some ⟨b, off, none⟩ := fun h => by obtain ⟨b, off, e, _⟩ := hrd' h; exact ⟨b, off, e⟩
  have HA' := Lib.hid ha'
  clear hrd ha hh hrd' ha' hh'
  by_cases hl : xs.length = ys.length
  · have HL := Lib.hid hl
    have hl1 : xs.length ≤ ys.length := by omega
    have hl2 : ys.length ≤ xs.length := by omega
    have hl3 : ((xs.length : Int) != (ys.length : Int)) = false := by simp [hl]
    clear hl
    go_enter Tryz.func26, Tryz.ntmps26
    go_wp2
    go_loopw [5] (fun i wr => ∃ k : Nat, k ≤ xs.length ∧ i = .int .i64 k ∧ Hid (xs.take k = ys.take k) ∧ New w wr) (fun i _ => xs.length - (intOf i).toNat)
    case atStart => exact ⟨0, Nat.zero_le _, rfl, Lib.hid (by simp), New.same _⟩
    case round =>
      obtain ⟨k, hk, rfl, HT, hN⟩ := hrel
      by_cases hlt : k < xs.length
      · obtain ⟨b, off, hAe⟩ := HA.out (by omega)
        subst hAe
        obtain ⟨b', off', hAe'⟩ := HA'.out (by omega)
        subst hAe'
        have hlt' : k < ys.length := by omega
        obtain ⟨⟨x0, x1, x2⟩, bw⟩ := rd_pl HR.out hN rfl hlt
        obtain ⟨⟨y0, y1, y2⟩, bw'⟩ := rd_pl HS.out hN rfl hlt'
        have p0 : (0 : Int) ≤ (k : Int) := by omega
        have p1 : (k : Int) < (xs.length : Int) := by omega
        have p2 : (k : Int) < (ys.length : Int) := by omega
        have lx0 := Later.cell x0 bw
        have lx1 := Later.cell x1 bw
        have lx2 := Later.cell x2 bw
        have ly0 := Later.cell y0 bw'
        have ly1 := Later.cell y1 bw'
        have ly2 := Later.cell y2 bw'
        by_cases he : xs[k] = ys[k]
        · have HT' := take_more HT.out hlt hlt' he
          have C1 := Lib.hid (fun w => (decide_eq_true he) ▸ c_eqPlaced xs[k] ys[k] w)
          clear he
          go_upto_region 6 with fail
          (refine wp_region_later (by kernel_rfl) (by kernel_rfl) ?_; (repeat (go_big_quiet_step ((first | (go_at_call 57; exact later_of (C1.out _)))))); refine wpQuiet_nil ?_; intro wq hw'; obtain ⟨⟨wz, nq⟩, hwz⟩ := hw'; have hwz' : wq = wz := hwz; subst hwz'; clear hwz)
          clear lx0 lx1 lx2 ly0 ly1 ly2
          go_wp2
          go_roundw
          case rel => exact ⟨k + 1, by omega, by go_num, HT', hN.step nq⟩
          case measure => simp [intOf]; omega
        · have HE := Lib.hid (eqL_at hlt hlt' he)
          have C1 := Lib.hid (fun w => (decide_eq_false he) ▸ c_eqPlaced xs[k] ys[k] w)
          clear he
          go_upto_region 6 with fail
          (refine wp_region_later (by kernel_rfl) (by kernel_rfl) ?_; (repeat (go_big_quiet_step ((first | (go_at_call 57; exact later_of (C1.out _)))))); refine wpQuiet_nil ?_; intro wq hw'; obtain ⟨⟨wz, nq⟩, hwz⟩ := hw'; have hwz' : wq = wz := hwz; subst hwz'; clear hwz)
          clear lx0 lx1 lx2 ly0 ly1 ly2
          go_wp2
          go_ret
          exact ⟨ret_bool HE.out.symm, hN.step nq⟩
      · have hk' : k = xs.length := by omega
        subst hk'
        go_wp2
        go_ret
        exact ⟨ret_bool (eqL_all HL.out HT.out).symm, hN⟩
  · have HL := Lib.hid (eqL_len hl)
    have hl3 : ((xs.length : Int) != (ys.length : Int)) = true := by simp; omega
    clear hl
    go_enter Tryz.func26, Tryz.ntmps26
    go_wp2
    go_ret
    exact ⟨ret_bool HL.out.symm, New.same _⟩


end Go.Proofs.YtcbifdfcllaaaaaGreatDoor
