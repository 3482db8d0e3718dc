/- Contracts of the functions that compare slices of points. -/
import Derived.Test.YtfnihmmkbnkmnaaDoorPts
import Derived.Test.YtfnihmmkbnkmnaaDoorInts
import Derived.Deep.DeepCutAuto
namespace Go.Proofs.YtfnihmmkbnkmnaaDoor
open Go.RowKit
set_option linter.unusedVariables false

set_option maxHeartbeats 400000 in
theorem c_eqPoint (p q : Int × Int) (w : World) : Calls Tryd.prog 28 #[.agg #[.int .i64 p.1, .int .i64 p.2], .agg #[.int .i64 q.1, .int .i64 q.2]] w fun e w' => e = .returned (.bool (decide (p = q))) ∧ New w w' := by
  by_cases h0 : p.1 = q.1
  · by_cases h1 : p.2 = q.2
    · have E := Lib.hid (show decide (p = q) = true from decide_eq_true (Prod.ext h0 h1))
      have g0 : (p.1 != q.1) = false := by simpa using h0
      have g1 : (p.2 != q.2) = false := by simpa using h1
      have k0 : (p.1 == q.1) = true := by simpa using h0
      have k1 : (p.2 == q.2) = true := by simpa using h1
      clear h0 h1
      go_enter Tryd.func28, Tryd.ntmps28
      go_wp2
      go_ret
      exact ⟨ret_bool E.out.symm, by go_grown⟩
    · have E := Lib.hid (show decide (p = q) = false from decide_eq_false (fun e => h1 (by rw [e])))
      have g0 : (p.1 != q.1) = false := by simpa using h0
      have g1 : (p.2 != q.2) = true := by simpa using h1
      have k0 : (p.1 == q.1) = true := by simpa using h0
      have k1 : (p.2 == q.2) = false := by simpa using h1
      clear h0 h1
      go_enter Tryd.func28, Tryd.ntmps28
      go_wp2
      go_ret
      exact ⟨ret_bool E.out.symm, by go_grown⟩
  · have E := Lib.hid (show decide (p = q) = false from decide_eq_false (fun e => h0 (by rw [e])))
    have g0 : (p.1 != q.1) = true := by simpa using h0
    have k0 : (p.1 == q.1) = false := by simpa using h0
    clear h0
    go_enter Tryd.func28, Tryd.ntmps28
    go_wp2
    go_ret
    exact ⟨ret_bool E.out.symm, by go_grown⟩

set_option maxHeartbeats 2000000 in
theorem c_eqPointS (lo hi lo' hi' : Nat) (v u : Value) (xs ys : List (Int × Int)) (w : World) (h : Rd w lo hi 2 v xs.length (xs.flatMap ptCells)) (h' : Rd w lo' hi' 2 u ys.length (ys.flatMap ptCells)) :
    Calls Tryd.prog 8 #[v, u] w fun e w' => e = .returned (.bool (eqL xs ys)) ∧ New w w' := by
  obtain ⟨_, hm, hh, A, c, rfl, hrd⟩ := h
  obtain ⟨_, _, hh', A', c', rfl, hrd'⟩ := h'
  by_cases hl : xs.length = ys.length
  · have HL := Lib.hid hl
    have hl1 : xs.length ≤ ys.length := by omega
    have hl2 : ys.length ≤ xs.length := by omega
    have hl3 : ((xs.length : Int) != (ys.length : Int)) = false := by simp [hl]
    clear hl
    go_enter Tryd.func8, Tryd.ntmps8
    go_wp2
    go_loopw [5] (fun i wr => ∃ k : Nat, k ≤ xs.length ∧ i = .int .i64 k ∧ Hid (xs.take k = ys.take k) ∧ New w wr) (fun i _ => xs.length - (intOf i).toNat)
    case atStart => exact ⟨0, Nat.zero_le _, rfl, Lib.hid (by simp), New.same _⟩
    case round =>
      obtain ⟨k, hk, rfl, HT, hN⟩ := hrel
      by_cases hlt : k < xs.length
      · obtain ⟨b, off, rfl, _, hb1, hc⟩ := hrd (by omega)
        obtain ⟨b', off', rfl, _, hb1', hc'⟩ := hrd' (by omega)
        have hlt' : k < ys.length := by omega
        have x0 : wr.cell? ⟨b, off + k * 2, none⟩ = some (.int .i64 xs[k].1) := by
          rw [hN.cell (p := ⟨b, off + k * 2, none⟩) (by simp; omega)]
          exact hc (k * 2) _ (pts_get0 hlt)
        have x1 : wr.cell? ⟨b, off + k * 2 + 1, none⟩ = some (.int .i64 xs[k].2) := by
          rw [hN.cell (p := ⟨b, off + k * 2 + 1, none⟩) (by simp; omega)]
          exact hc (k * 2 + 1) _ (pts_get1 hlt)
        have y0 : wr.cell? ⟨b', off' + k * 2, none⟩ = some (.int .i64 ys[k].1) := by
          rw [hN.cell (p := ⟨b', off' + k * 2, none⟩) (by simp; omega)]
          exact hc' (k * 2) _ (pts_get0 hlt')
        have y1 : wr.cell? ⟨b', off' + k * 2 + 1, none⟩ = some (.int .i64 ys[k].2) := by
          rw [hN.cell (p := ⟨b', off' + k * 2 + 1, none⟩) (by simp; omega)]
          exact hc' (k * 2 + 1) _ (pts_get1 hlt')
        clear hc hc' hrd hrd'
        have hs := hN.size
        have bw : b < wr.heap.size := by omega
        have bw' : b' < wr.heap.size := by omega
        by_cases he : xs[k] = ys[k]
        · have HT' := take_more HT.out hlt hlt' he
          have gg : decide (xs[k] = ys[k]) = true := decide_eq_true he
          clear he
          have p0 : (0 : Int) ≤ (k : Int) := by omega
          have p1 : (k : Int) < (xs.length : Int) := by omega
          have p2 : (k : Int) < (ys.length : Int) := by omega
          go_upto_region 6 with fail
          go_region_held3 (fun w' => w'.cell? ⟨b, off + k * 2, none⟩ = some (.int .i64 xs[k].1) ∧ w'.cell? ⟨b, off + k * 2 + 1, none⟩ = some (.int .i64 xs[k].2) ∧ w'.cell? ⟨b', off' + k * 2, none⟩ = some (.int .i64 ys[k].1) ∧ w'.cell? ⟨b', off' + k * 2 + 1, none⟩ = some (.int .i64 ys[k].2))
            (first | exact ⟨x0, x1, y0, y1⟩ | exact ⟨(na.cell (p := ⟨b, off + k * 2, none⟩) bw).trans x0, (na.cell (p := ⟨b, off + k * 2 + 1, none⟩) bw).trans x1, (na.cell (p := ⟨b', off' + k * 2, none⟩) bw').trans y0, (na.cell (p := ⟨b', off' + k * 2 + 1, none⟩) bw').trans y1⟩)
            ((go_at_call 28; refine (c_eqPoint xs[k] ys[k] _).mono ?_; rintro e wa ⟨rfl, na⟩; rw [gg]))
          go_wp2
          go_roundw
          case rel => exact ⟨k + 1, by omega, by go_num, HT', hN.drew_.step na⟩
          case measure => simp [intOf]; omega
        · have HE := Lib.hid (eqL_at hlt hlt' he)
          have gg : decide (xs[k] = ys[k]) = false := decide_eq_false he
          clear he
          have p0 : (0 : Int) ≤ (k : Int) := by omega
          have p1 : (k : Int) < (xs.length : Int) := by omega
          have p2 : (k : Int) < (ys.length : Int) := by omega
          go_upto_region 6 with fail
          go_region_held3 (fun w' => w'.cell? ⟨b, off + k * 2, none⟩ = some (.int .i64 xs[k].1) ∧ w'.cell? ⟨b, off + k * 2 + 1, none⟩ = some (.int .i64 xs[k].2) ∧ w'.cell? ⟨b', off' + k * 2, none⟩ = some (.int .i64 ys[k].1) ∧ w'.cell? ⟨b', off' + k * 2 + 1, none⟩ = some (.int .i64 ys[k].2))
            (first | exact ⟨x0, x1, y0, y1⟩ | exact ⟨(na.cell (p := ⟨b, off + k * 2, none⟩) bw).trans x0, (na.cell (p := ⟨b, off + k * 2 + 1, none⟩) bw).trans x1, (na.cell (p := ⟨b', off' + k * 2, none⟩) bw').trans y0, (na.cell (p := ⟨b', off' + k * 2 + 1, none⟩) bw').trans y1⟩)
            ((go_at_call 28; refine (c_eqPoint xs[k] ys[k] _).mono ?_; rintro e wa ⟨rfl, na⟩; rw [gg]))
          go_wp2
          go_ret
          exact ⟨ret_bool HE.out.symm, hN.drew_.step na⟩
      · have hk' : k = xs.length := by omega
        subst hk'
        go_wp2
        go_ret
        exact ⟨ret_bool (eqL_all HL.out HT.out).symm, hN⟩
  · have HL := Lib.hid (eqL_len hl)
    go_enter Tryd.func8, Tryd.ntmps8
    go_wp2
    go_ret
    exact ⟨ret_bool HL.out.symm, New.same _⟩



end Go.Proofs.YtfnihmmkbnkmnaaDoor
