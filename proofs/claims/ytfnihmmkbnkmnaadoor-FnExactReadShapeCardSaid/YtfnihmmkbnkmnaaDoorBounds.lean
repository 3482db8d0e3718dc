/- Contracts of the functions that find the least and the greatest coordinates of points. -/
import Derived.Test.YtfnihmmkbnkmnaaDoorKeep
import Derived.Test.YtfnihmmkbnkmnaaDoorLater
import Derived.Deep.DeepCutAuto
import Derived.StillTailTactics
namespace Go.Proofs.YtfnihmmkbnkmnaaDoor
open Go.RowKit Go.Deep
set_option linter.unusedVariables false
set_option linter.unusedSimpArgs false

set_option maxRecDepth 20000 in
set_option maxHeartbeats 400000 in
theorem c_l00Min (a b : Int) (w : World) : Calls Tryd.prog 86 #[.int .i64 a, .int .i64 b] w fun e w' => e = .returned (.int .i64 (min a b)) ∧ w = w' := by
  have HV : Hid (a < b → min a b = a) := Lib.hid (fun h => by omega)
  have HW : Hid (¬ a < b → min a b = b) := Lib.hid (fun h => by omega)
  by_cases h : a < b
  · go_enter Tryd.func86, Tryd.ntmps86
    go_wp2
    go_ret
    exact ⟨ret_int (HV.out h).symm, rfl⟩
  · go_enter Tryd.func86, Tryd.ntmps86
    go_wp2
    go_ret
    exact ⟨ret_int (HW.out h).symm, rfl⟩
set_option maxRecDepth 20000 in
set_option maxHeartbeats 400000 in
theorem c_l00Max (a b : Int) (w : World) : Calls Tryd.prog 87 #[.int .i64 a, .int .i64 b] w fun e w' => e = .returned (.int .i64 (max a b)) ∧ w = w' := by
  have HV : Hid (b < a → max a b = a) := Lib.hid (fun h => by omega)
  have HW : Hid (¬ b < a → max a b = b) := Lib.hid (fun h => by omega)
  by_cases h : b < a
  · have h' : a > b := h
    go_enter Tryd.func87, Tryd.ntmps87
    go_wp2
    go_ret
    exact ⟨ret_int (HV.out h).symm, rfl⟩
  · go_enter Tryd.func87, Tryd.ntmps87
    go_wp2
    go_ret
    exact ⟨ret_int (HW.out h).symm, rfl⟩

theorem min_if (a b : Int) : min a b = if b < a then b else a := by split <;> omega
theorem max_if (a b : Int) : max a b = if a < b then b else a := by split <;> omega

/-! the least and greatest among the first k -/
def lxT (zs : List (Int × Int)) (k : Nat) : Int := minL (zs.headD (0, 0)).1 ((zs.take k).map Prod.fst)
def lyT (zs : List (Int × Int)) (k : Nat) : Int := minL (zs.headD (0, 0)).2 ((zs.take k).map Prod.snd)
def hxT (zs : List (Int × Int)) (k : Nat) : Int := maxL (zs.headD (0, 0)).1 ((zs.take k).map Prod.fst)
def hyT (zs : List (Int × Int)) (k : Nat) : Int := maxL (zs.headD (0, 0)).2 ((zs.take k).map Prod.snd)
theorem lT_succ {zs : List (Int × Int)} {k : Nat} (hk : k < zs.length) :
    (lxT zs (k + 1) = min (lxT zs k) zs[k].1 ∧ lyT zs (k + 1) = min (lyT zs k) zs[k].2) ∧ hxT zs (k + 1) = max (hxT zs k) zs[k].1 ∧ hyT zs (k + 1) = max (hyT zs k) zs[k].2 := by
  simp only [lxT, lyT, hxT, hyT, List.take_succ_eq_append_getElem hk, List.map_append, List.map_cons, List.map_nil, minL_snoc, maxL_snoc, and_self]
theorem lT_zero {zs : List (Int × Int)} (h : 0 < zs.length) : (lxT zs 0 = zs[0].1 ∧ lyT zs 0 = zs[0].2) ∧ hxT zs 0 = zs[0].1 ∧ hyT zs 0 = zs[0].2 := by
  cases zs with
  | nil => simp at h
  | cons x r => simp [lxT, lyT, hxT, hyT, minL, maxL]
theorem lT_one {zs : List (Int × Int)} (h : 0 < zs.length) : (lxT zs 1 = zs[0].1 ∧ lyT zs 1 = zs[0].2) ∧ hxT zs 1 = zs[0].1 ∧ hyT zs 1 = zs[0].2 := by
  cases zs with
  | nil => simp at h
  | cons x r => simp [lxT, lyT, hxT, hyT, minL, maxL]
theorem lT_all (zs : List (Int × Int)) : (lxT zs zs.length = lowX zs ∧ lyT zs zs.length = lowY zs) ∧ hxT zs zs.length = hghX zs ∧ hyT zs zs.length = hghY zs := by
  simp [lxT, lyT, hxT, hyT, lowX, lowY, hghX, hghY]

/-- the bounds of points, as they are handed back -/
abbrev bndV (zs : List (Int × Int)) : Value := .tuple #[.agg #[.int .i64 (lowX zs), .int .i64 (lowY zs)], .agg #[.int .i64 (hghX zs), .int .i64 (hghY zs)]]

set_option maxRecDepth 20000 in
set_option maxHeartbeats 4000000 in
theorem c_l03Bounds (lo hi : Nat) (v : Value) (zs : List (Int × Int)) (w : World) (h : Rd w lo hi 2 v zs.length (zs.flatMap ptCells)) (hn : 0 < zs.length) :
    Calls Tryd.prog 48 #[v] w fun e w' => e = .returned (bndV zs) ∧ New w w' := by
  have HR := Lib.hid h
  obtain ⟨_, hm, hh, A, c, rfl, hrd⟩ := h
  obtain ⟨b, off, rfl, _, hb1, hc⟩ := hrd hn
  clear hc hrd
  have hbw : b < w.heap.size := by omega
  have HV : Hid (bndV zs = .tuple #[.agg #[.int .i64 (lxT zs zs.length), .int .i64 (lyT zs zs.length)], .agg #[.int .i64 (hxT zs zs.length), .int .i64 (hyT zs zs.length)]]) := Lib.hid (by
    obtain ⟨⟨e1, e2⟩, e3, e4⟩ := lT_all zs
    rw [e1, e2, e3, e4])
  have x0 : w.cell? ⟨b, off, none⟩ = some (.int .i64 zs[0].1) := by simpa using (rd_pt HR.out (New.same w) rfl hn).1
  have x1 : w.cell? ⟨b, off + 1, none⟩ = some (.int .i64 zs[0].2) := by simpa using (rd_pt HR.out (New.same w) rfl hn).2.1
  obtain ⟨m0, m1⟩ := keepP (w2 := ((w.alloc (.cells #[.int .i64 0, .int .i64 0] 55)).alloc (.cells #[.int .i64 0, .int .i64 0] 55))) (((New.same w).box _).box _) hbw x0 x1
  obtain ⟨m2, m3⟩ := keepP (w2 := (((w.alloc (.cells #[.int .i64 0, .int .i64 0] 55)).alloc (.cells #[.int .i64 0, .int .i64 0] 55)).alloc (.cells #[.int .i64 zs[0].1, .int .i64 zs[0].2] 55))) ((((New.same w).box _).box _).box _) hbw x0 x1
  have N0 : New w ((((w.alloc (.cells #[.int .i64 0, .int .i64 0] 55)).alloc (.cells #[.int .i64 0, .int .i64 0] 55)).alloc (.cells #[.int .i64 zs[0].1, .int .i64 zs[0].2] 55)).alloc (.cells #[.int .i64 zs[0].1, .int .i64 zs[0].2] 55)) := ((((New.same w).box _).box _).box _).box _
  have B0 : BoxV ((((w.alloc (.cells #[.int .i64 0, .int .i64 0] 55)).alloc (.cells #[.int .i64 0, .int .i64 0] 55)).alloc (.cells #[.int .i64 zs[0].1, .int .i64 zs[0].2] 55)).alloc (.cells #[.int .i64 zs[0].1, .int .i64 zs[0].2] 55)) w.heap.size [.int .i64 0, .int .i64 0] := .two (by go_simp) (by go_simp) (by go_simp) (by go_simp) (by simp; omega)
  have B1 : BoxV ((((w.alloc (.cells #[.int .i64 0, .int .i64 0] 55)).alloc (.cells #[.int .i64 0, .int .i64 0] 55)).alloc (.cells #[.int .i64 zs[0].1, .int .i64 zs[0].2] 55)).alloc (.cells #[.int .i64 zs[0].1, .int .i64 zs[0].2] 55)) (w.heap.size + 1) [.int .i64 0, .int .i64 0] := .two (by go_simp) (by go_simp) (by go_simp) (by go_simp) (by simp)
  have B2 : BoxV ((((w.alloc (.cells #[.int .i64 0, .int .i64 0] 55)).alloc (.cells #[.int .i64 0, .int .i64 0] 55)).alloc (.cells #[.int .i64 zs[0].1, .int .i64 zs[0].2] 55)).alloc (.cells #[.int .i64 zs[0].1, .int .i64 zs[0].2] 55)) (w.heap.size + 2) [.int .i64 zs[0].1, .int .i64 zs[0].2] := .two (by go_simp) (by go_simp) (by go_simp) (by go_simp) (by simp)
  have B3 : BoxV ((((w.alloc (.cells #[.int .i64 0, .int .i64 0] 55)).alloc (.cells #[.int .i64 0, .int .i64 0] 55)).alloc (.cells #[.int .i64 zs[0].1, .int .i64 zs[0].2] 55)).alloc (.cells #[.int .i64 zs[0].1, .int .i64 zs[0].2] 55)) (w.heap.size + 3) [.int .i64 zs[0].1, .int .i64 zs[0].2] := .two (by go_simp) (by go_simp) (by go_simp) (by go_simp) (by simp)
  have HL := Lib.hid (lT_one hn)
  go_enter Tryd.func48, Tryd.ntmps48
  go_wp2
  generalize ((((w.alloc (.cells #[.int .i64 0, .int .i64 0] 55)).alloc (.cells #[.int .i64 0, .int .i64 0] 55)).alloc (.cells #[.int .i64 zs[0].1, .int .i64 zs[0].2] 55)).alloc (.cells #[.int .i64 zs[0].1, .int .i64 zs[0].2] 55)) = W0 at *
  clear x0 x1 m0 m1 m2 m3
  go_loopw [6] (fun i wr => ∃ k : Nat, 1 ≤ k ∧ k ≤ zs.length ∧ i = .int .i64 k ∧ BoxV wr w.heap.size [.int .i64 0, .int .i64 0] ∧ BoxV wr (w.heap.size + 1) [.int .i64 0, .int .i64 0] ∧ BoxV wr (w.heap.size + 2) [.int .i64 (lxT zs k), .int .i64 (lyT zs k)] ∧ BoxV wr (w.heap.size + 3) [.int .i64 (hxT zs k), .int .i64 (hyT zs k)] ∧ New w wr) (fun i _ => zs.length - (intOf i).toNat)
  case atStart =>
    obtain ⟨⟨e1, e2⟩, e3, e4⟩ := HL.out
    exact ⟨1, Nat.le_refl _, hn, rfl, B0, B1, by rw [e1, e2]; exact B2, by rw [e3, e4]; exact B3, N0⟩
  case round =>
    obtain ⟨k, hk1, hk, rfl, C0, C1, C2, C3, hN⟩ := hrel
    clear B0 B1 B2 B3 N0
    by_cases hlt : k < zs.length
    · have HS := Lib.hid (lT_succ hlt)
      have p0 : (0 : Int) ≤ (k : Int) := by omega
      have p1 : (k : Int) < (zs.length : Int) := by omega
      obtain ⟨y0, y1, _⟩ := rd_pt HR.out hN rfl hlt
      go_upto_region 6 with fail
      go_cut [] (fun wx => BoxV wx w.heap.size [.int .i64 0, .int .i64 0] ∧ BoxV wx (w.heap.size + 1) [.int .i64 0, .int .i64 0] ∧ BoxV wx (w.heap.size + 2) [.int .i64 (min (lxT zs k) zs[k].1), .int .i64 (min (lyT zs k) zs[k].2)] ∧ BoxV wx (w.heap.size + 3) [.int .i64 (hxT zs k), .int .i64 (hyT zs k)] ∧ New w wx)
      case first =>
        have ⟨⟨c2, d2⟩, ⟨f2, g2⟩, _⟩ := C2.at2
        refine region_still_tail 17 (by kernel_rfl) (by kernel_rfl) ?_
        simp only [List.take_succ_cons, List.take_zero, List.drop_succ_cons, List.drop_zero]
        repeat still_step
        still_call (still_of (c_l00Min _ _ _))
        repeat still_step
        still_call (still_of (c_l00Min _ _ _))
        repeat still_step
        refine wpStill_nil ?_
        go_wp2_with fail
        go_meet
        exact ⟨((C0.off (by simp <;> omega) _).off (by simp <;> omega) _).drew, ((C1.off (by simp <;> omega) _).off (by simp <;> omega) _).drew, (C2.both _ _).drew, ((C3.off (by simp <;> omega) _).off (by simp <;> omega) _).drew, Below.drew ((hN.setCell (by simp <;> omega) _).setCell (by simp <;> omega) _)⟩
      case rest =>
        clear C0 C1 C2 C3 hN y0 y1
        obtain ⟨C0, C1, C2, C3, hN⟩ := hcut
        obtain ⟨y0, y1, _⟩ := rd_pt HR.out hN rfl hlt
        go_upto_region 7 with fail
        have ⟨⟨c2, d2⟩, ⟨f2, g2⟩, _⟩ := C3.at2
        refine region_still_tail 17 (by kernel_rfl) (by kernel_rfl) ?_
        simp only [List.take_succ_cons, List.take_zero, List.drop_succ_cons, List.drop_zero]
        repeat still_step
        still_call (still_of (c_l00Max _ _ _))
        repeat still_step
        still_call (still_of (c_l00Max _ _ _))
        repeat still_step
        refine wpStill_nil ?_
        go_wp2_with fail
        go_roundw
        case rel =>
          obtain ⟨⟨e1, e2⟩, e3, e4⟩ := HS.out
          exact ⟨k + 1, by omega, by omega, by go_num, ((C0.off (by simp <;> omega) _).off (by simp <;> omega) _).drew, ((C1.off (by simp <;> omega) _).off (by simp <;> omega) _).drew, by rw [e1, e2]; exact ((C2.off (by simp <;> omega) _).off (by simp <;> omega) _).drew, by rw [e3, e4]; exact (C3.both _ _).drew, Below.drew ((hN.setCell (by simp <;> omega) _).setCell (by simp <;> omega) _)⟩
        case measure => simp [intOf]; omega
    · have hk' : k = zs.length := by omega
      subst hk'
      have ⟨⟨c0, d0⟩, ⟨f0, g0⟩, _⟩ := C0.at2
      have ⟨⟨c1, d1⟩, ⟨f1, g1⟩, _⟩ := C1.at2
      have ⟨⟨c2, d2⟩, ⟨f2, g2⟩, _⟩ := C2.at2
      have ⟨⟨c3, d3⟩, ⟨f3, g3⟩, _⟩ := C3.at2
      go_upto_region 8 with fail
      go_region
      all_goals
        go_wp2
        refine bodyPost_ret (v := .tuple #[.agg #[.int .i64 (lxT zs zs.length), .int .i64 (lyT zs zs.length)], .agg #[.int .i64 (hxT zs zs.length), .int .i64 (hyT zs zs.length)]]) (by simp [results, Tryd.results48, go_sem, *]) rfl ⟨congrArg Ending.returned HV.out.symm, ?_⟩
        repeat' (first | exact hN | refine New.drew_ ?_ | refine Below.setCell ?_ (by simp <;> omega) _)
set_option maxRecDepth 20000 in
set_option maxHeartbeats 4000000 in
theorem c_bounds (lo hi : Nat) (v : Value) (zs : List (Int × Int)) (w : World) (h : Rd w lo hi 2 v zs.length (zs.flatMap ptCells)) (hn : 0 < zs.length) :
    Calls Tryd.prog 54 #[v] w fun e w' => e = .returned (bndV zs) ∧ New w w' := by
  have HR := Lib.hid h
  obtain ⟨_, hm, hh, A, c, rfl, hrd⟩ := h
  obtain ⟨b, off, rfl, _, hb1, hc⟩ := hrd hn
  clear hc hrd
  have hbw : b < w.heap.size := by omega
  have HV : Hid (bndV zs = .tuple #[.agg #[.int .i64 (lxT zs zs.length), .int .i64 (lyT zs zs.length)], .agg #[.int .i64 (hxT zs zs.length), .int .i64 (hyT zs zs.length)]]) := Lib.hid (by
    obtain ⟨⟨e1, e2⟩, e3, e4⟩ := lT_all zs
    rw [e1, e2, e3, e4])
  have x0 : w.cell? ⟨b, off, none⟩ = some (.int .i64 zs[0].1) := by simpa using (rd_pt HR.out (New.same w) rfl hn).1
  have x1 : w.cell? ⟨b, off + 1, none⟩ = some (.int .i64 zs[0].2) := by simpa using (rd_pt HR.out (New.same w) rfl hn).2.1
  obtain ⟨m0, m1⟩ := keepP (w2 := ((w.alloc (.cells #[.int .i64 0, .int .i64 0] 55)).alloc (.cells #[.int .i64 0, .int .i64 0] 55))) (((New.same w).box _).box _) hbw x0 x1
  clear x0 x1
  have N0 : New w ((w.alloc (.cells #[.int .i64 0, .int .i64 0] 55)).alloc (.cells #[.int .i64 0, .int .i64 0] 55)) := ((New.same w).box _).box _
  have B0 : BoxV ((w.alloc (.cells #[.int .i64 0, .int .i64 0] 55)).alloc (.cells #[.int .i64 0, .int .i64 0] 55)) w.heap.size [.int .i64 0, .int .i64 0] := .two (by go_simp) (by go_simp) (by go_simp) (by go_simp) (by simp; omega)
  have B1 : BoxV ((w.alloc (.cells #[.int .i64 0, .int .i64 0] 55)).alloc (.cells #[.int .i64 0, .int .i64 0] 55)) (w.heap.size + 1) [.int .i64 0, .int .i64 0] := .two (by go_simp) (by go_simp) (by go_simp) (by go_simp) (by simp)
  have HL := Lib.hid (lT_zero hn)
  have hb2 : b < ((w.alloc (.cells #[.int .i64 0, .int .i64 0] 55)).alloc (.cells #[.int .i64 0, .int .i64 0] 55)).heap.size := by simp; omega
  have Z2 : w.heap.size + 2 ≤ ((w.alloc (.cells #[.int .i64 0, .int .i64 0] 55)).alloc (.cells #[.int .i64 0, .int .i64 0] 55)).heap.size := by simp
  go_enter Tryd.func54, Tryd.ntmps54
  go_upto_region 1 with fail
  generalize ((w.alloc (.cells #[.int .i64 0, .int .i64 0] 55)).alloc (.cells #[.int .i64 0, .int .i64 0] 55)) = W0 at *
  go_cut [4, 5] (fun s4 s5 wx => ∃ p q : Nat, s4 = .pointer (some ⟨p, 0, none⟩) ∧ s5 = .pointer (some ⟨q, 0, none⟩) ∧ p ≠ q ∧ W0.heap.size ≤ p ∧ W0.heap.size ≤ q ∧ BoxV wx p [.int .i64 zs[0].1, .int .i64 zs[0].2] ∧ BoxV wx q [.int .i64 zs[0].1, .int .i64 zs[0].2] ∧ New W0 wx)
  case first =>
    go_region_held3 (fun w' => w'.cell? ⟨b, off, none⟩ = some (.int .i64 zs[0].1) ∧ w'.cell? ⟨b, off + 1, none⟩ = some (.int .i64 zs[0].2)) (exact keepP (w1 := W0) (by (repeat' (first | (with_reducible exact New.same _) | (with_reducible assumption) | (with_reducible refine New.box ?_ _) | (with_reducible refine New.drew_ ?_) | (with_reducible refine New.set ?_ ?_ _ _) | (with_reducible refine New.step ?_ (by assumption))))) hb2 m0 m1) (fail)
    all_goals (go_wp2_with fail; go_meet; first | exact ⟨W0.heap.size, W0.heap.size + 1, rfl, rfl, by omega, by omega, by omega, .two (by go_simp) (by go_simp) (by go_simp) (by go_simp) (by simp <;> omega), .two (by go_simp) (by go_simp) (by go_simp) (by go_simp) (by simp <;> omega), by (repeat' (first | (with_reducible exact New.same _) | (with_reducible assumption) | (with_reducible refine New.box ?_ _) | (with_reducible refine New.drew_ ?_) | (with_reducible refine New.set ?_ ?_ _ _) | (with_reducible refine New.step ?_ (by assumption))))⟩ | exact ⟨W0.heap.size + 1, W0.heap.size, rfl, rfl, by omega, by omega, by omega, .two (by go_simp) (by go_simp) (by go_simp) (by go_simp) (by simp <;> omega), .two (by go_simp) (by go_simp) (by go_simp) (by go_simp) (by simp <;> omega), by (repeat' (first | (with_reducible exact New.same _) | (with_reducible assumption) | (with_reducible refine New.box ?_ _) | (with_reducible refine New.drew_ ?_) | (with_reducible refine New.set ?_ ?_ _ _) | (with_reducible refine New.step ?_ (by assumption))))⟩)
  case rest =>
    obtain ⟨p, q, rfl, rfl, hpq, hp, hq, B2, B3, n2⟩ := hcut
    replace B0 := B0.new n2
    replace B1 := B1.new n2
    replace N0 := N0.step n2
    clear n2 m0 m1
    go_wp2
    go_loopw [16] (fun i wr => ∃ k : Nat, k ≤ zs.length ∧ i = .int .i64 k ∧ BoxV wr w.heap.size [.int .i64 0, .int .i64 0] ∧ BoxV wr (w.heap.size + 1) [.int .i64 0, .int .i64 0] ∧ BoxV wr p [.int .i64 (lxT zs k), .int .i64 (lyT zs k)] ∧ BoxV wr q [.int .i64 (hxT zs k), .int .i64 (hyT zs k)] ∧ New w wr) (fun i _ => zs.length - (intOf i).toNat)
    case atStart =>
      obtain ⟨⟨e1, e2⟩, e3, e4⟩ := HL.out
      exact ⟨0, Nat.zero_le _, rfl, B0, B1, by rw [e1, e2]; exact B2, by rw [e3, e4]; exact B3, N0⟩
    case round =>
      obtain ⟨k, hk, rfl, C0, C1, C2, C3, hN⟩ := hrel
      clear B0 B1 B2 B3 N0
      by_cases hlt : k < zs.length
      · have HS := Lib.hid (lT_succ hlt)
        obtain ⟨y0, y1, _⟩ := rd_pt HR.out hN rfl hlt
        have n7 : New wr (wr.alloc (.cells #[.int .i64 zs[k].1, .int .i64 zs[k].2] 55)) := (New.same wr).box _
        have C7 : BoxV (wr.alloc (.cells #[.int .i64 zs[k].1, .int .i64 zs[k].2] 55)) wr.heap.size [.int .i64 zs[k].1, .int .i64 zs[k].2] := .two (by go_simp) (by go_simp) (by go_simp) (by go_simp) (by simp)
        have pl := C2.lt
        have ql := C3.lt
        have p7 : p ≠ wr.heap.size := by omega
        have p7' : wr.heap.size ≠ p := by omega
        have q7 : q ≠ wr.heap.size := by omega
        have q7' : wr.heap.size ≠ q := by omega
        have hqp : q ≠ p := Ne.symm hpq
        have r7 : w.heap.size ≤ wr.heap.size := hN.size
        go_upto_region 5 with fail
        clear y0 y1
        generalize wr.alloc (.cells #[.int .i64 zs[k].1, .int .i64 zs[k].2] 55) = W7 at *
        generalize wr.heap.size = r at *
        replace C0 := C0.new n7
        replace C1 := C1.new n7
        replace C2 := C2.new n7
        replace C3 := C3.new n7
        replace hN := hN.step n7
        have ⟨⟨c2, d2⟩, ⟨f2, g2⟩, _⟩ := C2.at2
        have ⟨⟨c3, d3⟩, ⟨f3, g3⟩, _⟩ := C3.at2
        have ⟨⟨c7, d7⟩, _, _⟩ := C7.at2
        clear n7
        go_wp2
        go_roundw
        case rel =>
          obtain ⟨⟨e1, e2⟩, e3, e4⟩ := HS.out
          have w0 : p ≠ w.heap.size := by omega
          have w1 : p ≠ w.heap.size + 1 := by omega
          have w2 : q ≠ w.heap.size := by omega
          have w3 : q ≠ w.heap.size + 1 := by omega
          exact ⟨k + 1, by omega, by go_num, (((C0.off w0 _).off w0 _).off w2 _).off w2 _, (((C1.off w1 _).off w1 _).off w3 _).off w3 _, by rw [e1, e2, min_if, min_if]; exact ((C2.both _ _).off (p := ⟨q, 0, none⟩) hqp _).off (p := ⟨q, 1, none⟩) hqp _, by rw [e3, e4, max_if, max_if]; exact ((C3.off (p := ⟨p, 0, none⟩) hpq _).off (p := ⟨p, 1, none⟩) hpq _).both _ _, (((hN.setCell (by simp <;> omega) _).setCell (by simp <;> omega) _).setCell (by simp <;> omega) _).setCell (by simp <;> omega) _⟩
        case measure => simp [intOf]; omega
      · have hk' : k = zs.length := by omega
        subst hk'
        have ⟨⟨c0, d0⟩, ⟨f0, g0⟩, _⟩ := C0.at2
        have ⟨⟨c1, d1⟩, ⟨f1, g1⟩, _⟩ := C1.at2
        have ⟨⟨c2, d2⟩, ⟨f2, g2⟩, _⟩ := C2.at2
        have ⟨⟨c3, d3⟩, ⟨f3, g3⟩, _⟩ := C3.at2
        have w0 : p ≠ w.heap.size := by omega
        have w1 : p ≠ w.heap.size + 1 := by omega
        have w2 : q ≠ w.heap.size := by omega
        have w3 : q ≠ w.heap.size + 1 := by omega
        have w0' : w.heap.size ≠ p := by omega
        have w1' : w.heap.size + 1 ≠ p := by omega
        have w2' : w.heap.size ≠ q := by omega
        have w3' : w.heap.size + 1 ≠ q := by omega
        go_upto_region 8 with fail
        go_region
        all_goals
          go_wp2
          refine bodyPost_ret (v := .tuple #[.agg #[.int .i64 (lxT zs zs.length), .int .i64 (lyT zs zs.length)], .agg #[.int .i64 (hxT zs zs.length), .int .i64 (hyT zs zs.length)]]) (by simp [results, Tryd.results54, go_sem, *]) rfl ⟨congrArg Ending.returned HV.out.symm, ?_⟩
          repeat' (first | exact hN | refine New.drew_ ?_ | refine Below.setCell ?_ (by simp <;> omega) _)

end Go.Proofs.YtfnihmmkbnkmnaaDoor
