/- The contract of (Assembly).moved. -/
import Derived.Test.YtnbpcdnncfkgjaaClonePl
namespace Go.Proofs.Ytnbpcdnncfkgjaa
open Go.RowKit Go.Deep Go.Lib
set_option linter.unusedVariables false
set_option linter.unusedSimpArgs false

theorem pls_set01 (ys : List ((Int × Int) × Int)) (i : Nat) (hi : i < ys.length) (q : Int × Int) : ((ys.flatMap plCells).set (i * 3) (.int .i64 q.1)).set (i * 3 + 1) (.int .i64 q.2) = (ys.set i (q, ys[i].2)).flatMap plCells := by
  induction ys generalizing i with
  | nil => simp at hi
  | cons y r ih =>
    cases i with
    | zero => simp [plCells]
    | succ i =>
      have e : (i + 1) * 3 = i * 3 + 1 + 1 + 1 := by omega
      rw [e]
      simp only [List.flatMap_cons, plCells, List.cons_append, List.nil_append, List.set_cons_succ, List.getElem_cons_succ]
      rw [ih i (by simpa using hi)]
theorem own_at3 {w : World} {base g n c : Nat} {e : TypeId} {ys : List ((Int × Int) × Int)} (h : w.ownsRow base e 3 (.slice (some ⟨g, 0, none⟩) n c) n (ys.flatMap plCells)) (i : Nat) (hi : i < ys.length) :
    (w.cell? ⟨g, i * 3, none⟩ = some (.int .i64 ys[i].1.1) ∧ w.cell? ⟨g, i * 3 + 1, none⟩ = some (.int .i64 ys[i].1.2)) ∧ (w.frozen? ⟨g, i * 3, none⟩ = false ∧ w.frozen? ⟨g, i * 3 + 1, none⟩ = false) ∧ g < w.heap.size ∧ base ≤ g := by
  have hl := h.1
  rw [pl_len] at hl
  refine ⟨⟨?_, ?_⟩, ⟨h.frozenAt _, h.frozenAt _⟩, (h.lt g rfl).2, (h.lt g rfl).1⟩
  · rw [h.cellAt _ (by omega)]; exact pl_get0 hi
  · rw [h.cellAt _ (by omega)]; exact pl_get1 hi
theorem own_put3 {w : World} {base g n c : Nat} {e : TypeId} {ys : List ((Int × Int) × Int)} (h : w.ownsRow base e 3 (.slice (some ⟨g, 0, none⟩) n c) n (ys.flatMap plCells)) (i : Nat) (hi : i < ys.length) (q : Int × Int) :
    ((w.setCell ⟨g, i * 3, none⟩ (.int .i64 q.1)).setCell ⟨g, i * 3 + 1, none⟩ (.int .i64 q.2)).ownsRow base e 3 (.slice (some ⟨g, 0, none⟩) n c) n ((ys.set i (q, ys[i].2)).flatMap plCells) := by
  rw [← pls_set01 ys i hi]
  exact ((h.stored (i * 3) _).1.stored (i * 3 + 1) _).1
/-- the first k moved -/
def mixL (zs : List ((Int × Int) × Int)) (dx dy : Int) (k : Nat) : List ((Int × Int) × Int) := mvT zs dx dy k ++ zs.drop k
theorem mixL_zero (zs : List ((Int × Int) × Int)) (dx dy : Int) : mixL zs dx dy 0 = zs := by simp [mixL, mvT]
theorem mixL_all (zs : List ((Int × Int) × Int)) (dx dy : Int) : mixL zs dx dy zs.length = mvL zs dx dy := by simp [mixL, mvT_all]
theorem mvT_len (zs : List ((Int × Int) × Int)) (dx dy : Int) {k : Nat} (hk : k ≤ zs.length) : (mvT zs dx dy k).length = k := by simp [mvT]; omega
theorem mixL_len (zs : List ((Int × Int) × Int)) (dx dy : Int) {k : Nat} (hk : k ≤ zs.length) : (mixL zs dx dy k).length = zs.length := by simp [mixL, mvT_len zs dx dy hk]; omega
theorem mixL_at {zs : List ((Int × Int) × Int)} {dx dy : Int} {k : Nat} (hk : k < zs.length) : ∃ h : k < (mixL zs dx dy k).length, (mixL zs dx dy k)[k] = zs[k] := by
  refine ⟨by rw [mixL_len _ _ _ (by omega)]; exact hk, ?_⟩
  have hl := mvT_len zs dx dy (k := k) (by omega)
  simp only [mixL]
  rw [List.getElem_append_right (by omega)]
  simp [hl]
theorem mixL_step {zs : List ((Int × Int) × Int)} {dx dy : Int} {k : Nat} (hk : k < zs.length) : (mixL zs dx dy k).set k ((zs[k].1.1 + dx, zs[k].1.2 + dy), zs[k].2) = mixL zs dx dy (k + 1) := by
  have hl := mvT_len zs dx dy (k := k) (by omega)
  have e : mvT zs dx dy (k + 1) = mvT zs dx dy k ++ [((zs[k].1.1 + dx, zs[k].1.2 + dy), zs[k].2)] := by
    unfold mvT
    rw [List.take_succ_eq_append_getElem hk, List.map_append]
    rfl
  simp only [mixL]
  rw [e, List.set_append_right _ _ (by omega), hl, Nat.sub_self, List.drop_eq_getElem_cons hk, List.set_cons_zero, List.append_assoc]
  rfl

set_option maxRecDepth 20000 in
set_option maxHeartbeats 1000000 in
theorem c_moved (lo hi : Nat) (v : Value) (zs : List ((Int × Int) × Int)) (dx dy : Int) (w : World) (h : Own w lo hi 71 3 v zs.length (zs.flatMap plCells)) (hf : frmB zs = true) (x0 : -120 ≤ dx) (x1 : dx ≤ 120) (y0 : -120 ≤ dy) (y1 : dy ≤ 120) :
    Calls Try.prog 52 #[.agg #[v], .agg #[.int .i64 dx, .int .i64 dy]] w (GivesAsm w 71 (mvL zs dx dy)) := by
  have HO := Lib.hid h
  have hlen : zs.length ≤ 500 := by simp [frmB] at hf; exact hf.1
  have HV := Lib.hid (frm_vp hf)
  obtain ⟨A, c, rfl⟩ := own_slice3 h.1
  clear h hf
  have n0 : New w (((w.alloc (.cells #[.slice A zs.length c] 29)).alloc (.cells #[.int .i64 dx, .int .i64 dy] 33)).alloc (.cells #[.slice none 0 0] 29)) := (((New.same w).box _).box _).box _
  have D0 : BoxV (((w.alloc (.cells #[.slice A zs.length c] 29)).alloc (.cells #[.int .i64 dx, .int .i64 dy] 33)).alloc (.cells #[.slice none 0 0] 29)) (w.heap.size + 1) [.int .i64 dx, .int .i64 dy] := .two (by go_simp) (by go_simp) (by go_simp) (by go_simp) (by simp <;> omega)
  have D1 : BoxV (((w.alloc (.cells #[.slice A zs.length c] 29)).alloc (.cells #[.int .i64 dx, .int .i64 dy] 33)).alloc (.cells #[.slice none 0 0] 29)) (w.heap.size + 2) [.slice none 0 0] := .one (by go_simp) (by go_simp) (by simp <;> omega)
  have hz : w.heap.size + 3 ≤ (((w.alloc (.cells #[.slice A zs.length c] 29)).alloc (.cells #[.int .i64 dx, .int .i64 dy] 33)).alloc (.cells #[.slice none 0 0] 29)).heap.size := by simp
  go_enter Try.func52, Try.ntmps52
  go_wp2_with fail
  generalize (((w.alloc (.cells #[.slice A zs.length c] 29)).alloc (.cells #[.int .i64 dx, .int .i64 dy] 33)).alloc (.cells #[.slice none 0 0] 29)) = W0 at *
  refine (c_cloneAssembly _ _ _ zs _ (HO.out.new n0) (by omega)).mono ?_
  rintro e w1 ⟨u, rfl, hO, n1⟩
  obtain ⟨A1, c1, rfl⟩ := own_slice3 hO.1
  have hz1 : w.heap.size + 3 ≤ w1.heap.size := Nat.le_trans hz n1.size
  have n2 : New w1 (w1.alloc (.cells #[.slice A1 zs.length c1] 29)) := (New.same _).box _
  have D2 : BoxV (w1.alloc (.cells #[.slice A1 zs.length c1] 29)) w1.heap.size [.slice A1 zs.length c1] := .one (by go_simp) (by go_simp) (by simp <;> omega)
  have hown0 := ownsRow_new hO.1 n2
  have hA1 : ∀ g, (Value.slice A1 zs.length c1).ownBlock = some g → g < w1.heap.size := hO.2.2
  have NN := (n0.step n1).step n2
  replace D0 := (D0.new n1).new n2
  replace D1 := (D1.new n1).new n2
  have ⟨bx0, _, bl0⟩ := D2.at1
  clear hO n0 n1 n2
  go_wp2
  generalize (w1.alloc (.cells #[.slice A1 zs.length c1] 29)) = W2 at *
  generalize w1.heap.size = B at *
  clear bx0 bl0
  go_loopw [12] (fun i wr => ∃ k : Nat, k ≤ zs.length ∧ i = .int .i64 k ∧ BoxV wr (w.heap.size + 1) [.int .i64 dx, .int .i64 dy] ∧ BoxV wr (w.heap.size + 2) [.slice none 0 0] ∧ BoxV wr B [.slice A1 zs.length c1] ∧ wr.ownsRow W0.heap.size 71 3 (.slice A1 zs.length c1) zs.length ((mixL zs dx dy k).flatMap plCells) ∧ New w wr) (fun i _ => zs.length - (intOf i).toNat)
  case atStart => exact ⟨0, Nat.zero_le _, rfl, D0, D1, D2, by rw [mixL_zero]; exact hown0, NN⟩
  case round =>
    obtain ⟨k, hk, rfl, C0, C1, C2, hown, hN⟩ := hrel
    clear D0 D1 D2 hown0 NN
    have ⟨bx0, _, bl0⟩ := C2.at1
    by_cases hlt : k < zs.length
    · obtain ⟨g, cg, hform⟩ := own_form hown (by omega)
      obtain ⟨rfl, rfl⟩ : A1 = some ⟨g, 0, none⟩ ∧ c1 = cg := by cases hform; exact ⟨rfl, rfl⟩
      clear hform
      have hgB := hA1 g rfl
      have p0 : (0 : Int) ≤ (k : Int) := by omega
      have p1 : (k : Int) < (zs.length : Int) := by omega
      obtain ⟨⟨vx, vX⟩, vy, vY⟩ := vpB_iff.1 (HV.out k hlt)
      obtain ⟨hmk, hme⟩ := mixL_at (dx := dx) (dy := dy) hlt
      obtain ⟨⟨c7, d7⟩, ⟨f7, g7⟩, l7, b7⟩ := own_at3 hown k hmk
      rw [hme] at c7 d7
      have ⟨⟨c0, d0⟩, _, l0⟩ := C0.at2
      go_upto_region 5 with fail
      have lc := Later.cell c7 l7
      have ld := Later.cell d7 l7
      have l0' := Later.cell c0 l0
      have l1' := Later.cell d0 l0
      have lb := Later.cell bx0 bl0
      have C3 := Lib.hid (fun w => c_plus zs[k].1.1 zs[k].1.2 dx dy w (by omega) (by omega) (by omega) (by omega))
      refine wp_region_later_tail [0, 1, 2, 3, 4, 5, 6, 7, 8, 9, 10, 11, 12] 13 [] (by kernel_rfl) (by decide +kernel) ?_
      simp only [pickO, List.getElem?_cons_zero, List.getElem?_cons_succ]
      (repeat (go_big_quiet_step (first | (go_at_call 80; exact later_of (C3.out _)))))
      refine wpQuiet_nil ?_
      intro wq hw'
      obtain ⟨⟨wz, nq⟩, hwz⟩ := hw'
      have hwz' : wq = wz := hwz
      subst hwz'
      clear hwz lc ld l0' l1' lb
      have hownq := ownsRow_new hown nq
      have HP := Lib.hid (own_put3 hownq k hmk (zs[k].1.1 + dx, zs[k].1.2 + dy))
      rw [hme, mixL_step hlt] at HP
      have E0 := ((C0.new nq).off (p := ⟨g, k * 3, none⟩) (by simp; omega) (.int .i64 (zs[k].1.1 + dx))).off (p := ⟨g, k * 3 + 1, none⟩) (by simp; omega) (.int .i64 (zs[k].1.2 + dy))
      have E1 := ((C1.new nq).off (p := ⟨g, k * 3, none⟩) (by simp; omega) (.int .i64 (zs[k].1.1 + dx))).off (p := ⟨g, k * 3 + 1, none⟩) (by simp; omega) (.int .i64 (zs[k].1.2 + dy))
      have E2 := ((C2.new nq).off (p := ⟨g, k * 3, none⟩) (by simp; omega) (.int .i64 (zs[k].1.1 + dx))).off (p := ⟨g, k * 3 + 1, none⟩) (by simp; omega) (.int .i64 (zs[k].1.2 + dy))
      have hN3 : New w ((wq.setCell ⟨g, k * 3, none⟩ (.int .i64 (zs[k].1.1 + dx))).setCell ⟨g, k * 3 + 1, none⟩ (.int .i64 (zs[k].1.2 + dy))) := Below.setCell (Below.setCell (hN.step nq) (by simp; omega) _) (by simp; omega) _
      clear c7 d7 f7 g7 l7 c0 d0 l0 bx0 bl0
      obtain ⟨⟨c7, d7⟩, ⟨f7, g7⟩, l7, _⟩ := own_at3 hownq k hmk
      clear hown hownq
      go_wp2
      go_roundw
      case rel => exact ⟨k + 1, by omega, by go_num, E0, E1, E2, HP.out, hN3⟩
      case measure => simp [intOf]; omega
    · have ek : k = zs.length := by omega
      subst ek
      have ⟨f1, f2, f3⟩ := C1.at1
      have F := (Fr.refl (w.heap.size + 2) (w.heap.size + 3) wr).setCell (p := ⟨w.heap.size + 1 + 1, 0, none⟩) (by simp) (by simp <;> omega) (.slice A1 zs.length c1)
      have HW := Lib.hid (((Own.of hown).fr F (.inr (by omega))).wide (by omega : w.heap.size ≤ _) F.size (Nat.le_refl _))
      have NN := New.fr hN F (by omega)
      clear F hown
      go_wp2
      refine bodyPost_ret (v := .agg #[.slice A1 zs.length c1]) (by simp [results, Try.results52, go_sem, *]) rfl ⟨_, rfl, ?_, NN⟩
      have hw := HW.out
      rw [mixL_all] at hw
      rw [mvL_len]
      exact hw
end Go.Proofs.Ytnbpcdnncfkgjaa
