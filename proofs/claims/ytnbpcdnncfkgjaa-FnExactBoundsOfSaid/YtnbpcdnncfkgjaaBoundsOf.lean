/- Contracts of the functions that hand back an assembly's bounds. -/
import Derived.Test.YtnbpcdnncfkgjaaAsmPts
namespace Go.Proofs.Ytnbpcdnncfkgjaa
open Go.RowKit Go.Deep
set_option linter.unusedVariables false
set_option linter.unusedSimpArgs false

def bofL (zs : List ((Int × Int) × Int)) : Int × Int := if frmB zs && decide (0 < zs.length) then (lowX (zs.map Prod.fst), lowY (zs.map Prod.fst)) else (0, 0)
def bofH (zs : List ((Int × Int) × Int)) : Int × Int := if frmB zs && decide (0 < zs.length) then (hghX (zs.map Prod.fst), hghY (zs.map Prod.fst)) else (0, 0)
def bofC (zs : List ((Int × Int) × Int)) : Int := if frmB zs then (if zs.length = 0 then 3 else 0) else 1
/-- what is handed back -/
abbrev bofV (zs : List ((Int × Int) × Int)) : Value := .tuple #[.agg #[.int .i64 (bofL zs).1, .int .i64 (bofL zs).2], .agg #[.int .i64 (bofH zs).1, .int .i64 (bofH zs).2], .int .i64 (bofC zs)]
theorem bof_no {zs : List ((Int × Int) × Int)} (h : frmB zs = false) : bofV zs = .tuple #[.agg #[.int .i64 0, .int .i64 0], .agg #[.int .i64 0, .int .i64 0], .int .i64 1] := by simp [bofV, bofL, bofH, bofC, h]
theorem bof_nil {zs : List ((Int × Int) × Int)} (h : frmB zs = true) (h0 : zs.length = 0) : bofV zs = .tuple #[.agg #[.int .i64 0, .int .i64 0], .agg #[.int .i64 0, .int .i64 0], .int .i64 3] := by
  cases zs with
  | nil => simp [bofV, bofL, bofH, bofC, h]
  | cons x r => simp at h0
theorem bof_yes {zs : List ((Int × Int) × Int)} (h : frmB zs = true) (h0 : 0 < zs.length) : bofV zs = .tuple #[.agg #[.int .i64 (lowX (zs.map Prod.fst)), .int .i64 (lowY (zs.map Prod.fst))], .agg #[.int .i64 (hghX (zs.map Prod.fst)), .int .i64 (hghY (zs.map Prod.fst))], .int .i64 0] := by
  have hz : zs ≠ [] := by rintro rfl; simp at h0
  simp [bofV, bofL, bofH, bofC, h, h0, hz]

theorem c_eqPoint_self (p : Int × Int) (w : World) : Calls Try.prog 16 #[.agg #[.int .i64 p.1, .int .i64 p.2], .agg #[.int .i64 p.1, .int .i64 p.2]] w fun e w' => e = .returned (.bool true) ∧ New w w' := by
  have := c_eqPoint p p w
  rwa [decide_eq_true rfl] at this

set_option maxRecDepth 20000 in
set_option maxHeartbeats 1000000 in
theorem c_specBoundsOf (lo hi : Nat) (v : Value) (zs : List ((Int × Int) × Int)) (w : World) (h : Rd w lo hi 3 v zs.length (zs.flatMap plCells)) :
    Calls Try.prog 14 #[.agg #[v]] w fun e w' => e = .returned (bofV zs) ∧ New w w' := by
  have HR := Lib.hid h
  obtain ⟨_, _, hh, A, c, rfl, _⟩ := h
  have n0 : New w (((w.alloc (.cells #[.slice A zs.length c] 29)).alloc (.cells #[.int .i64 0, .int .i64 0] 33)).alloc (.cells #[.int .i64 0, .int .i64 0] 33)) := (((New.same w).box _).box _).box _
  have B0 : BoxV (((w.alloc (.cells #[.slice A zs.length c] 29)).alloc (.cells #[.int .i64 0, .int .i64 0] 33)).alloc (.cells #[.int .i64 0, .int .i64 0] 33)) w.heap.size [.slice A zs.length c] := .one (by go_simp) (by go_simp) (by simp <;> omega)
  have C0 : BoxV (((w.alloc (.cells #[.slice A zs.length c] 29)).alloc (.cells #[.int .i64 0, .int .i64 0] 33)).alloc (.cells #[.int .i64 0, .int .i64 0] 33)) (w.heap.size + 1) [.int .i64 0, .int .i64 0] := .two (by go_simp) (by go_simp) (by go_simp) (by go_simp) (by simp <;> omega)
  have C1 : BoxV (((w.alloc (.cells #[.slice A zs.length c] 29)).alloc (.cells #[.int .i64 0, .int .i64 0] 33)).alloc (.cells #[.int .i64 0, .int .i64 0] 33)) (w.heap.size + 2) [.int .i64 0, .int .i64 0] := .two (by go_simp) (by go_simp) (by go_simp) (by go_simp) (by simp <;> omega)
  cases hf : frmB zs
  · have HV := Lib.hid (bof_no hf)
    have HF := Lib.hid hf
    clear hf
    go_enter Try.func14, Try.ntmps14
    go_wp2_with fail
    generalize (((w.alloc (.cells #[.slice A zs.length c] 29)).alloc (.cells #[.int .i64 0, .int .i64 0] 33)).alloc (.cells #[.int .i64 0, .int .i64 0] 33)) = W0 at *
    refine (c_l03Form _ _ _ _ zs _ B0 (HR.out.new n0)).mono ?_
    rintro e w1 ⟨rfl, n1⟩
    rw [HF.out]
    have N := n0.step n1
    replace B0 := B0.new n1
    replace C0 := C0.new n1
    replace C1 := C1.new n1
    have ⟨⟨c0, d0⟩, ⟨f0, g0⟩, l0⟩ := C0.at2
    have ⟨⟨c1, d1⟩, ⟨f1, g1⟩, l1⟩ := C1.at2
    have ⟨bx0, _, bl0⟩ := B0.at1
    go_wp2
    refine bodyPost_ret (v := .tuple #[.agg #[.int .i64 0, .int .i64 0], .agg #[.int .i64 0, .int .i64 0], .int .i64 1]) (by simp [results, Try.results14, go_sem, *]) rfl ⟨congrArg Ending.returned HV.out.symm, ?_⟩
    repeat' (first | exact N | refine New.drew_ ?_ | refine Below.setCell ?_ (by simp <;> omega) _)
  · have HF := Lib.hid hf
    have hl : zs.length ≤ 500 := by simp [frmB] at hf; exact hf.1
    by_cases h0 : zs.length = 0
    · have HV := Lib.hid (bof_nil hf h0)
      have e0 : ((zs.length : Int) == 0) = true := by rw [h0]; rfl
      clear hf h0
      go_enter Try.func14, Try.ntmps14
      go_wp2_with fail
      generalize (((w.alloc (.cells #[.slice A zs.length c] 29)).alloc (.cells #[.int .i64 0, .int .i64 0] 33)).alloc (.cells #[.int .i64 0, .int .i64 0] 33)) = W0 at *
      refine (c_l03Form _ _ _ _ zs _ B0 (HR.out.new n0)).mono ?_
      rintro e w1 ⟨rfl, n1⟩
      rw [HF.out]
      have N := n0.step n1
      replace B0 := B0.new n1
      replace C0 := C0.new n1
      replace C1 := C1.new n1
      have ⟨⟨c0, d0⟩, ⟨f0, g0⟩, l0⟩ := C0.at2
      have ⟨⟨c1, d1⟩, ⟨f1, g1⟩, l1⟩ := C1.at2
      have ⟨bx0, _, bl0⟩ := B0.at1
      go_wp2
      refine bodyPost_ret (v := .tuple #[.agg #[.int .i64 0, .int .i64 0], .agg #[.int .i64 0, .int .i64 0], .int .i64 3]) (by simp [results, Try.results14, go_sem, *]) rfl ⟨congrArg Ending.returned HV.out.symm, ?_⟩
      repeat' (first | exact N | refine New.drew_ ?_ | refine Below.setCell ?_ (by simp <;> omega) _)
    · have HV := Lib.hid (bof_yes hf (by omega))
      have e0 : ((zs.length : Int) == 0) = false := by rw [beq_eq_false_iff_ne]; omega
      have hpos : 0 < zs.length := by omega
      clear hf h0
      go_enter Try.func14, Try.ntmps14
      go_wp2_with fail
      generalize (((w.alloc (.cells #[.slice A zs.length c] 29)).alloc (.cells #[.int .i64 0, .int .i64 0] 33)).alloc (.cells #[.int .i64 0, .int .i64 0] 33)) = W0 at *
      refine (c_l03Form _ _ _ _ zs _ B0 (HR.out.new n0)).mono ?_
      rintro e w1 ⟨rfl, n1⟩
      rw [HF.out]
      have N := n0.step n1
      replace B0 := B0.new n1
      replace C0 := C0.new n1
      replace C1 := C1.new n1
      have ⟨⟨c0, d0⟩, ⟨f0, g0⟩, l0⟩ := C0.at2
      have ⟨⟨c1, d1⟩, ⟨f1, g1⟩, l1⟩ := C1.at2
      have ⟨bx0, _, bl0⟩ := B0.at1
      go_wp2_with fail
      refine (c_l03Points _ _ _ _ zs _ B0 (HR.out.new N) (by omega)).mono ?_
      rintro e w2 ⟨u, rfl, hO, n2⟩
      have hz := N.size
      replace N := N.step n2
      replace C0 := C0.new n2
      replace C1 := C1.new n2
      have HP : Hid (zs.map Prod.fst = zs.map Prod.fst) := Lib.hid rfl
      have hpl : (zs.map Prod.fst).length = zs.length := List.length_map ..
      generalize zs.map Prod.fst = ps at *
      go_wp2_with fail
      rw [← hpl] at hO
      refine (c_l03Bounds _ _ _ ps _ hO.rd (by omega)).mono ?_
      rintro e w3 ⟨rfl, n3⟩
      have hz3 := (N.step n3).size
      have NB : New w ((w3.alloc (.cells #[.int .i64 (lowX ps), .int .i64 (lowY ps)] 33)).alloc (.cells #[.int .i64 (hghX ps), .int .i64 (hghY ps)] 33)) := ((N.step n3).box _).box _
      replace C0 := C0.new (((New.same w2).step n3).box _ |>.box _ : New w2 ((w3.alloc (.cells #[.int .i64 (lowX ps), .int .i64 (lowY ps)] 33)).alloc (.cells #[.int .i64 (hghX ps), .int .i64 (hghY ps)] 33)))
      replace C1 := C1.new (((New.same w2).step n3).box _ |>.box _ : New w2 ((w3.alloc (.cells #[.int .i64 (lowX ps), .int .i64 (lowY ps)] 33)).alloc (.cells #[.int .i64 (hghX ps), .int .i64 (hghY ps)] 33)))
      have D0 : BoxV ((w3.alloc (.cells #[.int .i64 (lowX ps), .int .i64 (lowY ps)] 33)).alloc (.cells #[.int .i64 (hghX ps), .int .i64 (hghY ps)] 33)) w3.heap.size [.int .i64 (lowX ps), .int .i64 (lowY ps)] := .two (by go_simp) (by go_simp) (by go_simp) (by go_simp) (by simp <;> omega)
      have D1 : BoxV ((w3.alloc (.cells #[.int .i64 (lowX ps), .int .i64 (lowY ps)] 33)).alloc (.cells #[.int .i64 (hghX ps), .int .i64 (hghY ps)] 33)) (w3.heap.size + 1) [.int .i64 (hghX ps), .int .i64 (hghY ps)] := .two (by go_simp) (by go_simp) (by go_simp) (by go_simp) (by simp <;> omega)
      have hl2 : w.heap.size + 2 < w3.heap.size := by have := n3.size; have := n2.size; omega
      clear c0 d0 f0 g0 l0 c1 d1 f1 g1 l1 bx0 bl0
      go_upto_region 6 with fail
      generalize ((w3.alloc (.cells #[.int .i64 (lowX ps), .int .i64 (lowY ps)] 33)).alloc (.cells #[.int .i64 (hghX ps), .int .i64 (hghY ps)] 33)) = W5 at *
      generalize w3.heap.size = B at *
      have ⟨⟨c0, d0⟩, ⟨f0, g0⟩, _⟩ := C0.at2
      have ⟨⟨c1, d1⟩, ⟨f1, g1⟩, _⟩ := C1.at2
      have ⟨⟨c2, d2⟩, ⟨f2, g2⟩, _⟩ := D0.at2
      have ⟨⟨c3, d3⟩, ⟨f3, g3⟩, _⟩ := D1.at2
      go_region
      all_goals
        go_wp2
        refine bodyPost_ret (v := .tuple #[.agg #[.int .i64 (lowX ps), .int .i64 (lowY ps)], .agg #[.int .i64 (hghX ps), .int .i64 (hghY ps)], .int .i64 0]) (by simp [results, Try.results14, go_sem, *]) rfl ⟨congrArg Ending.returned HV.out.symm, ?_⟩
        repeat' (first | exact NB | refine New.drew_ ?_ | refine Below.setCell ?_ (by simp <;> omega) _)

set_option maxRecDepth 20000 in
set_option maxHeartbeats 1000000 in
theorem c_implBoundsOf (lo hi : Nat) (v : Value) (zs : List ((Int × Int) × Int)) (w : World) (h : Rd w lo hi 3 v zs.length (zs.flatMap plCells)) :
    Calls Try.prog 15 #[.agg #[v]] w fun e w' => e = .returned (bofV zs) ∧ New w w' := by
  have HR := Lib.hid h
  obtain ⟨_, _, hh, A, c, rfl, _⟩ := h
  have n0 : New w (((w.alloc (.cells #[.slice A zs.length c] 29)).alloc (.cells #[.int .i64 0, .int .i64 0] 33)).alloc (.cells #[.int .i64 0, .int .i64 0] 33)) := (((New.same w).box _).box _).box _
  have B0 : BoxV (((w.alloc (.cells #[.slice A zs.length c] 29)).alloc (.cells #[.int .i64 0, .int .i64 0] 33)).alloc (.cells #[.int .i64 0, .int .i64 0] 33)) w.heap.size [.slice A zs.length c] := .one (by go_simp) (by go_simp) (by simp <;> omega)
  have C0 : BoxV (((w.alloc (.cells #[.slice A zs.length c] 29)).alloc (.cells #[.int .i64 0, .int .i64 0] 33)).alloc (.cells #[.int .i64 0, .int .i64 0] 33)) (w.heap.size + 1) [.int .i64 0, .int .i64 0] := .two (by go_simp) (by go_simp) (by go_simp) (by go_simp) (by simp <;> omega)
  have C1 : BoxV (((w.alloc (.cells #[.slice A zs.length c] 29)).alloc (.cells #[.int .i64 0, .int .i64 0] 33)).alloc (.cells #[.int .i64 0, .int .i64 0] 33)) (w.heap.size + 2) [.int .i64 0, .int .i64 0] := .two (by go_simp) (by go_simp) (by go_simp) (by go_simp) (by simp <;> omega)
  cases hf : frmB zs
  · have HV := Lib.hid (bof_no hf)
    have HF := Lib.hid hf
    clear hf
    go_enter Try.func15, Try.ntmps15
    go_wp2_with fail
    generalize (((w.alloc (.cells #[.slice A zs.length c] 29)).alloc (.cells #[.int .i64 0, .int .i64 0] 33)).alloc (.cells #[.int .i64 0, .int .i64 0] 33)) = W0 at *
    refine (c_hasForm _ _ _ zs _ (HR.out.new n0)).mono ?_
    rintro e w1 ⟨rfl, n1⟩
    rw [HF.out]
    have N := n0.step n1
    replace B0 := B0.new n1
    replace C0 := C0.new n1
    replace C1 := C1.new n1
    have ⟨⟨c0, d0⟩, ⟨f0, g0⟩, l0⟩ := C0.at2
    have ⟨⟨c1, d1⟩, ⟨f1, g1⟩, l1⟩ := C1.at2
    have ⟨bx0, _, bl0⟩ := B0.at1
    go_wp2
    refine bodyPost_ret (v := .tuple #[.agg #[.int .i64 0, .int .i64 0], .agg #[.int .i64 0, .int .i64 0], .int .i64 1]) (by simp [results, Try.results15, go_sem, *]) rfl ⟨congrArg Ending.returned HV.out.symm, ?_⟩
    repeat' (first | exact N | refine New.drew_ ?_ | refine Below.setCell ?_ (by simp <;> omega) _)
  · have HF := Lib.hid hf
    have hl : zs.length ≤ 500 := by simp [frmB] at hf; exact hf.1
    by_cases h0 : zs.length = 0
    · have HV := Lib.hid (bof_nil hf h0)
      have e0 : ((zs.length : Int) == 0) = true := by rw [h0]; rfl
      clear hf h0
      go_enter Try.func15, Try.ntmps15
      go_wp2_with fail
      generalize (((w.alloc (.cells #[.slice A zs.length c] 29)).alloc (.cells #[.int .i64 0, .int .i64 0] 33)).alloc (.cells #[.int .i64 0, .int .i64 0] 33)) = W0 at *
      refine (c_hasForm _ _ _ zs _ (HR.out.new n0)).mono ?_
      rintro e w1 ⟨rfl, n1⟩
      rw [HF.out]
      have N := n0.step n1
      replace B0 := B0.new n1
      replace C0 := C0.new n1
      replace C1 := C1.new n1
      have ⟨⟨c0, d0⟩, ⟨f0, g0⟩, l0⟩ := C0.at2
      have ⟨⟨c1, d1⟩, ⟨f1, g1⟩, l1⟩ := C1.at2
      have ⟨bx0, _, bl0⟩ := B0.at1
      go_wp2
      refine bodyPost_ret (v := .tuple #[.agg #[.int .i64 0, .int .i64 0], .agg #[.int .i64 0, .int .i64 0], .int .i64 3]) (by simp [results, Try.results15, go_sem, *]) rfl ⟨congrArg Ending.returned HV.out.symm, ?_⟩
      repeat' (first | exact N | refine New.drew_ ?_ | refine Below.setCell ?_ (by simp <;> omega) _)
    · have HV := Lib.hid (bof_yes hf (by omega))
      have e0 : ((zs.length : Int) == 0) = false := by rw [beq_eq_false_iff_ne]; omega
      have hpos : 0 < zs.length := by omega
      clear hf h0
      go_enter Try.func15, Try.ntmps15
      go_wp2_with fail
      generalize (((w.alloc (.cells #[.slice A zs.length c] 29)).alloc (.cells #[.int .i64 0, .int .i64 0] 33)).alloc (.cells #[.int .i64 0, .int .i64 0] 33)) = W0 at *
      refine (c_hasForm _ _ _ zs _ (HR.out.new n0)).mono ?_
      rintro e w1 ⟨rfl, n1⟩
      rw [HF.out]
      have N := n0.step n1
      replace B0 := B0.new n1
      replace C0 := C0.new n1
      replace C1 := C1.new n1
      have ⟨⟨c0, d0⟩, ⟨f0, g0⟩, l0⟩ := C0.at2
      have ⟨⟨c1, d1⟩, ⟨f1, g1⟩, l1⟩ := C1.at2
      have ⟨bx0, _, bl0⟩ := B0.at1
      go_wp2_with fail
      refine (c_points _ _ _ zs _ (HR.out.new N) (by omega)).mono ?_
      rintro e w2 ⟨u, rfl, hO, n2⟩
      have hz := N.size
      replace N := N.step n2
      replace C0 := C0.new n2
      replace C1 := C1.new n2
      have HP : Hid (zs.map Prod.fst = zs.map Prod.fst) := Lib.hid rfl
      have hpl : (zs.map Prod.fst).length = zs.length := List.length_map ..
      generalize zs.map Prod.fst = ps at *
      go_wp2_with fail
      rw [← hpl] at hO
      refine (c_bounds _ _ _ ps _ hO.rd (by omega)).mono ?_
      rintro e w3 ⟨rfl, n3⟩
      have hz3 := (N.step n3).size
      have NB : New w ((w3.alloc (.cells #[.int .i64 (lowX ps), .int .i64 (lowY ps)] 33)).alloc (.cells #[.int .i64 (hghX ps), .int .i64 (hghY ps)] 33)) := ((N.step n3).box _).box _
      replace C0 := C0.new (((New.same w2).step n3).box _ |>.box _ : New w2 ((w3.alloc (.cells #[.int .i64 (lowX ps), .int .i64 (lowY ps)] 33)).alloc (.cells #[.int .i64 (hghX ps), .int .i64 (hghY ps)] 33)))
      replace C1 := C1.new (((New.same w2).step n3).box _ |>.box _ : New w2 ((w3.alloc (.cells #[.int .i64 (lowX ps), .int .i64 (lowY ps)] 33)).alloc (.cells #[.int .i64 (hghX ps), .int .i64 (hghY ps)] 33)))
      have D0 : BoxV ((w3.alloc (.cells #[.int .i64 (lowX ps), .int .i64 (lowY ps)] 33)).alloc (.cells #[.int .i64 (hghX ps), .int .i64 (hghY ps)] 33)) w3.heap.size [.int .i64 (lowX ps), .int .i64 (lowY ps)] := .two (by go_simp) (by go_simp) (by go_simp) (by go_simp) (by simp <;> omega)
      have D1 : BoxV ((w3.alloc (.cells #[.int .i64 (lowX ps), .int .i64 (lowY ps)] 33)).alloc (.cells #[.int .i64 (hghX ps), .int .i64 (hghY ps)] 33)) (w3.heap.size + 1) [.int .i64 (hghX ps), .int .i64 (hghY ps)] := .two (by go_simp) (by go_simp) (by go_simp) (by go_simp) (by simp <;> omega)
      have hl2 : w.heap.size + 2 < w3.heap.size := by have := n3.size; have := n2.size; omega
      clear c0 d0 f0 g0 l0 c1 d1 f1 g1 l1 bx0 bl0
      go_upto_region 6 with fail
      generalize ((w3.alloc (.cells #[.int .i64 (lowX ps), .int .i64 (lowY ps)] 33)).alloc (.cells #[.int .i64 (hghX ps), .int .i64 (hghY ps)] 33)) = W5 at *
      generalize w3.heap.size = B at *
      have ⟨⟨c0, d0⟩, ⟨f0, g0⟩, _⟩ := C0.at2
      have ⟨⟨c1, d1⟩, ⟨f1, g1⟩, _⟩ := C1.at2
      have ⟨⟨c2, d2⟩, ⟨f2, g2⟩, _⟩ := D0.at2
      have ⟨⟨c3, d3⟩, ⟨f3, g3⟩, _⟩ := D1.at2
      go_region
      all_goals
        go_wp2
        refine bodyPost_ret (v := .tuple #[.agg #[.int .i64 (lowX ps), .int .i64 (lowY ps)], .agg #[.int .i64 (hghX ps), .int .i64 (hghY ps)], .int .i64 0]) (by simp [results, Try.results15, go_sem, *]) rfl ⟨congrArg Ending.returned HV.out.symm, ?_⟩
        repeat' (first | exact NB | refine New.drew_ ?_ | refine Below.setCell ?_ (by simp <;> omega) _)

end Go.Proofs.Ytnbpcdnncfkgjaa
