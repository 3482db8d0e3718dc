/- Contracts of MoveAssembly. -/
import Derived.Test.YtnbpcdnncfkgjaaMoved
namespace Go.Proofs.Ytnbpcdnncfkgjaa
open Go.RowKit Go.Deep
set_option linter.unusedVariables false
set_option linter.unusedSimpArgs false

theorem ltP_shift (ax ay bx b_y dx dy : Int) : ltP (ax + dx) (ay + dy) (bx + dx) (b_y + dy) = ltP ax ay bx b_y := by
  cases h : ltP ax ay bx b_y
  · cases h' : ltP (ax + dx) (ay + dy) (bx + dx) (b_y + dy)
    · rfl
    · have h1 := ltP_iff.1 h'
      have h2 : ltP ax ay bx b_y = true := ltP_iff.2 (by omega)
      rw [h] at h2; cases h2
  · have h1 := ltP_iff.1 h
    exact ltP_iff.2 (by omega)
theorem frm_at {zs : List ((Int × Int) × Int)} (h : frmB zs = true) {k : Nat} (hk : k < zs.length) : plAt zs k = true := by
  simp only [frmB, Bool.and_eq_true] at h
  exact List.all_eq_true.1 h.2 k (List.mem_range.2 hk)
theorem mvL_at {zs : List ((Int × Int) × Int)} {dx dy : Int} {k : Nat} (hk : k < zs.length) : ∃ h : k < (mvL zs dx dy).length, (mvL zs dx dy)[k] = ((zs[k].1.1 + dx, zs[k].1.2 + dy), zs[k].2) :=
  ⟨by rw [mvL_len]; exact hk, by simp [mvL]⟩
theorem plAt_move {zs : List ((Int × Int) × Int)} (h : frmB zs = true) {dx dy : Int} {k : Nat} (hk : k < zs.length) : plAt (mvL zs dx dy) k = vpB (zs[k].1.1 + dx) (zs[k].1.2 + dy) := by
  obtain ⟨hk', e⟩ := mvL_at (dx := dx) (dy := dy) hk
  have h1 := frm_at h hk
  by_cases h0 : k = 0
  · rw [plAt_zero hk h0] at h1
    rw [plAt_zero hk' h0, e]
    simp only [Bool.and_eq_true] at h1
    simp [h1.2]
  · obtain ⟨j, hj⟩ : ∃ j, k = j + 1 := ⟨k - 1, by omega⟩
    have hjl : j < zs.length := by omega
    obtain ⟨hj', ej⟩ := mvL_at (dx := dx) (dy := dy) hjl
    rw [plAt_suc hk hjl hj] at h1
    rw [plAt_suc hk' hj' hj, e, ej]
    simp only [Bool.and_eq_true] at h1
    simp [h1.2.1, h1.2.2, ltP_shift]
theorem frm_move {zs : List ((Int × Int) × Int)} (h : frmB zs = true) (dx dy : Int) : frmB (mvL zs dx dy) = mvOk zs dx dy := by
  have hl : zs.length ≤ 500 := by simp [frmB] at h; exact h.1
  cases ho : mvOk zs dx dy
  · obtain ⟨q, hq, hv⟩ : ∃ q ∈ mvL zs dx dy, vpB q.1.1 q.1.2 = false := by simpa [mvOk] using ho
    obtain ⟨z, hz, rfl⟩ := List.mem_map.1 hq
    obtain ⟨k, hk, rfl⟩ := List.getElem_of_mem hz
    exact frm_hit (k := k) (by rw [mvL_len]; exact hk) (by rw [plAt_move h hk]; exact hv)
  · rw [frm_miss (fun k hk => by
      have hk' : k < zs.length := by rwa [mvL_len] at hk
      rw [plAt_move h hk']
      exact List.all_eq_true.1 ho _ (List.mem_map.2 ⟨zs[k], List.getElem_mem hk', rfl⟩)), mvL_len]
    simp; omega
def mvG (zs : List ((Int × Int) × Int)) (dx dy : Int) : Bool := frmB zs && (inB dx (-120) 120 && (inB dy (-120) 120 && mvOk zs dx dy))
def mvC (zs : List ((Int × Int) × Int)) (dx dy : Int) : Int := if frmB zs then (if mvG zs dx dy then 0 else 2) else 1
def mvF (zs : List ((Int × Int) × Int)) (dx dy : Int) : List ((Int × Int) × Int) := if mvG zs dx dy then mvL zs dx dy else []
theorem mvF_len (zs : List ((Int × Int) × Int)) (dx dy : Int) : (mvF zs dx dy).length ≤ 500 := by
  unfold mvF
  split
  · rename_i h
    rw [mvL_len]
    simp only [mvG, Bool.and_eq_true, frmB, decide_eq_true_eq] at h
    exact h.1.1
  · simp
/-- A call hands back an assembly in new memory and a code. -/
def GivesAsmCode (w : World) (e : TypeId) (zs : List ((Int × Int) × Int)) (c : Int) (E : Ending) (w' : World) : Prop :=
  ∃ u, E = .returned (.tuple #[.agg #[u], .int .i64 c]) ∧ Own w' w.heap.size w'.heap.size e 3 u zs.length (zs.flatMap plCells) ∧ New w w'
theorem mv_no {zs : List ((Int × Int) × Int)} {dx dy : Int} (h : frmB zs = false) : mvC zs dx dy = 1 ∧ mvF zs dx dy = [] := by simp [mvC, mvF, mvG, h]
theorem mv_two {zs : List ((Int × Int) × Int)} {dx dy : Int} (h : frmB zs = true) (h2 : (inB dx (-120) 120 && (inB dy (-120) 120 && mvOk zs dx dy)) = false) : mvC zs dx dy = 2 ∧ mvF zs dx dy = [] := by simp [mvC, mvF, mvG, h, h2]
theorem mv_yes {zs : List ((Int × Int) × Int)} {dx dy : Int} (h : frmB zs = true) (h1 : inB dx (-120) 120 = true) (h2 : inB dy (-120) 120 = true) (h3 : mvOk zs dx dy = true) : mvC zs dx dy = 0 ∧ mvF zs dx dy = mvL zs dx dy := by simp [mvC, mvF, mvG, h, h1, h2, h3]

set_option maxRecDepth 20000 in
set_option maxHeartbeats 1000000 in
theorem c_specMoveAssembly (lo hi : Nat) (v : Value) (zs : List ((Int × Int) × Int)) (dx dy : Int) (w : World) (h : Own w lo hi 71 3 v zs.length (zs.flatMap plCells)) :
    Calls Try.prog 23 #[.agg #[v], .agg #[.int .i64 dx, .int .i64 dy]] w (GivesAsmCode w 71 (mvF zs dx dy) (mvC zs dx dy)) := by
  have HO := Lib.hid h
  obtain ⟨A, c, rfl⟩ := own_slice3 h.1
  clear h
  have n0 : New w (((w.alloc (.cells #[.slice A zs.length c] 29)).alloc (.cells #[.int .i64 dx, .int .i64 dy] 33)).alloc (.cells #[.slice none 0 0] 29)) := (((New.same w).box _).box _).box _
  have B0 : BoxV (((w.alloc (.cells #[.slice A zs.length c] 29)).alloc (.cells #[.int .i64 dx, .int .i64 dy] 33)).alloc (.cells #[.slice none 0 0] 29)) w.heap.size [.slice A zs.length c] := .one (by go_simp) (by go_simp) (by simp <;> omega)
  have C0 : BoxV (((w.alloc (.cells #[.slice A zs.length c] 29)).alloc (.cells #[.int .i64 dx, .int .i64 dy] 33)).alloc (.cells #[.slice none 0 0] 29)) (w.heap.size + 1) [.int .i64 dx, .int .i64 dy] := .two (by go_simp) (by go_simp) (by go_simp) (by go_simp) (by simp <;> omega)
  have C1 : BoxV (((w.alloc (.cells #[.slice A zs.length c] 29)).alloc (.cells #[.int .i64 dx, .int .i64 dy] 33)).alloc (.cells #[.slice none 0 0] 29)) (w.heap.size + 2) [.slice none 0 0] := .one (by go_simp) (by go_simp) (by simp <;> omega)
  have hz : w.heap.size + 3 ≤ (((w.alloc (.cells #[.slice A zs.length c] 29)).alloc (.cells #[.int .i64 dx, .int .i64 dy] 33)).alloc (.cells #[.slice none 0 0] 29)).heap.size := by simp
  cases hf : frmB zs
  · have HE := Lib.hid (mv_no (dx := dx) (dy := dy) hf)
    have HF := Lib.hid hf
    clear hf
    go_enter Try.func23, Try.ntmps23
    go_wp2_with fail
    generalize (((w.alloc (.cells #[.slice A zs.length c] 29)).alloc (.cells #[.int .i64 dx, .int .i64 dy] 33)).alloc (.cells #[.slice none 0 0] 29)) = W0 at *
    refine (c_l03Form _ _ _ _ zs _ B0 (HO.out.new n0).rd).mono ?_
    rintro e w1 ⟨rfl, n1⟩
    rw [HF.out]
    have N := n0.step n1
    have hz1 : w.heap.size + 3 ≤ w1.heap.size := Nat.le_trans hz n1.size
    replace B0 := B0.new n1
    replace C0 := C0.new n1
    replace C1 := C1.new n1
    have ⟨bx0, _, bl0⟩ := B0.at1
    have ⟨⟨c0, d0⟩, _, l0⟩ := C0.at2
    have ⟨c1, g1, l1⟩ := C1.at1
    go_wp2
    refine bodyPost_ret (v := .tuple #[.agg #[.slice none 0 0], .int .i64 1]) (by simp [results, Try.results23, go_sem, *]) rfl ?_
    obtain ⟨e1, e2⟩ := HE.out
    unfold GivesAsmCode
    rw [e1, e2]
    exact ⟨_, rfl, own_nil _ _ (Nat.le_refl _) _ _ _, Below.setCell N (by simp <;> omega) _⟩
  · have HF := Lib.hid hf
    have hl : zs.length ≤ 500 := by simp [frmB] at hf; exact hf.1
    cases hx : inB dx (-120) 120
    · have HE := Lib.hid (mv_two (dx := dx) (dy := dy) hf (by rw [hx]; rfl))
      have HX := Lib.hid hx
      clear hf hx
      go_enter Try.func23, Try.ntmps23
      go_wp2_with fail
      generalize (((w.alloc (.cells #[.slice A zs.length c] 29)).alloc (.cells #[.int .i64 dx, .int .i64 dy] 33)).alloc (.cells #[.slice none 0 0] 29)) = W0 at *
      refine (c_l03Form _ _ _ _ zs _ B0 (HO.out.new n0).rd).mono ?_
      rintro e w1 ⟨rfl, n1⟩
      rw [HF.out]
      have N := n0.step n1
      have hz1 : w.heap.size + 3 ≤ w1.heap.size := Nat.le_trans hz n1.size
      replace B0 := B0.new n1
      replace C0 := C0.new n1
      replace C1 := C1.new n1
      have ⟨bx0, _, bl0⟩ := B0.at1
      have ⟨⟨c0, d0⟩, _, l0⟩ := C0.at2
      have ⟨c1, g1, l1⟩ := C1.at1
      go_wp2_with fail
      refine (c_l00In _ _ _ _).mono ?_
      rintro e w' ⟨rfl, rfl⟩
      rw [HX.out]
      go_wp2
      refine bodyPost_ret (v := .tuple #[.agg #[.slice none 0 0], .int .i64 2]) (by simp [results, Try.results23, go_sem, *]) rfl ?_
      obtain ⟨e1, e2⟩ := HE.out
      unfold GivesAsmCode
      rw [e1, e2]
      exact ⟨_, rfl, own_nil _ _ (Nat.le_refl _) _ _ _, Below.setCell N (by simp <;> omega) _⟩
    · cases hy : inB dy (-120) 120
      · have HE := Lib.hid (mv_two (dx := dx) (dy := dy) hf (by rw [hx, hy]; rfl))
        have HX := Lib.hid hx
        have HY := Lib.hid hy
        clear hf hx hy
        go_enter Try.func23, Try.ntmps23
        go_wp2_with fail
        generalize (((w.alloc (.cells #[.slice A zs.length c] 29)).alloc (.cells #[.int .i64 dx, .int .i64 dy] 33)).alloc (.cells #[.slice none 0 0] 29)) = W0 at *
        refine (c_l03Form _ _ _ _ zs _ B0 (HO.out.new n0).rd).mono ?_
        rintro e w1 ⟨rfl, n1⟩
        rw [HF.out]
        have N := n0.step n1
        have hz1 : w.heap.size + 3 ≤ w1.heap.size := Nat.le_trans hz n1.size
        replace B0 := B0.new n1
        replace C0 := C0.new n1
        replace C1 := C1.new n1
        have ⟨bx0, _, bl0⟩ := B0.at1
        have ⟨⟨c0, d0⟩, _, l0⟩ := C0.at2
        have ⟨c1, g1, l1⟩ := C1.at1
        go_wp2_with fail
        refine (c_l00In _ _ _ _).mono ?_
        rintro e w' ⟨rfl, rfl⟩
        rw [HX.out]
        go_wp2_with fail
        refine (c_l00In _ _ _ _).mono ?_
        rintro e w' ⟨rfl, rfl⟩
        rw [HY.out]
        go_wp2
        refine bodyPost_ret (v := .tuple #[.agg #[.slice none 0 0], .int .i64 2]) (by simp [results, Try.results23, go_sem, *]) rfl ?_
        obtain ⟨e1, e2⟩ := HE.out
        unfold GivesAsmCode
        rw [e1, e2]
        exact ⟨_, rfl, own_nil _ _ (Nat.le_refl _) _ _ _, Below.setCell N (by simp <;> omega) _⟩
      · have HX := Lib.hid hx
        have HY := Lib.hid hy
        obtain ⟨bx1, bx2⟩ := inB_iff.1 hx
        obtain ⟨by1, by2⟩ := inB_iff.1 hy
        cases hm : mvOk zs dx dy
        · have HE := Lib.hid (mv_two (dx := dx) (dy := dy) hf (by rw [hx, hy, hm]; rfl))
          have HM := Lib.hid hm
          have HFM := Lib.hid (frm_move hf dx dy)
          have hff := hf
          have HFF := Lib.hid hff
          clear hf hx hy hm hff
          go_enter Try.func23, Try.ntmps23
          go_wp2_with fail
          generalize (((w.alloc (.cells #[.slice A zs.length c] 29)).alloc (.cells #[.int .i64 dx, .int .i64 dy] 33)).alloc (.cells #[.slice none 0 0] 29)) = W0 at *
          refine (c_l03Form _ _ _ _ zs _ B0 (HO.out.new n0).rd).mono ?_
          rintro e w1 ⟨rfl, n1⟩
          rw [HF.out]
          have N := n0.step n1
          have hz1 : w.heap.size + 3 ≤ w1.heap.size := Nat.le_trans hz n1.size
          replace B0 := B0.new n1
          replace C0 := C0.new n1
          replace C1 := C1.new n1
          have ⟨bx0, _, bl0⟩ := B0.at1
          have ⟨⟨c0, d0⟩, _, l0⟩ := C0.at2
          have ⟨c1, g1, l1⟩ := C1.at1
          go_wp2_with fail
          refine (c_l00In _ _ _ _).mono ?_
          rintro e w' ⟨rfl, rfl⟩
          rw [HX.out]
          go_wp2_with fail
          refine (c_l00In _ _ _ _).mono ?_
          rintro e w' ⟨rfl, rfl⟩
          rw [HY.out]
          go_wp2_with fail
          refine (c_l03Move _ _ _ _ zs dx dy _ B0 (HO.out.new N).rd HFF.out bx1 bx2 by1 by2).mono ?_
          rintro e w2 ⟨u, rfl, hO, n2⟩
          rw [HM.out]
          obtain ⟨A2, c2, rfl⟩ := own_slice3 hO.1
          have n3 : New w2 (w2.alloc (.cells #[.slice A2 (mvR zs dx dy).length c2] 29)) := (New.same _).box _
          have P2 : BoxV (w2.alloc (.cells #[.slice A2 (mvR zs dx dy).length c2] 29)) w2.heap.size [.slice A2 (mvR zs dx dy).length c2] := .one (by go_simp) (by go_simp) (by simp <;> omega)
          have hO3 := hO.new n3
          have hz2 : w.heap.size + 3 ≤ w2.heap.size := Nat.le_trans hz1 n2.size
          replace N := (N.step n2).step n3
          replace C1 := (C1.new n2).new n3
          clear bx0 bl0 c0 d0 l0 c1 g1 l1 hO n2
          have ⟨c1, g1, l1⟩ := C1.at1
          have ⟨c2_, g2_, l2_⟩ := P2.at1
          go_wp2
          refine bodyPost_ret (v := .tuple #[.agg #[.slice none 0 0], .int .i64 2]) (by simp [results, Try.results23, go_sem, *]) rfl ?_
          obtain ⟨e1, e2⟩ := HE.out
          unfold GivesAsmCode
          rw [e1, e2]
          exact ⟨_, rfl, own_nil _ _ (Nat.le_refl _) _ _ _, Below.setCell N (by simp <;> omega) _⟩
        · have HE := Lib.hid (mv_yes hf hx hy hm)
          have HM := Lib.hid hm
          have HFM := Lib.hid (frm_move hf dx dy)
          have hff := hf
          have HFF := Lib.hid hff
          clear hf hx hy hm hff
          go_enter Try.func23, Try.ntmps23
          go_wp2_with fail
          generalize (((w.alloc (.cells #[.slice A zs.length c] 29)).alloc (.cells #[.int .i64 dx, .int .i64 dy] 33)).alloc (.cells #[.slice none 0 0] 29)) = W0 at *
          refine (c_l03Form _ _ _ _ zs _ B0 (HO.out.new n0).rd).mono ?_
          rintro e w1 ⟨rfl, n1⟩
          rw [HF.out]
          have N := n0.step n1
          have hz1 : w.heap.size + 3 ≤ w1.heap.size := Nat.le_trans hz n1.size
          replace B0 := B0.new n1
          replace C0 := C0.new n1
          replace C1 := C1.new n1
          have ⟨bx0, _, bl0⟩ := B0.at1
          have ⟨⟨c0, d0⟩, _, l0⟩ := C0.at2
          have ⟨c1, g1, l1⟩ := C1.at1
          go_wp2_with fail
          refine (c_l00In _ _ _ _).mono ?_
          rintro e w' ⟨rfl, rfl⟩
          rw [HX.out]
          go_wp2_with fail
          refine (c_l00In _ _ _ _).mono ?_
          rintro e w' ⟨rfl, rfl⟩
          rw [HY.out]
          go_wp2_with fail
          refine (c_l03Move _ _ _ _ zs dx dy _ B0 (HO.out.new N).rd HFF.out bx1 bx2 by1 by2).mono ?_
          rintro e w2 ⟨u, rfl, hO, n2⟩
          rw [HM.out]
          obtain ⟨A2, c2, rfl⟩ := own_slice3 hO.1
          have n3 : New w2 (w2.alloc (.cells #[.slice A2 (mvR zs dx dy).length c2] 29)) := (New.same _).box _
          have P2 : BoxV (w2.alloc (.cells #[.slice A2 (mvR zs dx dy).length c2] 29)) w2.heap.size [.slice A2 (mvR zs dx dy).length c2] := .one (by go_simp) (by go_simp) (by simp <;> omega)
          have hO3 := hO.new n3
          have hz2 : w.heap.size + 3 ≤ w2.heap.size := Nat.le_trans hz1 n2.size
          replace N := (N.step n2).step n3
          replace C1 := (C1.new n2).new n3
          clear bx0 bl0 c0 d0 l0 c1 g1 l1 hO n2
          have ⟨c1, g1, l1⟩ := C1.at1
          have ⟨c2_, g2_, l2_⟩ := P2.at1
          have F := (Fr.refl (w.heap.size + 2) (w.heap.size + 3) (w2.alloc (.cells #[.slice A2 (mvR zs dx dy).length c2] 29))).setCell (p := ⟨w.heap.size + 1 + 1, 0, none⟩) (by simp) (by simp <;> omega) (.slice A2 (mvR zs dx dy).length c2)
          have HW := Lib.hid ((hO3.fr F (.inr (by omega))).wide (by omega : w.heap.size ≤ _) (Nat.le_trans (by first | exact n3.size | exact Nat.le_trans n3.size n4.size) F.size) (Nat.le_refl _))
          have NN := New.fr N F (by omega)
          clear F hO3
          go_wp2
          refine bodyPost_ret (v := .tuple #[.agg #[.slice A2 (mvR zs dx dy).length c2], .int .i64 0]) (by simp [results, Try.results23, go_sem, *]) rfl ?_
          obtain ⟨e1, e2⟩ := HE.out
          unfold GivesAsmCode
          rw [e1, e2]
          have hw := HW.out
          have eR : mvR zs dx dy = mvL zs dx dy := by simp [mvR, HM.out]
          rw [eR] at hw ⊢
          exact ⟨_, rfl, hw, by rw [eR] at NN; exact NN⟩

set_option maxRecDepth 20000 in
set_option maxHeartbeats 1000000 in
theorem c_implMoveAssembly (lo hi : Nat) (v : Value) (zs : List ((Int × Int) × Int)) (dx dy : Int) (w : World) (h : Own w lo hi 71 3 v zs.length (zs.flatMap plCells)) :
    Calls Try.prog 25 #[.agg #[v], .agg #[.int .i64 dx, .int .i64 dy]] w (GivesAsmCode w 71 (mvF zs dx dy) (mvC zs dx dy)) := by
  have HO := Lib.hid h
  obtain ⟨A, c, rfl⟩ := own_slice3 h.1
  clear h
  have n0 : New w (((w.alloc (.cells #[.slice A zs.length c] 29)).alloc (.cells #[.int .i64 dx, .int .i64 dy] 33)).alloc (.cells #[.slice none 0 0] 29)) := (((New.same w).box _).box _).box _
  have B0 : BoxV (((w.alloc (.cells #[.slice A zs.length c] 29)).alloc (.cells #[.int .i64 dx, .int .i64 dy] 33)).alloc (.cells #[.slice none 0 0] 29)) w.heap.size [.slice A zs.length c] := .one (by go_simp) (by go_simp) (by simp <;> omega)
  have C0 : BoxV (((w.alloc (.cells #[.slice A zs.length c] 29)).alloc (.cells #[.int .i64 dx, .int .i64 dy] 33)).alloc (.cells #[.slice none 0 0] 29)) (w.heap.size + 1) [.int .i64 dx, .int .i64 dy] := .two (by go_simp) (by go_simp) (by go_simp) (by go_simp) (by simp <;> omega)
  have C1 : BoxV (((w.alloc (.cells #[.slice A zs.length c] 29)).alloc (.cells #[.int .i64 dx, .int .i64 dy] 33)).alloc (.cells #[.slice none 0 0] 29)) (w.heap.size + 2) [.slice none 0 0] := .one (by go_simp) (by go_simp) (by simp <;> omega)
  have hz : w.heap.size + 3 ≤ (((w.alloc (.cells #[.slice A zs.length c] 29)).alloc (.cells #[.int .i64 dx, .int .i64 dy] 33)).alloc (.cells #[.slice none 0 0] 29)).heap.size := by simp
  cases hf : frmB zs
  · have HE := Lib.hid (mv_no (dx := dx) (dy := dy) hf)
    have HF := Lib.hid hf
    clear hf
    go_enter Try.func25, Try.ntmps25
    go_wp2_with fail
    generalize (((w.alloc (.cells #[.slice A zs.length c] 29)).alloc (.cells #[.int .i64 dx, .int .i64 dy] 33)).alloc (.cells #[.slice none 0 0] 29)) = W0 at *
    refine (c_hasForm _ _ _ zs _ (HO.out.new n0).rd).mono ?_
    rintro e w1 ⟨rfl, n1⟩
    rw [HF.out]
    have N := n0.step n1
    have hz1 : w.heap.size + 3 ≤ w1.heap.size := Nat.le_trans hz n1.size
    replace B0 := B0.new n1
    replace C0 := C0.new n1
    replace C1 := C1.new n1
    have ⟨bx0, _, bl0⟩ := B0.at1
    have ⟨⟨c0, d0⟩, _, l0⟩ := C0.at2
    have ⟨c1, g1, l1⟩ := C1.at1
    go_wp2
    refine bodyPost_ret (v := .tuple #[.agg #[.slice none 0 0], .int .i64 1]) (by simp [results, Try.results25, go_sem, *]) rfl ?_
    obtain ⟨e1, e2⟩ := HE.out
    unfold GivesAsmCode
    rw [e1, e2]
    exact ⟨_, rfl, own_nil _ _ (Nat.le_refl _) _ _ _, Below.setCell N (by simp <;> omega) _⟩
  · have HF := Lib.hid hf
    have hl : zs.length ≤ 500 := by simp [frmB] at hf; exact hf.1
    cases hx : inB dx (-120) 120
    · have HE := Lib.hid (mv_two (dx := dx) (dy := dy) hf (by rw [hx]; rfl))
      have HX := Lib.hid hx
      clear hf hx
      go_enter Try.func25, Try.ntmps25
      go_wp2_with fail
      generalize (((w.alloc (.cells #[.slice A zs.length c] 29)).alloc (.cells #[.int .i64 dx, .int .i64 dy] 33)).alloc (.cells #[.slice none 0 0] 29)) = W0 at *
      refine (c_hasForm _ _ _ zs _ (HO.out.new n0).rd).mono ?_
      rintro e w1 ⟨rfl, n1⟩
      rw [HF.out]
      have N := n0.step n1
      have hz1 : w.heap.size + 3 ≤ w1.heap.size := Nat.le_trans hz n1.size
      replace B0 := B0.new n1
      replace C0 := C0.new n1
      replace C1 := C1.new n1
      have ⟨bx0, _, bl0⟩ := B0.at1
      have ⟨⟨c0, d0⟩, _, l0⟩ := C0.at2
      have ⟨c1, g1, l1⟩ := C1.at1
      go_wp2_with fail
      refine (c_within _ _ _ _).mono ?_
      rintro e w' ⟨rfl, rfl⟩
      rw [HX.out]
      go_wp2
      refine bodyPost_ret (v := .tuple #[.agg #[.slice none 0 0], .int .i64 2]) (by simp [results, Try.results25, go_sem, *]) rfl ?_
      obtain ⟨e1, e2⟩ := HE.out
      unfold GivesAsmCode
      rw [e1, e2]
      exact ⟨_, rfl, own_nil _ _ (Nat.le_refl _) _ _ _, Below.setCell N (by simp <;> omega) _⟩
    · cases hy : inB dy (-120) 120
      · have HE := Lib.hid (mv_two (dx := dx) (dy := dy) hf (by rw [hx, hy]; rfl))
        have HX := Lib.hid hx
        have HY := Lib.hid hy
        clear hf hx hy
        go_enter Try.func25, Try.ntmps25
        go_wp2_with fail
        generalize (((w.alloc (.cells #[.slice A zs.length c] 29)).alloc (.cells #[.int .i64 dx, .int .i64 dy] 33)).alloc (.cells #[.slice none 0 0] 29)) = W0 at *
        refine (c_hasForm _ _ _ zs _ (HO.out.new n0).rd).mono ?_
        rintro e w1 ⟨rfl, n1⟩
        rw [HF.out]
        have N := n0.step n1
        have hz1 : w.heap.size + 3 ≤ w1.heap.size := Nat.le_trans hz n1.size
        replace B0 := B0.new n1
        replace C0 := C0.new n1
        replace C1 := C1.new n1
        have ⟨bx0, _, bl0⟩ := B0.at1
        have ⟨⟨c0, d0⟩, _, l0⟩ := C0.at2
        have ⟨c1, g1, l1⟩ := C1.at1
        go_wp2_with fail
        refine (c_within _ _ _ _).mono ?_
        rintro e w' ⟨rfl, rfl⟩
        rw [HX.out]
        go_wp2_with fail
        refine (c_within _ _ _ _).mono ?_
        rintro e w' ⟨rfl, rfl⟩
        rw [HY.out]
        go_wp2
        refine bodyPost_ret (v := .tuple #[.agg #[.slice none 0 0], .int .i64 2]) (by simp [results, Try.results25, go_sem, *]) rfl ?_
        obtain ⟨e1, e2⟩ := HE.out
        unfold GivesAsmCode
        rw [e1, e2]
        exact ⟨_, rfl, own_nil _ _ (Nat.le_refl _) _ _ _, Below.setCell N (by simp <;> omega) _⟩
      · have HX := Lib.hid hx
        have HY := Lib.hid hy
        obtain ⟨bx1, bx2⟩ := inB_iff.1 hx
        obtain ⟨by1, by2⟩ := inB_iff.1 hy
        cases hm : mvOk zs dx dy
        · have HE := Lib.hid (mv_two (dx := dx) (dy := dy) hf (by rw [hx, hy, hm]; rfl))
          have HM := Lib.hid hm
          have HFM := Lib.hid (frm_move hf dx dy)
          have hff := hf
          have HFF := Lib.hid hff
          clear hf hx hy hm hff
          go_enter Try.func25, Try.ntmps25
          go_wp2_with fail
          generalize (((w.alloc (.cells #[.slice A zs.length c] 29)).alloc (.cells #[.int .i64 dx, .int .i64 dy] 33)).alloc (.cells #[.slice none 0 0] 29)) = W0 at *
          refine (c_hasForm _ _ _ zs _ (HO.out.new n0).rd).mono ?_
          rintro e w1 ⟨rfl, n1⟩
          rw [HF.out]
          have N := n0.step n1
          have hz1 : w.heap.size + 3 ≤ w1.heap.size := Nat.le_trans hz n1.size
          replace B0 := B0.new n1
          replace C0 := C0.new n1
          replace C1 := C1.new n1
          have ⟨bx0, _, bl0⟩ := B0.at1
          have ⟨⟨c0, d0⟩, _, l0⟩ := C0.at2
          have ⟨c1, g1, l1⟩ := C1.at1
          go_wp2_with fail
          refine (c_within _ _ _ _).mono ?_
          rintro e w' ⟨rfl, rfl⟩
          rw [HX.out]
          go_wp2_with fail
          refine (c_within _ _ _ _).mono ?_
          rintro e w' ⟨rfl, rfl⟩
          rw [HY.out]
          go_wp2_with fail
          refine (c_moved _ _ _ zs dx dy _ (HO.out.new N) HFF.out bx1 bx2 by1 by2).mono ?_
          rintro e w2 ⟨u, rfl, hO, n2⟩
          obtain ⟨A2, c2, rfl⟩ := own_slice3 hO.1
          have n3 : New w2 (w2.alloc (.cells #[.slice A2 (mvL zs dx dy).length c2] 29)) := (New.same _).box _
          have P2 : BoxV (w2.alloc (.cells #[.slice A2 (mvL zs dx dy).length c2] 29)) w2.heap.size [.slice A2 (mvL zs dx dy).length c2] := .one (by go_simp) (by go_simp) (by simp <;> omega)
          have hO3 := hO.new n3
          have hz2 : w.heap.size + 3 ≤ w2.heap.size := Nat.le_trans hz1 n2.size
          replace N := (N.step n2).step n3
          replace C1 := (C1.new n2).new n3
          clear bx0 bl0 c0 d0 l0 c1 g1 l1 hO n2
          have ⟨c1, g1, l1⟩ := C1.at1
          have ⟨c2_, g2_, l2_⟩ := P2.at1
          go_wp2_with fail
          generalize (w2.alloc (.cells #[.slice A2 (mvL zs dx dy).length c2] 29)) = W3 at *
          refine (c_hasForm _ _ _ (mvL zs dx dy) _ hO3.rd).mono ?_
          rintro e w4 ⟨rfl, n4⟩
          rw [HFM.out, HM.out]
          replace N := N.step n4
          replace hO3 := hO3.new n4
          replace C1 := C1.new n4
          replace P2 := P2.new n4
          clear c1 g1 l1 c2_ g2_ l2_
          have ⟨c1, g1, l1⟩ := C1.at1
          have ⟨c2_, g2_, l2_⟩ := P2.at1
          go_wp2
          refine bodyPost_ret (v := .tuple #[.agg #[.slice none 0 0], .int .i64 2]) (by simp [results, Try.results25, go_sem, *]) rfl ?_
          obtain ⟨e1, e2⟩ := HE.out
          unfold GivesAsmCode
          rw [e1, e2]
          exact ⟨_, rfl, own_nil _ _ (Nat.le_refl _) _ _ _, Below.setCell N (by simp <;> omega) _⟩
        · have HE := Lib.hid (mv_yes hf hx hy hm)
          have HM := Lib.hid hm
          have HFM := Lib.hid (frm_move hf dx dy)
          have hff := hf
          have HFF := Lib.hid hff
          clear hf hx hy hm hff
          go_enter Try.func25, Try.ntmps25
          go_wp2_with fail
          generalize (((w.alloc (.cells #[.slice A zs.length c] 29)).alloc (.cells #[.int .i64 dx, .int .i64 dy] 33)).alloc (.cells #[.slice none 0 0] 29)) = W0 at *
          refine (c_hasForm _ _ _ zs _ (HO.out.new n0).rd).mono ?_
          rintro e w1 ⟨rfl, n1⟩
          rw [HF.out]
          have N := n0.step n1
          have hz1 : w.heap.size + 3 ≤ w1.heap.size := Nat.le_trans hz n1.size
          replace B0 := B0.new n1
          replace C0 := C0.new n1
          replace C1 := C1.new n1
          have ⟨bx0, _, bl0⟩ := B0.at1
          have ⟨⟨c0, d0⟩, _, l0⟩ := C0.at2
          have ⟨c1, g1, l1⟩ := C1.at1
          go_wp2_with fail
          refine (c_within _ _ _ _).mono ?_
          rintro e w' ⟨rfl, rfl⟩
          rw [HX.out]
          go_wp2_with fail
          refine (c_within _ _ _ _).mono ?_
          rintro e w' ⟨rfl, rfl⟩
          rw [HY.out]
          go_wp2_with fail
          refine (c_moved _ _ _ zs dx dy _ (HO.out.new N) HFF.out bx1 bx2 by1 by2).mono ?_
          rintro e w2 ⟨u, rfl, hO, n2⟩
          obtain ⟨A2, c2, rfl⟩ := own_slice3 hO.1
          have n3 : New w2 (w2.alloc (.cells #[.slice A2 (mvL zs dx dy).length c2] 29)) := (New.same _).box _
          have P2 : BoxV (w2.alloc (.cells #[.slice A2 (mvL zs dx dy).length c2] 29)) w2.heap.size [.slice A2 (mvL zs dx dy).length c2] := .one (by go_simp) (by go_simp) (by simp <;> omega)
          have hO3 := hO.new n3
          have hz2 : w.heap.size + 3 ≤ w2.heap.size := Nat.le_trans hz1 n2.size
          replace N := (N.step n2).step n3
          replace C1 := (C1.new n2).new n3
          clear bx0 bl0 c0 d0 l0 c1 g1 l1 hO n2
          have ⟨c1, g1, l1⟩ := C1.at1
          have ⟨c2_, g2_, l2_⟩ := P2.at1
          go_wp2_with fail
          generalize (w2.alloc (.cells #[.slice A2 (mvL zs dx dy).length c2] 29)) = W3 at *
          refine (c_hasForm _ _ _ (mvL zs dx dy) _ hO3.rd).mono ?_
          rintro e w4 ⟨rfl, n4⟩
          rw [HFM.out, HM.out]
          replace N := N.step n4
          replace hO3 := hO3.new n4
          replace C1 := C1.new n4
          replace P2 := P2.new n4
          clear c1 g1 l1 c2_ g2_ l2_
          have ⟨c1, g1, l1⟩ := C1.at1
          have ⟨c2_, g2_, l2_⟩ := P2.at1
          have F := (Fr.refl (w.heap.size + 2) (w.heap.size + 3) w4).setCell (p := ⟨w.heap.size + 1 + 1, 0, none⟩) (by simp) (by simp <;> omega) (.slice A2 (mvL zs dx dy).length c2)
          have HW := Lib.hid ((hO3.fr F (.inr (by omega))).wide (by omega : w.heap.size ≤ _) (Nat.le_trans (by first | exact n3.size | exact Nat.le_trans n3.size n4.size) F.size) (Nat.le_refl _))
          have NN := New.fr N F (by omega)
          clear F hO3
          go_wp2
          refine bodyPost_ret (v := .tuple #[.agg #[.slice A2 (mvL zs dx dy).length c2], .int .i64 0]) (by simp [results, Try.results25, go_sem, *]) rfl ?_
          obtain ⟨e1, e2⟩ := HE.out
          unfold GivesAsmCode
          rw [e1, e2]
          have hw := HW.out
          exact ⟨_, rfl, hw, NN⟩

end Go.Proofs.Ytnbpcdnncfkgjaa
