/- Contracts of the functions that move an assembly. -/
import Derived.Test.YtnbpcdnncfkgjaaAsmPts
import Derived.Test.YtnbpcdnncfkgjaaQTail
namespace Go.Proofs.Ytnbpcdnncfkgjaa
open Go.RowKit Go.Deep
set_option linter.unusedVariables false
set_option linter.unusedSimpArgs false

theorem row_Placed_ : ElemRow Try.prog 27 71 3 24 := row_Placed

def mvT (zs : List ((Int × Int) × Int)) (dx dy : Int) (k : Nat) : List ((Int × Int) × Int) := (zs.take k).map fun q => ((q.1.1 + dx, q.1.2 + dy), q.2)
def mvL (zs : List ((Int × Int) × Int)) (dx dy : Int) : List ((Int × Int) × Int) := zs.map fun q => ((q.1.1 + dx, q.1.2 + dy), q.2)
def mvOk (zs : List ((Int × Int) × Int)) (dx dy : Int) : Bool := (mvL zs dx dy).all fun q => vpB q.1.1 q.1.2
def mvR (zs : List ((Int × Int) × Int)) (dx dy : Int) : List ((Int × Int) × Int) := if mvOk zs dx dy then mvL zs dx dy else []
theorem mvT_zero (zs : List ((Int × Int) × Int)) (dx dy : Int) : (mvT zs dx dy 0).flatMap plCells = [] := by simp only [mvT, List.take_zero, List.map_nil, List.flatMap_nil]
theorem mvT_all (zs : List ((Int × Int) × Int)) (dx dy : Int) : mvT zs dx dy zs.length = mvL zs dx dy := by simp [mvT, mvL]
theorem mvL_len (zs : List ((Int × Int) × Int)) (dx dy : Int) : (mvL zs dx dy).length = zs.length := by simp [mvL]
theorem mvT_step {w' : World} {base : Nat} {e : TypeId} {v : Value} {zs : List ((Int × Int) × Int)} {dx dy : Int} {k : Nat} (hk : k < zs.length)
    (h : w'.ownsRow base e 3 v (k + 1) ((mvT zs dx dy k).flatMap plCells ++ [.int .i64 (zs[k].1.1 + dx), .int .i64 (zs[k].1.2 + dy), .int .i64 zs[k].2])) : w'.ownsRow base e 3 v (k + 1) ((mvT zs dx dy (k + 1)).flatMap plCells) := by
  have : mvT zs dx dy (k + 1) = mvT zs dx dy k ++ [((zs[k].1.1 + dx, zs[k].1.2 + dy), zs[k].2)] := by
    unfold mvT
    rw [List.take_succ_eq_append_getElem hk, List.map_append]
    rfl
  rw [this, List.flatMap_append]
  simpa [plCells] using h
theorem mvOk_hit {zs : List ((Int × Int) × Int)} {dx dy : Int} {k : Nat} (hk : k < zs.length) (h : vpB (zs[k].1.1 + dx) (zs[k].1.2 + dy) = false) : mvOk zs dx dy = false := by
  cases he : mvOk zs dx dy
  · rfl
  · have := List.all_eq_true.1 he _ (List.mem_map.2 ⟨zs[k], List.getElem_mem hk, rfl⟩)
    rw [h] at this; cases this
theorem mvOk_miss {zs : List ((Int × Int) × Int)} {dx dy : Int} (h : ∀ k (hk : k < zs.length), vpB (zs[k].1.1 + dx) (zs[k].1.2 + dy) = true) : mvOk zs dx dy = true := by
  refine List.all_eq_true.2 fun q hq => ?_
  obtain ⟨z, hz, rfl⟩ := List.mem_map.1 hq
  obtain ⟨k, hk, rfl⟩ := List.getElem_of_mem hz
  exact h k hk
theorem frm_vp {zs : List ((Int × Int) × Int)} (h : frmB zs = true) : ∀ k (hk : k < zs.length), vpB zs[k].1.1 zs[k].1.2 = true := by
  intro k hk
  simp only [frmB, Bool.and_eq_true] at h
  have := List.all_eq_true.1 h.2 k (List.mem_range.2 hk)
  simp only [plAt, Bool.and_eq_true] at this
  simpa [List.getD_eq_getElem?_getD, hk] using this.1
theorem own_slice3 {w : World} {base : Nat} {e : TypeId} {v : Value} {n : Nat} {xs : List Value} (h : w.ownsRow base e 3 v n xs) : ∃ A c, v = .slice A n c := by
  obtain ⟨_, _, _, A, c, rfl, _⟩ := (Own.of h).rd
  exact ⟨A, c, rfl⟩
theorem BoxV.put1 {w : World} {b : Nat} {x : Value} (h : BoxV w b [x]) (u : Value) : BoxV (w.setCell ⟨b, 0, none⟩ u) b [u] := by
  obtain ⟨c, f, l⟩ := h.at1
  exact .one (by simp [go_sem, *]) (by simp [go_sem, *]) (by simp [go_sem, *])

theorem BoxV.put01 {w : World} {b : Nat} {x y z : Value} (h : BoxV w b [x, y, z]) (u v : Value) : BoxV ((w.setCell ⟨b, 0, none⟩ u).setCell ⟨b, 1, none⟩ v) b [u, v, z] := by
  obtain ⟨⟨c, d, e⟩, ⟨f, g, i⟩, l⟩ := h.at3
  exact .three (by simp [go_sem, *]) (by simp [go_sem, *]) (by simp [go_sem, *]) (by simp [go_sem, *]) (by simp [go_sem, *]) (by simp [go_sem, *]) (by simp [go_sem, *])

set_option maxRecDepth 20000 in
set_option maxHeartbeats 1000000 in
theorem c_l03Move (b0 lo hi : Nat) (v : Value) (zs : List ((Int × Int) × Int)) (dx dy : Int) (w : World) (B0 : BoxV w b0 [v]) (h : Rd w lo hi 3 v zs.length (zs.flatMap plCells)) (hf : frmB zs = true) (x0 : -120 ≤ dx) (x1 : dx ≤ 120) (y0 : -120 ≤ dy) (y1 : dy ≤ 120) :
    Calls Try.prog 50 #[.pointer (some ⟨b0, 0, none⟩), .agg #[.int .i64 dx, .int .i64 dy]] w fun e w' => ∃ u, e = .returned (.tuple #[.agg #[u], .bool (mvOk zs dx dy)]) ∧ Own w' w.heap.size w'.heap.size 71 3 u (mvR zs dx dy).length ((mvR zs dx dy).flatMap plCells) ∧ New w w' := by
  have HR := Lib.hid h
  have hlen : zs.length ≤ 500 := by simp [frmB] at hf; exact hf.1
  have HV := Lib.hid (frm_vp hf)
  clear hf
  obtain ⟨_, hm, hh, A, c, rfl, hrd⟩ := h
  have ha : 0 < zs.length → ∃ b off, A = some ⟨b, off, none⟩ := fun h => by obtain ⟨b, off, e, _⟩ := hrd h; exact ⟨b, off, e⟩
  have HA := Lib.hid ha
  clear hrd ha hh
  have N0 : New w (((w.alloc (.cells #[.int .i64 dx, .int .i64 dy] 33)).alloc (.cells #[.slice none 0 0] 29)).alloc (.cells #[.slice none 0 0] 29)) := (((New.same w).box _).box _).box _
  have D0 : BoxV (((w.alloc (.cells #[.int .i64 dx, .int .i64 dy] 33)).alloc (.cells #[.slice none 0 0] 29)).alloc (.cells #[.slice none 0 0] 29)) w.heap.size [.int .i64 dx, .int .i64 dy] := .two (by go_simp) (by go_simp) (by go_simp) (by go_simp) (by simp <;> omega)
  have D1 : BoxV (((w.alloc (.cells #[.int .i64 dx, .int .i64 dy] 33)).alloc (.cells #[.slice none 0 0] 29)).alloc (.cells #[.slice none 0 0] 29)) (w.heap.size + 1) [.slice none 0 0] := .one (by go_simp) (by go_simp) (by simp <;> omega)
  have D2 : BoxV (((w.alloc (.cells #[.int .i64 dx, .int .i64 dy] 33)).alloc (.cells #[.slice none 0 0] 29)).alloc (.cells #[.slice none 0 0] 29)) (w.heap.size + 2) [.slice none 0 0] := .one (by go_simp) (by go_simp) (by simp <;> omega)
  have Z0 : w.heap.size + 3 ≤ (((w.alloc (.cells #[.int .i64 dx, .int .i64 dy] 33)).alloc (.cells #[.slice none 0 0] 29)).alloc (.cells #[.slice none 0 0] 29)).heap.size := by simp
  have HB : Hid (BoxV w b0 [.slice A zs.length c]) := Lib.hid B0
  clear B0
  go_enter Try.func50, Try.ntmps50
  go_wp2
  generalize (((w.alloc (.cells #[.int .i64 dx, .int .i64 dy] 33)).alloc (.cells #[.slice none 0 0] 29)).alloc (.cells #[.slice none 0 0] 29)) = W0 at *
  go_loopw [7] (fun i wr => ∃ k : Nat, ∃ v : Value, k ≤ zs.length ∧ i = .int .i64 k ∧ Hid (∀ j (hj : j < zs.length), j < k → vpB (zs[j].1.1 + dx) (zs[j].1.2 + dy) = true) ∧ BoxV wr w.heap.size [.int .i64 dx, .int .i64 dy] ∧ BoxV wr (w.heap.size + 1) [.slice none 0 0] ∧ BoxV wr (w.heap.size + 2) [v] ∧ wr.ownsRow (w.heap.size + 3) 71 3 v k ((mvT zs dx dy k).flatMap plCells) ∧ New w wr ∧ w.heap.size + 3 ≤ wr.heap.size) (fun i _ => zs.length - (intOf i).toNat)
  case atStart => exact ⟨0, _, Nat.zero_le _, rfl, Lib.hid (fun j _ hj => absurd hj (Nat.not_lt_zero _)), D0, D1, D2, by rw [mvT_zero]; exact World.ownsRow_nil _ _ _ _, N0, Z0⟩
  case round =>
    obtain ⟨k, v, hk, rfl, HJ, C0, C1, C2, hown, hN, hZ⟩ := hrel
    clear D0 D1 D2 N0 Z0
    have ⟨bx0, _, bl0⟩ := (HB.out.new hN).at1
    obtain ⟨Ar, cr, rfl⟩ := own_slice3 hown
    by_cases hlt : k < zs.length
    · obtain ⟨b, off, hAe⟩ := HA.out (by omega)
      subst hAe
      have p0 : (0 : Int) ≤ (k : Int) := by omega
      have p1 : (k : Int) < (zs.length : Int) := by omega
      obtain ⟨⟨vx, vX⟩, vy, vY⟩ := vpB_iff.1 (HV.out k hlt)
      obtain ⟨⟨u0, u1, u2⟩, bw⟩ := rd_pl HR.out hN rfl hlt
      have n7 : New wr (wr.alloc (.cells #[.int .i64 zs[k].1.1, .int .i64 zs[k].1.2, .int .i64 zs[k].2] 71)) := (New.same wr).box _
      have C7 : BoxV (wr.alloc (.cells #[.int .i64 zs[k].1.1, .int .i64 zs[k].1.2, .int .i64 zs[k].2] 71)) wr.heap.size [.int .i64 zs[k].1.1, .int .i64 zs[k].1.2, .int .i64 zs[k].2] := .three (by go_simp) (by go_simp) (by go_simp) (by go_simp) (by go_simp) (by go_simp) (by simp)
      go_upto_region 6 with fail
      clear u0 u1 u2 bw bx0 bl0
      generalize wr.alloc (.cells #[.int .i64 zs[k].1.1, .int .i64 zs[k].1.2, .int .i64 zs[k].2] 71) = W7 at *
      have hN7 := hN.step n7
      have hown7 := ownsRow_new hown n7
      have ⟨⟨c7, d7, e7⟩, ⟨f7, g7, i7⟩, l7⟩ := C7.at3
      have ⟨⟨c0, d0⟩, _, l0⟩ := (C0.new n7).at2
      have e1 : IntKind.i64.wrap (zs[k].1.1 + dx) = zs[k].1.1 + dx := IntWalk.i64_in _ (by omega)
      have e2 : IntKind.i64.wrap (zs[k].1.2 + dy) = zs[k].1.2 + dy := IntWalk.i64_in _ (by omega)
      go_upto_region 7 with fail
      clear c7 d7 e7 f7 g7 i7 l7 c0 d0 l0 e1 e2
      have F8 : Fr wr.heap.size (wr.heap.size + 1) W7 ((W7.setCell ⟨wr.heap.size, 0, none⟩ (.int .i64 (zs[k].1.1 + dx))).setCell ⟨wr.heap.size, 1, none⟩ (.int .i64 (zs[k].1.2 + dy))) := ((Fr.refl _ _ W7).setCell (by simp) (by simp) _).setCell (by simp) (by simp) _
      have hown8 := Lib.hid (((Own.of hown).new n7).fr F8 (.inl (Nat.le_refl _))).1
      have hN8 : New w ((W7.setCell ⟨wr.heap.size, 0, none⟩ (.int .i64 (zs[k].1.1 + dx))).setCell ⟨wr.heap.size, 1, none⟩ (.int .i64 (zs[k].1.2 + dy))) := hN7.fr F8 hN.size
      have C8 := C7.put01 (.int .i64 (zs[k].1.1 + dx)) (.int .i64 (zs[k].1.2 + dy))
      have E0 := (C0.new n7).fr F8 (.inl (by omega))
      have E1 := (C1.new n7).fr F8 (.inl (by omega))
      have E2 := (C2.new n7).fr F8 (.inl (by omega))
      have hz8 : wr.heap.size < ((W7.setCell ⟨wr.heap.size, 0, none⟩ (.int .i64 (zs[k].1.1 + dx))).setCell ⟨wr.heap.size, 1, none⟩ (.int .i64 (zs[k].1.2 + dy))).heap.size := C8.lt
      clear F8 hown7 hown C7 n7 hN7 C0 C1 C2
      have ⟨⟨c7, d7, e7⟩, _, l7⟩ := C8.at3
      generalize ((W7.setCell ⟨wr.heap.size, 0, none⟩ (.int .i64 (zs[k].1.1 + dx))).setCell ⟨wr.heap.size, 1, none⟩ (.int .i64 (zs[k].1.2 + dy))) = W8 at *
      generalize wr.heap.size = B at *
      cases gg : vpB (zs[k].1.1 + dx) (zs[k].1.2 + dy)
      · have HO := Lib.hid (mvOk_hit hlt gg)
        have HG := Lib.hid gg
        clear gg
        go_wp2_with fail
        refine (c_l01Point _ _ _).mono ?_
        rintro e w9 ⟨rfl, n9⟩
        rw [HG.out]
        have NN := hN8.step n9
        have ⟨f1, f2, f3⟩ := (E1.new n9).at1
        clear c7 d7 e7 l7
        go_wp2
        refine bodyPost_ret (v := .tuple #[.agg #[.slice none 0 0], .bool false]) (by simp [results, Try.results50, go_sem, *]) rfl ?_
        have ok := HO.out
        refine ⟨.slice none 0 0, by rw [ok], ?_, Below.setCell NN (by simp) _⟩
        have e : mvR zs dx dy = [] := by simp [mvR, ok]
        rw [e]
        exact own_nil _ _ (Nat.le_refl _) _ _ _
      · have HJ' := Lib.hid (show ∀ j (hj : j < zs.length), j < k + 1 → vpB (zs[j].1.1 + dx) (zs[j].1.2 + dy) = true from fun j hj hjk => by
          by_cases e : j = k
          · subst e; exact gg
          · exact HJ.out j hj (by omega))
        have HG := Lib.hid gg
        clear gg
        go_wp2_with fail
        refine (c_l01Point _ _ _).mono ?_
        rintro e w9 ⟨rfl, n9⟩
        rw [HG.out]
        have NN := hN8.step n9
        have ⟨f1, f2, f3⟩ := (E2.new n9).at1
        have hown9 := ownsRow_new hown8.out n9
        have hz9 : w.heap.size + 3 ≤ w9.heap.size := by have := n9.size; omega
        clear c7 d7 e7 l7
        have ⟨⟨c7, d7, e7⟩, _, l7⟩ := (C8.new n9).at3
        go_wp2_with (at_builtin; refine wpList_app1 rfl _ _ rfl row_Placed _ (w.heap.size + 3) hown9 rfl [.int .i64 (zs[k].1.1 + dx), .int .i64 (zs[k].1.2 + dy), .int .i64 zs[k].2] rfl rfl (by simp [Value.oneCell']) (by unfold maxLen; omega) (by omega) hz9 ?_; intro v1 w3 hown1 hb3 _ _; obtain ⟨A1, cc, rfl⟩ := own_slice3 hown1; have G2 := (E2.new n9).below hb3 (by omega); obtain ⟨g1, g2, g3⟩ := G2.at1; clear f1 f2 f3 c7 d7 e7 l7)
        have F3 := (Fr.refl (w.heap.size + 2) (w.heap.size + 3) w3).setCell (p := ⟨w.heap.size + 1 + 1, 0, none⟩) (by simp) (by simp <;> omega) (.slice A1 (k + 1) cc)
        have hown3 := ((Own.of (mvT_step hlt hown1)).fr F3 (.inr (Nat.le_refl _))).1
        have hN3 := New.fr (NN.trans (hb3.mono (by omega))) F3 (by omega)
        have H0 := ((E0.new n9).below hb3 (by omega)).fr F3 (.inl (by omega))
        have H1 := ((E1.new n9).below hb3 (by omega)).fr F3 (.inl (by omega))
        have H2 := G2.put1 (.slice A1 (k + 1) cc)
        have hz3 : w.heap.size + 3 ≤ (w3.setCell ⟨w.heap.size + 1 + 1, 0, none⟩ (.slice A1 (k + 1) cc)).heap.size := Nat.le_trans hz9 (Nat.le_trans hb3.size F3.size)
        clear g1 g2 g3 F3
        go_roundw
        case rel => exact ⟨k + 1, _, by omega, by go_num, HJ', H0, H1, H2, hown3, hN3, hz3⟩
        case measure => simp [intOf]; omega
    · have ek : k = zs.length := by omega
      subst ek
      have HO := Lib.hid (mvOk_miss fun j hj => HJ.out j hj hj)
      have ⟨f1, f2, f3⟩ := C1.at1
      have ⟨g1, g2, g3⟩ := C2.at1
      have F := (Fr.refl (w.heap.size + 1) (w.heap.size + 2) wr).setCell (p := ⟨w.heap.size + 1, 0, none⟩) (by simp) (by simp) (.slice Ar zs.length cr)
      have HW := Lib.hid ((Own.of hown).fr F (.inr (by omega)))
      have NN := hN.fr F (by omega)
      have hs := F.size
      clear F hown
      go_wp2
      refine bodyPost_ret (v := .tuple #[.agg #[.slice Ar zs.length cr], .bool true]) (by simp [results, Try.results50, go_sem, *]) rfl ?_
      have ok := HO.out
      have e : mvR zs dx dy = mvL zs dx dy := by simp [mvR, ok]
      refine ⟨_, by rw [ok], ?_, NN⟩
      rw [e, mvL_len]
      have hw := HW.out
      rw [mvT_all] at hw
      exact hw.wide (by omega) hs (Nat.le_refl _)
end Go.Proofs.Ytnbpcdnncfkgjaa
