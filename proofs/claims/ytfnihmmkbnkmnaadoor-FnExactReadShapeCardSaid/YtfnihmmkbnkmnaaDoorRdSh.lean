/- Contract of the reference's function that reads a shape. -/
import Derived.Test.YtfnihmmkbnkmnaaDoorRdShP
import Derived.Test.YtfnihmmkbnkmnaaDoorShText
import Derived.Test.YtfnihmmkbnkmnaaDoorNest
import Derived.Test.YtfnihmmkbnkmnaaDoorLater
namespace Go.Proofs.YtfnihmmkbnkmnaaDoor
open Go.RowKit Go.Deep
set_option linter.unusedVariables false
set_option linter.unusedSimpArgs false

theorem rs_row {w wr : World} {lo hi g c n : Nat} {R : List (List UInt8)} (h : Own w lo hi 9 1 (.slice (some ⟨g, 0, none⟩) n c) n (strs R)) (hn : New w wr) {k : Nat} (hk : k < R.length) :
    ∃ x : ByteArray, x.data.toList = R[k] ∧ wr.cell? ⟨g, k, none⟩ = some (.string x) ∧ g < wr.heap.size := by
  have hl : n = R.length := by have := h.1.1; simpa [strs] using this.symm
  obtain ⟨x0, xl⟩ := rd_cell h.rd hn rfl (by omega) (show (strs R)[k]? = some (.string ⟨R[k].toArray⟩) by simp [strs, hk])
  rw [Nat.zero_add] at x0
  exact ⟨⟨R[k].toArray⟩, by simp, x0, xl⟩
theorem rsA_row {R : List (List UInt8)} {m k : Nat} (h : k + m + 1 = R.length) : backR R m = R[k]'(by omega) := by
  rw [backR_at (by omega)]
  congr 1
  omega
theorem pt_yes {w : World} {base : Nat} {v : Value} {R : List (List UInt8)} {m j : Nat} {y : Int} (hj : j < (backR R m).length) (hq : (backR R m)[j] = 35) (hy : y = (m : Int))
    (h : w.ownsRow base 55 2 v ((ptsA R m ++ rowA (m : Int) (backR R m) j).length + 1) ((ptsA R m ++ rowA (m : Int) (backR R m) j).flatMap ptCells ++ [.int .i64 (j : Int), .int .i64 y])) :
    w.ownsRow base 55 2 v (ptsA R m ++ rowA (m : Int) (backR R m) (j + 1)).length ((ptsA R m ++ rowA (m : Int) (backR R m) (j + 1)).flatMap ptCells) := by
  subst hy
  rw [rowA_yes hj hq, ← List.append_assoc, List.flatMap_append, List.length_append (bs := [_])]
  exact h
theorem own_nil2 (w : World) (lo hi : Nat) (h : hi ≤ w.heap.size) (e : TypeId) (C : Nat) : Own w lo hi e C (.slice none 0 0) 0 [] :=
  ⟨World.ownsRow_nil _ _ _ _, h, fun g hg => by cases hg⟩
theorem toList_inj {a b : ByteArray} (h : a.toList = b.toList) : a = b := by
  rw [ByteArray.toList_eq, ByteArray.toList_eq] at h
  exact ByteArray.ext (Array.ext' h)
set_option maxRecDepth 20000 in
set_option maxHeartbeats 4000000 in
theorem c_specReadShape (s : ByteArray) (w : World) (hs : s.size ≤ 1048576) :
    Calls Tryd.prog 6 #[.string s] w (GivesRowCode w 55 2 (rsL s).length ((rsL s).flatMap ptCells) (rsC s)) := by
  have HC := Lib.hid (show Calls Tryd.prog 21 #[.string s, .int .u8 47] w (GivesRow w 9 1 (rsR s).length (strs (rsR s))) from c_l01Split s 47 w hs)
  have hnp := rsR_pos s
  have HLE := Lib.hid (fun m h => ptsA_le (s := s) (m := m) h)
  have HPA := Lib.hid (fun m x h hx => ptsA_part (s := s) (m := m) (x := x) h hx)
  have HB1 := Lib.hid (fun y hy h => rs_bad1 (s := s) (y := y) hy h)
  have HB2 := Lib.hid (fun y x hy hx h1 h2 => rs_bad2 (s := s) (y := y) (x := x) hy hx h1 h2)
  have HNO := Lib.hid (fun h => rs_no (s := s) h)
  have HYES := Lib.hid (fun h => rs_yes (s := s) h)
  have hnl : (rsR s).length ≤ 1048577 := by have := rs_sum s; omega
  go_enter Tryd.func6, Tryd.ntmps6
  go_wp2_with fail
  refine HC.out.mono ?_
  rintro e w1 ⟨v, rfl, ho, n1⟩
  obtain ⟨g, c, rfl⟩ := own_form ho.1 hnp
  have HO := Lib.hid ho
  have hgl : g < w1.heap.size := ho.2.2 g rfl
  clear ho HC
  go_wp2
  go_loopw [5, 6] (fun v y wr => ∃ (m : Nat) (i : Int), m ≤ (rsR s).length ∧ y = .int .i64 i ∧ i = ((rsR s).length : Int) - 1 - (m : Int) ∧ wr.ownsRow w1.heap.size 55 2 v (ptsA (rsR s) m).length ((ptsA (rsR s) m).flatMap ptCells) ∧ New w1 wr) (fun v y _ => (intOf y + 1).toNat)
  case atStart => exact ⟨0, _, Nat.zero_le _, rfl, by omega, World.ownsRow_made w1 #[] 0 (Nat.le_refl _) (by omega) rfl, (New.same _).box _⟩
  case round =>
    obtain ⟨m, i, hm, rfl, hi, hown, hN⟩ := hrel
    by_cases hlt : m < (rsR s).length
    · obtain ⟨k, rfl⟩ : ∃ k : Nat, i = (k : Int) := ⟨i.toNat, by omega⟩
      have hk : k + m + 1 = (rsR s).length := by omega
      clear hi
      have HR := Lib.hid (rsA_row hk)
      obtain ⟨x, hx, cx, gl⟩ := rs_row HO.out hN (show k < (rsR s).length by omega)
      obtain ⟨x0, hx0, cx0, _⟩ := rs_row HO.out hN hnp
      have HX := Lib.hid (hx.trans HR.out.symm)
      have HX0 := Lib.hid hx0
      have p0 : (0 : Int) ≤ (k : Int) := by omega
      have p1 : (k : Int) < ((rsR s).length : Int) := by omega
      have p2 : (0 : Int) < ((rsR s).length : Int) := by omega
      clear hx hx0
      have hsx : x.size = (backR (rsR s) m).length := by rw [← HX.out, Array.length_toList]; rfl
      have hsx0 : x0.size = ((rsR s)[0]'hnp).length := by rw [← HX0.out, Array.length_toList]; rfl
      have HSX := Lib.hid hsx
      have HSX0 := Lib.hid hsx0
      have HOW := Lib.hid hown
      clear hsx hsx0 hown
      have hxl : x.size ≤ 1048576 := by
        have h1 := bytA_le (R := rsR s) (m := m + 1) hlt
        have h2 := rs_sum s
        rw [bytA_succ] at h1
        rw [HSX.out]
        omega
      by_cases hq : x.size = x0.size
      · have g0 : ((x.size : Int) != (x0.size : Int)) = false := by rw [hq]; simp
        clear hq
        go_upto_region 6 with fail
        have l0 := Later.cell cx gl
        have l1 := Later.cell cx0 gl
        (refine wp_region_later (by kernel_rfl) (by kernel_rfl) ?_; (repeat (go_big_quiet_step (fail))); refine wpQuiet_nil ?_; intro wq hw'; obtain ⟨⟨wz, nq⟩, hwz⟩ := hw'; have hwz' : wq = wz := hwz; subst hwz'; clear hwz)
        clear l0 l1 cx0 g0 HX0 HSX0
        have HOW2 := Lib.hid (ownsRow_new HOW.out nq)
        have cq := (nq.cell (p := ⟨g, k, none⟩) gl).trans cx
        have glq := Nat.lt_of_lt_of_le gl nq.size
        have hNq := hN.step nq
        clear cx gl hN HOW nq
        go_wp2
        go_loopw [5, 7] (fun v z wr => ∃ j : Nat, j ≤ x.size ∧ z = .int .i64 j ∧ wr.ownsRow w1.heap.size 55 2 v (ptsA (rsR s) m ++ rowA (m : Int) (backR (rsR s) m) j).length ((ptsA (rsR s) m ++ rowA (m : Int) (backR (rsR s) m) j).flatMap ptCells) ∧ Below w1.heap.size wq wr) (fun _ z _ => x.size - (intOf z).toNat)
        case atStart => exact ⟨0, Nat.zero_le _, rfl, by rw [rowA_zero, List.append_nil]; exact HOW2.out, Below.refl _ _⟩
        case round =>
          obtain ⟨j, hj, rfl, hown, hNi⟩ := hrel
          have ci := (hNi.cell (p := ⟨g, k, none⟩) hgl).trans cq
          clear cq
          have glj := Nat.lt_of_lt_of_le glq hNi.size
          have HPJ := Lib.hid (HPA.out m j hlt (by rw [← HSX.out]; exact hj))
          have HOW := Lib.hid hown
          have hzi : w1.heap.size ≤ wr.heap.size := Nat.le_trans hNq.size hNi.size
          clear hown
          by_cases hjlt : j < x.size
          · have hjb : j < (backR (rsR s) m).length := by rw [← HSX.out]; exact hjlt
            have HXJ : Hid ((backR (rsR s) m)[j] = x[j]) := Lib.hid (by
              have h1 := list_at x hjlt
              rw [List.getElem?_eq_some_iff] at h1
              obtain ⟨h1, h2⟩ := h1
              rw [← h2]
              simp only [HX.out])
            by_cases h35 : x[j] = 35
            · have g2 : ((x[j].toNat : Int) == 35) = true := by rw [h35]; rfl
              have g3 : decide ((x[j].toNat : Int) = 35) = true := by rw [h35]; rfl
              have HQ := Lib.hid (HXJ.out.trans h35)
              have hyy : ((rsR s).length : Int) - 1 - (k : Int) = (m : Int) := by omega
              have HYY := Lib.hid hyy
              clear h35 hyy
              go_wp2_with (at_builtin; refine wpList_app1 rfl _ _ rfl row_point _ w1.heap.size HOW.out rfl [.int .i64 (j : Int), .int .i64 (((rsR s).length : Int) - 1 - (k : Int))] rfl rfl (by simp [Value.oneCell']) (by unfold maxLen; have := HPJ.out; omega) (by have := HPJ.out; omega) hzi ?_; intro v1 w6 hown1 hb6 hgr _)
              go_roundw
              case rel => exact ⟨j + 1, by omega, by go_num, pt_yes hjb HQ.out HYY.out hown1, hNi.trans hb6⟩
              case measure => simp [intOf]; omega
            · have HQ := Lib.hid (show (backR (rsR s) m)[j] ≠ 35 by rw [HXJ.out]; exact h35)
              have g2 : ((x[j].toNat : Int) == 35) = false := by
                rw [beq_eq_false_iff_ne]; intro e; exact h35 (UInt8.toNat_inj.1 (by have : (35 : UInt8).toNat = 35 := rfl; omega))
              have g3 : decide ((x[j].toNat : Int) = 35) = false := by rw [decide_eq_false_iff_not]; simpa using g2
              by_cases h46 : x[j] = 46
              · have g4 : ((x[j].toNat : Int) == 46) = true := by rw [h46]; rfl
                have g5 : decide ((x[j].toNat : Int) = 46) = true := by rw [h46]; rfl
                clear h35 h46
                go_wp2
                go_roundw
                case rel => exact ⟨j + 1, by omega, by go_num, by rw [rowA_no hjb HQ.out]; exact HOW.out, hNi⟩
                case measure => simp [intOf]; omega
              · have HQ2 := Lib.hid (show (backR (rsR s) m)[j] ≠ 46 by rw [HXJ.out]; exact h46)
                have g4 : ((x[j].toNat : Int) == 46) = false := by
                  rw [beq_eq_false_iff_ne]; intro e; exact h46 (UInt8.toNat_inj.1 (by have : (46 : UInt8).toNat = 46 := rfl; omega))
                have g5 : decide ((x[j].toNat : Int) = 46) = false := by rw [decide_eq_false_iff_not]; simpa using g4
                clear h35 h46
                go_wp2
                go_ret2
                obtain ⟨e1, e2⟩ := HNO.out (HB2.out m j hlt hjb HQ.out HQ2.out)
                rw [e1, e2]
                exact ⟨_, rfl, own_nil2 _ _ _ (Nat.le_refl _) _ _, n1.step (hNq.trans hNi)⟩
          · have ej : j = x.size := by omega
            subst ej
            have HOE := Lib.hid (show wr.ownsRow w1.heap.size 55 2 _ (ptsA (rsR s) (m + 1)).length ((ptsA (rsR s) (m + 1)).flatMap ptCells) by rw [ptsA_succ, ← HSX.out]; exact HOW.out)
            go_wp2
            go_roundw
            case rel => exact ⟨m + 1, (k : Int) - 1, by omega, rfl, by omega, HOE.out, hNq.trans hNi⟩
            case measure => simp [intOf] <;> omega
      · have g0 : ((x.size : Int) != (x0.size : Int)) = true := by rw [bne_iff_ne]; omega
        have HB := Lib.hid (HNO.out (HB1.out m hlt (by rw [← HSX.out, ← HSX0.out]; exact hq)))
        clear hq
        go_upto_region 6 with fail
        have l0 := Later.cell cx gl
        have l1 := Later.cell cx0 gl
        (refine wp_region_later (by kernel_rfl) (by kernel_rfl) ?_; (repeat (go_big_quiet_step (fail))); refine wpQuiet_nil ?_; intro wq hw'; obtain ⟨⟨wz, nq⟩, hwz⟩ := hw'; have hwz' : wq = wz := hwz; subst hwz'; clear hwz)
        go_wp2
        go_ret2
        obtain ⟨e1, e2⟩ := HB.out
        rw [e1, e2]
        exact ⟨_, rfl, own_nil2 _ _ _ (Nat.le_refl _) _ _, n1.step (hN.step nq)⟩
    · have em : m = (rsR s).length := by omega
      subst em
      have ei : i = -1 := by omega
      subst ei
      have HR := Lib.hid (show Rd wr w1.heap.size wr.heap.size 2 _ (rsZ s).length ((rsZ s).flatMap ptCells) from (Own.of hown).rd)
      have HW := Lib.hid (show Own wr w.heap.size wr.heap.size 55 2 _ (rsZ s).length ((rsZ s).flatMap ptCells) from (Own.of hown).wide n1.size (Nat.le_refl _) (Nat.le_refl _))
      have hN1 := n1.step hN
      clear hown hi hN
      cases hsp : shpB (rsZ s)
      · have HB := Lib.hid (HNO.out (by simp [rsB, hsp]))
        have HS := Lib.hid hsp
        clear hsp
        go_wp2_with fail
        refine (c_l04Ok _ _ _ (rsZ s) _ HR.out).mono ?_
        rintro e w2 ⟨rfl, n2⟩
        rw [HS.out]
        go_wp2
        go_ret2
        obtain ⟨e1, e2⟩ := HB.out
        rw [e1, e2]
        exact ⟨_, rfl, own_nil2 _ _ _ (Nat.le_refl _) _ _, hN1.step n2⟩
      · have HS := Lib.hid hsp
        by_cases hq : shTxt (rsZ s) = s
        · have HB := Lib.hid (HYES.out (by simp [rsB, hsp, hq]))
          have g2 : ((shTxt (rsZ s)).toList == s.toList) = true := by rw [hq]; exact beq_self_eq_true _
          have g3 : ((shTxt (rsZ s)).toList != s.toList) = false := by rw [hq]; exact bne_self_eq_false _
          clear hsp hq
          go_wp2_with fail
          refine (c_l04Ok _ _ _ (rsZ s) _ HR.out).mono ?_
          rintro e w2 ⟨rfl, n2⟩
          rw [HS.out]
          go_wp2_with fail
          refine (c_specShapeText _ _ _ (rsZ s) _ (HR.out.new n2)).mono ?_
          rintro e w3 ⟨rfl, n3⟩
          go_wp2
          go_ret2
          obtain ⟨e1, e2⟩ := HB.out
          rw [e1, e2]
          exact ⟨_, rfl, ((HW.out.new n2).new n3).wide (Nat.le_refl _) (Nat.le_trans n2.size n3.size) (Nat.le_refl _), (hN1.step n2).step n3⟩
        · have HB := Lib.hid (HNO.out (by simp [rsB, hq]))
          have g2 : ((shTxt (rsZ s)).toList == s.toList) = false := by rw [beq_eq_false_iff_ne]; intro e; exact hq (toList_inj e)
          have g3 : ((shTxt (rsZ s)).toList != s.toList) = true := by rw [bne_iff_ne]; intro e; exact hq (toList_inj e)
          clear hsp hq
          go_wp2_with fail
          refine (c_l04Ok _ _ _ (rsZ s) _ HR.out).mono ?_
          rintro e w2 ⟨rfl, n2⟩
          rw [HS.out]
          go_wp2_with fail
          refine (c_specShapeText _ _ _ (rsZ s) _ (HR.out.new n2)).mono ?_
          rintro e w3 ⟨rfl, n3⟩
          go_wp2
          go_ret2
          obtain ⟨e1, e2⟩ := HB.out
          rw [e1, e2]
          exact ⟨_, rfl, own_nil2 _ _ _ (Nat.le_refl _) _ _, (hN1.step n2).step n3⟩
end Go.Proofs.YtfnihmmkbnkmnaaDoor
