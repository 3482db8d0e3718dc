/- Contracts of the library's Split and Reverse at this seat; of the program's function that reads a shape. -/
import Derived.Test.YtfnihmmkbnkmnaaDoorRdSh
import Derived.Test.YtfnihmmkbnkmnaaDoorShText2
import Derived.Test.YtfnihmmkbnkmnaaDoorLayS
import Derived.Lib.OwnBridge
namespace Go.Proofs.YtfnihmmkbnkmnaaDoor
open Go.RowKit Go.Deep
set_option linter.unusedVariables false
set_option linter.unusedSimpArgs false

/-- the library's limit holds some number -/
def MaxS (w : World) : Prop := ∃ m, w.cell? ⟨(Tryd.lays146_ren.g 1), 0, none⟩ = some (.int .i64 m)
theorem maxs_of {W : World} (h : W.ShapedOpen Tryd.prog) : MaxS W := Tryd.laysM146.s1_3 W h
theorem MaxS.new {w w2 : World} (h : MaxS w) (n : New w w2) : MaxS w2 := by
  obtain ⟨m, hm⟩ := h
  refine ⟨m, (n.cell (p := ⟨_, 0, none⟩) ?_).trans hm⟩
  show (Tryd.lays146_ren.g 1) < w.heap.size
  rcases Nat.lt_or_ge (Tryd.lays146_ren.g 1) w.heap.size with h' | h'
  · exact h'
  · exfalso
    simp [World.cell?, Array.getElem?_eq_none h'] at hm
theorem splitB_strs (s : ByteArray) (c : UInt8) : (Lib.splitB ⟨#[c]⟩ 0 (Lib.countB s ⟨#[c]⟩) s).map Value.string = strs (spl c [] s.data.toList) := by
  have h1 := Lib.splitB_data ⟨#[c]⟩ 0 (Lib.countB s ⟨#[c]⟩) s
  have h2 := splitK_spl c _ s.data.toList (Nat.le_refl _)
  have h3 : (Lib.splitB ⟨#[c]⟩ 0 (Lib.countB s ⟨#[c]⟩) s).map (·.data.toList) = spl c [] s.data.toList := h1.trans h2
  unfold strs
  rw [← h3, List.map_map]
  exact List.map_congr_left fun b _ => rfl
theorem c_Split (s : ByteArray) (w : World) (hs : s.size ≤ 1048576) (hM : MaxS w) :
    Calls Tryd.prog 24 #[.string s, .string ⟨#[47]⟩] w fun e w' => ∃ g c, e = .returned (.slice (some ⟨g, 0, none⟩) (rsR s).length c) ∧ Own w' w.heap.size w'.heap.size 9 1 (.slice (some ⟨g, 0, none⟩) (rsR s).length c) (rsR s).length (strs (rsR s)) ∧ New w w' := by
  obtain ⟨m, hm⟩ := hM
  have hl : Lib.countB s ⟨#[47]⟩ + 1 = (rsR s).length := by
    have h1 := congrArg List.length (splitB_strs s 47)
    rw [List.length_map, Lib.splitB_all ⟨#[47]⟩ (by decide) 0 _ s rfl] at h1
    rw [h1]
    simp [strs, rsR]
  refine Calls.mono (P := Tryd.prog) (f := 24) (Any.strings_Split Tryd.lays146 Tryd.laysM146.i9 s ⟨#[47]⟩ m w (by omega) hm (by decide)) ?_
  rintro e w' ⟨rfl, rfl⟩
  rw [splitB_strs, hl]
  have hn : (strs (rsR s)).length = (rsR s).length := by simp [strs]
  have hb := rs_sum s
  refine ⟨_, _, rfl, ⟨⟨by rw [hn]; omega, .inr ⟨w.heap.size, (rsR s).length, (strs (rsR s)).toArray, rfl, Nat.le_refl _, heap_alloc_new w _, Nat.le_refl _, by unfold maxLen; omega, by simp [strs], ?_⟩⟩, Nat.le_refl _, fun g hg => ?_⟩, (New.same w).box _⟩
  · simp only [Nat.mul_one, List.toList_toArray]
    exact List.take_of_length_le (by rw [hn]; exact Nat.le_refl _)
  · simp [Value.ownBlock] at hg
    subst hg
    simp
theorem c_Reverse (lo hi g c : Nat) (R : List (List UInt8)) (w : World) (h : Own w lo hi 9 1 (.slice (some ⟨g, 0, none⟩) R.length c) R.length (strs R)) (hn : R.length ≤ 9223372036854775807) :
    Calls Tryd.prog 25 #[.slice (some ⟨g, 0, none⟩) R.length c] w fun e w' => e = .returned (.tuple #[]) ∧ Own w' lo hi 9 1 (.slice (some ⟨g, 0, none⟩) R.length c) R.length (strs R.reverse) ∧ Below lo w w' := by
  obtain ⟨h1, h2, h3⟩ := h
  have h1' : w.ownsRow lo 9 1 (.slice (some ⟨g, 0, none⟩) R.length c) R.length (R.map encStr) := h1
  obtain ⟨g', cap, e1, hb, hlt, _, _, _, hH⟩ := Lib.holds_of_ownsRow h1' (by simp)
  obtain ⟨rfl, rfl⟩ : g = g' ∧ c = cap := by simpa using e1
  refine Calls.mono (P := Tryd.prog) (f := 25) (Any.slices_Reverse_string Tryd.lays17 g 0 c R w hH hn) ?_
  rintro e w' ⟨rfl, n, rfl⟩
  have ho := Lib.ownsRow_putRow (q := n) (k := R.length) h1' (show R.reverse.length = R.length by simp) (Nat.le_refl _)
  have hz : (Sort.putRow encStr (Sort.ahead w n) g 0 R.reverse.toArray).heap.size = w.heap.size := by simp [Sort.ahead]
  refine ⟨rfl, ⟨?_, by rw [hz]; exact h2, h3⟩, Lib.below_putRow (Below.refl _ _) hb⟩
  have e2 : (R.reverse.take R.length).map encStr = strs R.reverse := by
    rw [List.take_of_length_le (by simp)]
    rfl
  rw [e2] at ho
  exact ho
theorem c_shapeTxt (lo hi : Nat) (v : Value) (zs : List (Int × Int)) (w : World) (h : Rd w lo hi 2 v zs.length (zs.flatMap ptCells)) (hs : shpB zs = true) :
    Calls Tryd.prog 27 #[v] w fun e w' => e = .returned (.string (shTxt zs)) ∧ New w w' := by
  have := c_shapeText lo hi v zs w h hs
  rw [show shTxt zs = ⟨(shT zs).toArray⟩ by simp [shTxt, hs]]
  exact this
set_option maxRecDepth 20000 in
set_option maxHeartbeats 2000000 in
theorem c_implReadShape (s : ByteArray) (w : World) (hs : s.size ≤ 1048576) (hM : MaxS w) :
    Calls Tryd.prog 7 #[.string s] w (GivesRowCode w 55 2 (rsL s).length ((rsL s).flatMap ptCells) (rsC s)) := by
  have hnp := rsR_pos s
  have HPA := Lib.hid (fun m x h hx => ptsA_part (s := s) (m := m) (x := x) h hx)
  have HNO := Lib.hid (fun h => rs_no (s := s) h)
  have HYES := Lib.hid (fun h => rs_yes (s := s) h)
  have hnl : (rsR s).length ≤ 1048577 := by have := rs_sum s; omega
  have HREV := Lib.hid (fun m h => backR_rev (R := rsR s) (y := m) h)
  go_enter Tryd.func7, Tryd.ntmps7
  go_wp2_with fail
  refine (c_Split s _ hs hM).mono ?_
  rintro e w1 ⟨g, c, rfl, ho, n1⟩
  go_wp2_with fail
  refine (c_Reverse _ _ g c _ _ ho (by omega)).mono ?_
  rintro e w2 ⟨rfl, ho2, b2⟩
  have n2 : New w w2 := n1.trans b2
  have HO := Lib.hid ho2
  have hgl : g < w2.heap.size := Nat.lt_of_lt_of_le (ho2.2.2 g rfl) ho2.2.1
  clear ho ho2 b2 n1 hM
  go_wp2
  go_loopw [5, 15] (fun v y wr => ∃ m : Nat, m ≤ (rsR s).length ∧ y = .int .i64 m ∧ wr.ownsRow w2.heap.size 55 2 v (ptsA (rsR s) m).length ((ptsA (rsR s) m).flatMap ptCells) ∧ New w2 wr) (fun v y _ => (rsR s).length - (intOf y).toNat)
  case atStart => exact ⟨0, Nat.zero_le _, rfl, World.ownsRow_nil _ _ _ _, New.same _⟩
  case round =>
    obtain ⟨m, hm, rfl, hown, hN⟩ := hrel
    by_cases hlt : m < (rsR s).length
    · obtain ⟨x, hx, cx, gl⟩ := rs_row HO.out hN (show m < (rsR s).reverse.length by simpa using hlt)
      have HX := Lib.hid (hx.trans (HREV.out m hlt).symm)
      have p0 : (0 : Int) ≤ (m : Int) := by omega
      have p1 : (m : Int) < ((rsR s).length : Int) := by omega
      clear hx
      have HSX := Lib.hid (show x.size = (backR (rsR s) m).length by rw [← HX.out, Array.length_toList]; rfl)
      have HOW := Lib.hid hown
      clear hown
      have hxl : x.size ≤ 1048576 := by
        have h1 := bytA_le (R := rsR s) (m := m + 1) hlt
        have h2 := rs_sum s
        rw [bytA_succ] at h1
        rw [HSX.out]
        omega
      obtain ⟨wq, hwq⟩ : ∃ wq, wq = wr := ⟨wr, rfl⟩
      subst hwq
      go_wp2
      go_loopw [5, 22] (fun v z wr => ∃ j : Nat, j ≤ x.size ∧ z = .int .i64 j ∧ wr.ownsRow w2.heap.size 55 2 v (ptsA (rsR s) m ++ rowA (m : Int) (backR (rsR s) m) j).length ((ptsA (rsR s) m ++ rowA (m : Int) (backR (rsR s) m) j).flatMap ptCells) ∧ New w2 wr) (fun _ z _ => x.size - (intOf z).toNat)
      case atStart => exact ⟨0, Nat.zero_le _, rfl, by rw [rowA_zero, List.append_nil]; exact HOW.out, hN⟩
      case round =>
        clear hN HOW cx gl
        obtain ⟨j, hj, rfl, hown, hN⟩ := hrel
        have HPJ := Lib.hid (HPA.out m j hlt (by rw [← HSX.out]; exact hj))
        have HOW := Lib.hid hown
        have hzi := hN.size
        clear hown
        by_cases hjlt : j < x.size
        · have hjb : j < (backR (rsR s) m).length := by rw [← HSX.out]; exact hjlt
          have HXJ : Hid ((backR (rsR s) m)[j] = x[j]) := Lib.hid (by
            have h1 := list_at x hjlt
            rw [List.getElem?_eq_some_iff] at h1
            obtain ⟨h1, h2⟩ := h1
            rw [← h2]
            simp only [HX.out])
          by_cases h35 : x[j] = 35
          · have g2 : ((x[j].toNat : Int) == 35) = true := by rw [h35]; rfl
            have g3 : decide ((x[j].toNat : Int) = 35) = true := by rw [h35]; rfl
            have HQ := Lib.hid (HXJ.out.trans h35)
            clear h35
            go_wp2_with (at_builtin; refine wpList_app1 rfl _ _ rfl row_point _ w2.heap.size HOW.out rfl [.int .i64 (j : Int), .int .i64 (m : Int)] rfl rfl (by simp [Value.oneCell']) (by unfold maxLen; have := HPJ.out; omega) (by have := HPJ.out; omega) hzi ?_; intro v1 w6 hown1 hb6 hgr _)
            go_roundw
            case rel => exact ⟨j + 1, by omega, by go_num, pt_yes hjb HQ.out rfl hown1, hN.trans hb6⟩
            case measure => simp [intOf]; omega
          · have HQ := Lib.hid (show (backR (rsR s) m)[j] ≠ 35 by rw [HXJ.out]; exact h35)
            have g2 : ((x[j].toNat : Int) == 35) = false := by
              rw [beq_eq_false_iff_ne]; intro e; exact h35 (UInt8.toNat_inj.1 (by have : (35 : UInt8).toNat = 35 := rfl; omega))
            have g3 : decide ((x[j].toNat : Int) = 35) = false := by rw [decide_eq_false_iff_not]; simpa using g2
            clear h35
            go_wp2
            go_roundw
            case rel => exact ⟨j + 1, by omega, by go_num, by rw [rowA_no hjb HQ.out]; exact HOW.out, hN⟩
            case measure => simp [intOf]; omega
        · have ej : j = x.size := by omega
          subst ej
          have HOE := Lib.hid (show wr.ownsRow w2.heap.size 55 2 _ (ptsA (rsR s) (m + 1)).length ((ptsA (rsR s) (m + 1)).flatMap ptCells) by rw [ptsA_succ, ← HSX.out]; exact HOW.out)
          go_wp2
          go_roundw
          case rel => exact ⟨m + 1, by omega, by go_num, HOE.out, hN⟩
          case measure => simp [intOf]; omega
    · have em : m = (rsR s).length := by omega
      subst em
      have HR := Lib.hid (show Rd wr w2.heap.size wr.heap.size 2 _ (rsZ s).length ((rsZ s).flatMap ptCells) from (Own.of hown).rd)
      have HW := Lib.hid (show Own wr w.heap.size wr.heap.size 55 2 _ (rsZ s).length ((rsZ s).flatMap ptCells) from (Own.of hown).wide n2.size (Nat.le_refl _) (Nat.le_refl _))
      have hN1 := n2.step hN
      clear hown hN
      cases hsp : shpB (rsZ s)
      · have HB := Lib.hid (HNO.out (by simp [rsB, hsp]))
        have HS := Lib.hid hsp
        clear hsp
        go_wp2_with fail
        refine (c_implValidShape _ _ _ (rsZ s) _ HR.out).mono ?_
        rintro e w3 ⟨rfl, n3⟩
        rw [HS.out]
        go_wp2
        go_ret2
        obtain ⟨e1, e2⟩ := HB.out
        rw [e1, e2]
        exact ⟨_, rfl, own_nil2 _ _ _ (Nat.le_refl _) _ _, hN1.step n3⟩
      · have HS := Lib.hid hsp
        by_cases hq : shTxt (rsZ s) = s
        · have HB := Lib.hid (HYES.out (by simp [rsB, hsp, hq]))
          have g2 : ((shTxt (rsZ s)).toList == s.toList) = true := by rw [hq]; exact beq_self_eq_true _
          have g3 : ((shTxt (rsZ s)).toList != s.toList) = false := by rw [hq]; exact bne_self_eq_false _
          clear hsp hq
          go_wp2_with fail
          refine (c_implValidShape _ _ _ (rsZ s) _ HR.out).mono ?_
          rintro e w3 ⟨rfl, n3⟩
          rw [HS.out]
          go_wp2_with fail
          refine (c_shapeTxt _ _ _ (rsZ s) _ (HR.out.new n3) HS.out).mono ?_
          rintro e w4 ⟨rfl, n4⟩
          go_wp2
          go_ret2
          obtain ⟨e1, e2⟩ := HB.out
          rw [e1, e2]
          exact ⟨_, rfl, ((HW.out.new n3).new n4).wide (Nat.le_refl _) (Nat.le_trans n3.size n4.size) (Nat.le_refl _), (hN1.step n3).step n4⟩
        · have HB := Lib.hid (HNO.out (by simp [rsB, hq]))
          have g2 : ((shTxt (rsZ s)).toList == s.toList) = false := by rw [beq_eq_false_iff_ne]; intro e; exact hq (toList_inj e)
          have g3 : ((shTxt (rsZ s)).toList != s.toList) = true := by rw [bne_iff_ne]; intro e; exact hq (toList_inj e)
          clear hsp hq
          go_wp2_with fail
          refine (c_implValidShape _ _ _ (rsZ s) _ HR.out).mono ?_
          rintro e w3 ⟨rfl, n3⟩
          rw [HS.out]
          go_wp2_with fail
          refine (c_shapeTxt _ _ _ (rsZ s) _ (HR.out.new n3) HS.out).mono ?_
          rintro e w4 ⟨rfl, n4⟩
          go_wp2
          go_ret2
          obtain ⟨e1, e2⟩ := HB.out
          rw [e1, e2]
          exact ⟨_, rfl, own_nil2 _ _ _ (Nat.le_refl _) _ _, (hN1.step n3).step n4⟩
end Go.Proofs.YtfnihmmkbnkmnaaDoor
