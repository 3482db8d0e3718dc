/- Contracts of the two tests of an assembly's form. -/
import Derived.Test.YtfnihmmkbnkmnaaDoorAsm
import Derived.Test.YtfnihmmkbnkmnaaDoorKeep
import Derived.Test.YtfnihmmkbnkmnaaDoorLater
namespace Go.Proofs.YtfnihmmkbnkmnaaDoor
open Go.RowKit Go.Deep
set_option linter.unusedVariables false
set_option linter.unusedSimpArgs false

/-- what is asked at the place k: a valid point, a tile's number, and behind the one before it -/
def plAt (zs : List ((Int × Int) × Int)) (k : Nat) : Bool := vpB (zs.getD k default).1.1 (zs.getD k default).1.2 && (inB (zs.getD k default).2 0 159 && (decide (k = 0) || ltQ (zs.getD (k - 1) default).1 (zs.getD k default).1))
def frmC (zs : List ((Int × Int) × Int)) : Bool := (List.range zs.length).all (plAt zs)
def frmB (zs : List ((Int × Int) × Int)) : Bool := decide (zs.length ≤ 500) && frmC zs
theorem plAt_zero {zs : List ((Int × Int) × Int)} {k : Nat} (hk : k < zs.length) (e : k = 0) : plAt zs k = (vpB zs[k].1.1 zs[k].1.2 && inB zs[k].2 0 159) := by
  subst e
  simp [plAt, List.getD_eq_getElem?_getD, hk]
theorem plAt_suc {zs : List ((Int × Int) × Int)} {j k : Nat} (hk : k < zs.length) (hj : j < zs.length) (e : k = j + 1) : plAt zs k = (vpB zs[k].1.1 zs[k].1.2 && (inB zs[k].2 0 159 && ltP zs[j].1.1 zs[j].1.2 zs[k].1.1 zs[k].1.2)) := by
  subst e
  simp [plAt, List.getD_eq_getElem?_getD, hk, hj, ltQ]
theorem frm_hit {zs : List ((Int × Int) × Int)} {k : Nat} (hk : k < zs.length) (h : plAt zs k = false) : frmB zs = false := by unfold frmB frmC; rw [all_hit hk h]; simp
theorem frm_miss {zs : List ((Int × Int) × Int)} (h : ∀ k, k < zs.length → plAt zs k = true) : frmB zs = decide ((zs.length : Int) ≤ 500) := by
  unfold frmB frmC; rw [all_miss h]; simp; omega
theorem frm_long {zs : List ((Int × Int) × Int)} (h : 500 < zs.length) : frmB zs = false := by unfold frmB; simp; omega
theorem pl_more {zs : List ((Int × Int) × Int)} {k : Nat} (h : ∀ j, j < k → plAt zs j = true) (hk : plAt zs k = true) : ∀ j, j < k + 1 → plAt zs j = true := by
  intro j hj
  by_cases e : j = k
  · subst e; exact hk
  · exact h j (by omega)

set_option maxRecDepth 20000 in
set_option maxHeartbeats 8000000 in
theorem c_l03Form (b0 lo hi : Nat) (v : Value) (zs : List ((Int × Int) × Int)) (w : World) (B0 : BoxV w b0 [v]) (h : Rd w lo hi 3 v zs.length (zs.flatMap plCells)) :
    Calls Tryd.prog 76 #[.pointer (some ⟨b0, 0, none⟩)] w fun e w' => e = .returned (.bool (frmB zs)) ∧ New w w' := by
  have HR := Lib.hid h
  obtain ⟨_, hm, hh, A, c, rfl, hrd⟩ := h
  have ha : 0 < zs.length → ∃ b off, A = some ⟨b, off, none⟩ := fun h => by obtain ⟨b, off, e, _⟩ := hrd h; exact ⟨b, off, e⟩
  have HA := Lib.hid ha
  clear hrd ha hh
  have ⟨bx0, _, bl0⟩ := B0.at1
  by_cases hl1 : 500 < zs.length
  · have HS := Lib.hid (frm_long hl1)
    go_enter Tryd.func76, Tryd.ntmps76
    go_wp2
    go_ret
    exact ⟨ret_bool HS.out.symm, New.same _⟩
  go_enter Tryd.func76, Tryd.ntmps76
  go_wp2
  clear bx0 bl0
  have HB : Hid (BoxV w b0 [.slice A zs.length c]) := Lib.hid B0
  have N0 : Hid (New w w) := Lib.hid (New.same w)
  clear B0
  go_loopw [3] (fun i wr => ∃ k : Nat, k ≤ zs.length ∧ i = .int .i64 k ∧ Hid (∀ j, j < k → plAt zs j = true) ∧ New w wr) (fun i _ => zs.length - (intOf i).toNat)
  case atStart => exact ⟨0, Nat.zero_le _, rfl, Lib.hid (fun j hj => absurd hj (Nat.not_lt_zero _)), New.same _⟩
  case round =>
    obtain ⟨k, hk, rfl, HJ, hN⟩ := hrel
    by_cases hlt : k < zs.length
    · obtain ⟨b, off, hAe⟩ := HA.out (by omega)
      subst hAe
      have p0 : (0 : Int) ≤ (k : Int) := by omega
      have p1 : (k : Int) < (zs.length : Int) := by omega
      by_cases hk0 : k = 0
      · have HO := Lib.hid (plAt_zero hlt hk0)
        have d0 : decide ((0 : Int) < (k : Int)) = false := by simp; omega
        have d1 : decide (0 < k) = false := by simp; omega
        have d2 : ¬ (0 < k) := by omega
        clear hk0
        obtain ⟨⟨u0, u1, u2⟩, bw0⟩ := rd_pl HR.out (hN) rfl hlt
        have N1 : New wr (wr.alloc (.cells #[.int .i64 zs[k].1.1, .int .i64 zs[k].1.2, .int .i64 zs[k].2] 117)) := (New.same wr).box _
        have B1 : BoxV (wr.alloc (.cells #[.int .i64 zs[k].1.1, .int .i64 zs[k].1.2, .int .i64 zs[k].2] 117)) wr.heap.size [.int .i64 zs[k].1.1, .int .i64 zs[k].1.2, .int .i64 zs[k].2] := .three (by go_simp) (by go_simp) (by go_simp) (by go_simp) (by go_simp) (by go_simp) (by simp)
        have ⟨bx0, _, bl0⟩ := (HB.out.new hN).at1
        go_upto_region 7 with fail
        clear u0 u1 u2 bx0 bl0
        generalize (wr.alloc (.cells #[.int .i64 zs[k].1.1, .int .i64 zs[k].1.2, .int .i64 zs[k].2] 117)) = W1 at *
        have hN1 := hN.step N1
        have hw1 : New w W1 := N0.out.step hN1
        obtain ⟨⟨x0, x1, x2⟩, -, bB⟩ := B1.at3
        have bw : b < W1.heap.size := Nat.lt_of_lt_of_le bw0 N1.size
        have ⟨bx0, _, bl0⟩ := (HB.out.new hN1).at1
        generalize wr.heap.size = B at *
        cases gg : vpB zs[k].1.1 zs[k].1.2
        · have HP := Lib.hid (frm_hit hlt (by rw [HO.out, gg]; rfl))
          have lx0 := Later.cell x0 bB
          have lx1 := Later.cell x1 bB
          have lx2 := Later.cell x2 bB
          have lb0 := Later.cell bx0 bl0
          have C1 := Lib.hid (fun w => gg ▸ c_l01Point zs[k].1.1 zs[k].1.2 w)
          (refine wp_region_later (by kernel_rfl) (by kernel_rfl) ?_; (repeat (go_big_quiet_step ((first | (go_at_call 46; exact later_of (C1.out _)))))); refine wpQuiet_nil ?_; intro wq hw'; obtain ⟨⟨wz, nq⟩, hwz⟩ := hw'; have hwz' : wq = wz := hwz; subst hwz'; clear hwz)
          clear lx0 lx1 lx2 lb0
          go_wp2
          go_ret
          exact ⟨ret_bool HP.out.symm, hw1.step nq⟩
        · cases tt : inB zs[k].2 0 159
          · have HP := Lib.hid (frm_hit hlt (by rw [HO.out, gg, tt]; rfl))
            have lx0 := Later.cell x0 bB
            have lx1 := Later.cell x1 bB
            have lx2 := Later.cell x2 bB
            have lb0 := Later.cell bx0 bl0
            have C1 := Lib.hid (fun w => gg ▸ c_l01Point zs[k].1.1 zs[k].1.2 w)
            have C2 := Lib.hid (fun w => tt ▸ c_l00In zs[k].2 0 159 w)
            (refine wp_region_later (by kernel_rfl) (by kernel_rfl) ?_; (repeat (go_big_quiet_step ((first | (go_at_call 46; exact later_of (C1.out _)) | (go_at_call 62; exact later_same (C2.out _)))))); refine wpQuiet_nil ?_; intro wq hw'; obtain ⟨⟨wz, nq⟩, hwz⟩ := hw'; have hwz' : wq = wz := hwz; subst hwz'; clear hwz)
            clear lx0 lx1 lx2 lb0
            go_wp2
            go_ret
            exact ⟨ret_bool HP.out.symm, hw1.step nq⟩
          · have HP := Lib.hid (pl_more HJ.out (by rw [HO.out, gg, tt]; rfl))
            have lx0 := Later.cell x0 bB
            have lx1 := Later.cell x1 bB
            have lx2 := Later.cell x2 bB
            have lb0 := Later.cell bx0 bl0
            have C1 := Lib.hid (fun w => gg ▸ c_l01Point zs[k].1.1 zs[k].1.2 w)
            have C2 := Lib.hid (fun w => tt ▸ c_l00In zs[k].2 0 159 w)
            (refine wp_region_later (by kernel_rfl) (by kernel_rfl) ?_; (repeat (go_big_quiet_step ((first | (go_at_call 46; exact later_of (C1.out _)) | (go_at_call 62; exact later_same (C2.out _)))))); refine wpQuiet_nil ?_; intro wq hw'; obtain ⟨⟨wz, nq⟩, hwz⟩ := hw'; have hwz' : wq = wz := hwz; subst hwz'; clear hwz)
            clear lx0 lx1 lx2 lb0
            go_wp2
            go_roundw
            case rel => exact ⟨k + 1, by omega, by go_num, HP, hN1.step nq⟩
            case measure => simp [intOf]; omega
      · obtain ⟨j, hj⟩ : ∃ j, k = j + 1 := ⟨k - 1, by omega⟩
        have hjl : j < zs.length := by omega
        have HO := Lib.hid (plAt_suc hlt hjl hj)
        have E1 : Hid (IntKind.i64.wrap ((k : Int) - 1) = (j : Int)) := Lib.hid (by rw [IntWalk.i64_in _ (by omega)]; omega)
        have d2 : 0 < k := by omega
        have d1 : decide (0 < k) = true := by simp; omega
        have q0 : (0 : Int) ≤ (j : Int) := by omega
        have q1 : (j : Int) < (zs.length : Int) := by omega
        clear hj
        obtain ⟨⟨u0, u1, u2⟩, bw0⟩ := rd_pl HR.out (hN) rfl hlt
        have N1 : New wr (wr.alloc (.cells #[.int .i64 zs[k].1.1, .int .i64 zs[k].1.2, .int .i64 zs[k].2] 117)) := (New.same wr).box _
        have B1 : BoxV (wr.alloc (.cells #[.int .i64 zs[k].1.1, .int .i64 zs[k].1.2, .int .i64 zs[k].2] 117)) wr.heap.size [.int .i64 zs[k].1.1, .int .i64 zs[k].1.2, .int .i64 zs[k].2] := .three (by go_simp) (by go_simp) (by go_simp) (by go_simp) (by go_simp) (by go_simp) (by simp)
        have ⟨bx0, _, bl0⟩ := (HB.out.new hN).at1
        go_upto_region 7 with fail
        clear u0 u1 u2 bx0 bl0
        generalize (wr.alloc (.cells #[.int .i64 zs[k].1.1, .int .i64 zs[k].1.2, .int .i64 zs[k].2] 117)) = W1 at *
        have hN1 := hN.step N1
        have hw1 : New w W1 := N0.out.step hN1
        obtain ⟨⟨x0, x1, x2⟩, -, bB⟩ := B1.at3
        have bw : b < W1.heap.size := Nat.lt_of_lt_of_le bw0 N1.size
        obtain ⟨⟨y0, y1, _⟩, _⟩ := rd_pl HR.out hw1 rfl hjl
        have ⟨bx0, _, bl0⟩ := (HB.out.new hN1).at1
        generalize wr.heap.size = B at *
        cases gg : vpB zs[k].1.1 zs[k].1.2
        · have HP := Lib.hid (frm_hit hlt (by rw [HO.out, gg]; rfl))
          have e1 := E1.out
          have lx0 := Later.cell x0 bB
          have lx1 := Later.cell x1 bB
          have lx2 := Later.cell x2 bB
          have lb0 := Later.cell bx0 bl0
          have ly0 := Later.cell y0 bw
          have ly1 := Later.cell y1 bw
          have C1 := Lib.hid (fun w => gg ▸ c_l01Point zs[k].1.1 zs[k].1.2 w)
          (refine wp_region_later (by kernel_rfl) (by kernel_rfl) ?_; (repeat (go_big_quiet_step ((first | (go_at_call 46; exact later_of (C1.out _)))))); refine wpQuiet_nil ?_; intro wq hw'; obtain ⟨⟨wz, nq⟩, hwz⟩ := hw'; have hwz' : wq = wz := hwz; subst hwz'; clear hwz)
          clear lx0 lx1 lx2 lb0 ly0 ly1 e1
          go_wp2
          go_ret
          exact ⟨ret_bool HP.out.symm, hw1.step nq⟩
        · cases tt : inB zs[k].2 0 159
          · have HP := Lib.hid (frm_hit hlt (by rw [HO.out, gg, tt]; rfl))
            have e1 := E1.out
            have lx0 := Later.cell x0 bB
            have lx1 := Later.cell x1 bB
            have lx2 := Later.cell x2 bB
            have lb0 := Later.cell bx0 bl0
            have ly0 := Later.cell y0 bw
            have ly1 := Later.cell y1 bw
            have C1 := Lib.hid (fun w => gg ▸ c_l01Point zs[k].1.1 zs[k].1.2 w)
            have C2 := Lib.hid (fun w => tt ▸ c_l00In zs[k].2 0 159 w)
            (refine wp_region_later (by kernel_rfl) (by kernel_rfl) ?_; (repeat (go_big_quiet_step ((first | (go_at_call 46; exact later_of (C1.out _)) | (go_at_call 62; exact later_same (C2.out _)))))); refine wpQuiet_nil ?_; intro wq hw'; obtain ⟨⟨wz, nq⟩, hwz⟩ := hw'; have hwz' : wq = wz := hwz; subst hwz'; clear hwz)
            clear lx0 lx1 lx2 lb0 ly0 ly1 e1
            go_wp2
            go_ret
            exact ⟨ret_bool HP.out.symm, hw1.step nq⟩
          · cases hh : ltP zs[j].1.1 zs[j].1.2 zs[k].1.1 zs[k].1.2
            · have HP := Lib.hid (frm_hit hlt (by rw [HO.out, gg, tt, hh]; rfl))
              have e1 := E1.out
              have lx0 := Later.cell x0 bB
              have lx1 := Later.cell x1 bB
              have lx2 := Later.cell x2 bB
              have lb0 := Later.cell bx0 bl0
              have ly0 := Later.cell y0 bw
              have ly1 := Later.cell y1 bw
              have C1 := Lib.hid (fun w => gg ▸ c_l01Point zs[k].1.1 zs[k].1.2 w)
              have C2 := Lib.hid (fun w => tt ▸ c_l00In zs[k].2 0 159 w)
              have C3 := Lib.hid (fun w => hh ▸ c_specLess zs[j].1.1 zs[j].1.2 zs[k].1.1 zs[k].1.2 w)
              (refine wp_region_later (by kernel_rfl) (by kernel_rfl) ?_; (repeat (go_big_quiet_step ((first | (go_at_call 46; exact later_of (C1.out _)) | (go_at_call 62; exact later_same (C2.out _)) | (go_at_call 47; exact later_of (C3.out _)))))); refine wpQuiet_nil ?_; intro wq hw'; obtain ⟨⟨wz, nq⟩, hwz⟩ := hw'; have hwz' : wq = wz := hwz; subst hwz'; clear hwz)
              clear lx0 lx1 lx2 lb0 ly0 ly1 e1
              go_wp2
              go_ret
              exact ⟨ret_bool HP.out.symm, hw1.step nq⟩
            · have HP := Lib.hid (pl_more HJ.out (by rw [HO.out, gg, tt, hh]; rfl))
              have e1 := E1.out
              have lx0 := Later.cell x0 bB
              have lx1 := Later.cell x1 bB
              have lx2 := Later.cell x2 bB
              have lb0 := Later.cell bx0 bl0
              have ly0 := Later.cell y0 bw
              have ly1 := Later.cell y1 bw
              have C1 := Lib.hid (fun w => gg ▸ c_l01Point zs[k].1.1 zs[k].1.2 w)
              have C2 := Lib.hid (fun w => tt ▸ c_l00In zs[k].2 0 159 w)
              have C3 := Lib.hid (fun w => hh ▸ c_specLess zs[j].1.1 zs[j].1.2 zs[k].1.1 zs[k].1.2 w)
              (refine wp_region_later (by kernel_rfl) (by kernel_rfl) ?_; (repeat (go_big_quiet_step ((first | (go_at_call 46; exact later_of (C1.out _)) | (go_at_call 62; exact later_same (C2.out _)) | (go_at_call 47; exact later_of (C3.out _)))))); refine wpQuiet_nil ?_; intro wq hw'; obtain ⟨⟨wz, nq⟩, hwz⟩ := hw'; have hwz' : wq = wz := hwz; subst hwz'; clear hwz)
              clear lx0 lx1 lx2 lb0 ly0 ly1 e1
              go_wp2
              go_roundw
              case rel => exact ⟨k + 1, by omega, by go_num, HP, hN1.step nq⟩
              case measure => simp [intOf]; omega
    · have hk' : k = zs.length := by omega
      subst hk'
      have HP := Lib.hid (frm_miss HJ.out)
      have ⟨bx0, _, bl0⟩ := (HB.out.new hN).at1
      have HQ : Hid (frmB zs = true) := Lib.hid (by rw [HP.out]; simp; omega)
      go_wp2
      go_ret
      exact ⟨ret_bool HQ.out.symm, hN⟩

set_option maxRecDepth 20000 in
set_option maxHeartbeats 8000000 in
theorem c_hasForm (lo hi : Nat) (v : Value) (zs : List ((Int × Int) × Int)) (w : World) (h : Rd w lo hi 3 v zs.length (zs.flatMap plCells)) :
    Calls Tryd.prog 80 #[.agg #[v]] w fun e w' => e = .returned (.bool (frmB zs)) ∧ New w w' := by
  have HR := Lib.hid h
  obtain ⟨_, hm, hh, A, c, rfl, hrd⟩ := h
  have ha : 0 < zs.length → ∃ b off, A = some ⟨b, off, none⟩ := fun h => by obtain ⟨b, off, e, _⟩ := hrd h; exact ⟨b, off, e⟩
  have HA := Lib.hid ha
  clear hrd ha hh
  have N0 := Lib.hid (show New w (w.alloc (.cells #[.slice A zs.length c] 48)) from (New.same w).box _)
  have HB : Hid (BoxV (w.alloc (.cells #[.slice A zs.length c] 48)) w.heap.size [.slice A zs.length c]) := Lib.hid (.one (by go_simp) (by go_simp) (by simp <;> omega))
  go_enter Tryd.func80, Tryd.ntmps80
  go_wp2
  generalize (w.alloc (.cells #[.slice A zs.length c] 48)) = W0 at *
  generalize w.heap.size = b0 at *
  go_loopw [8] (fun i wr => ∃ k : Nat, k ≤ zs.length ∧ i = .int .i64 k ∧ Hid (∀ j, j < k → plAt zs j = true) ∧ New W0 wr) (fun i _ => zs.length - (intOf i).toNat)
  case atStart => exact ⟨0, Nat.zero_le _, rfl, Lib.hid (fun j hj => absurd hj (Nat.not_lt_zero _)), New.same _⟩
  case round =>
    obtain ⟨k, hk, rfl, HJ, hN⟩ := hrel
    by_cases hlt : k < zs.length
    · obtain ⟨b, off, hAe⟩ := HA.out (by omega)
      subst hAe
      have p0 : (0 : Int) ≤ (k : Int) := by omega
      have p1 : (k : Int) < (zs.length : Int) := by omega
      by_cases hk0 : k = 0
      · have HO := Lib.hid (plAt_zero hlt hk0)
        have d0 : decide ((0 : Int) < (k : Int)) = false := by simp; omega
        have d1 : decide (0 < k) = false := by simp; omega
        have d2 : ¬ (0 < k) := by omega
        clear hk0
        obtain ⟨⟨u0, u1, u2⟩, bw0⟩ := rd_pl HR.out (N0.out.step hN) rfl hlt
        have N1 : New wr (wr.alloc (.cells #[.int .i64 zs[k].1.1, .int .i64 zs[k].1.2, .int .i64 zs[k].2] 117)) := (New.same wr).box _
        have B1 : BoxV (wr.alloc (.cells #[.int .i64 zs[k].1.1, .int .i64 zs[k].1.2, .int .i64 zs[k].2] 117)) wr.heap.size [.int .i64 zs[k].1.1, .int .i64 zs[k].1.2, .int .i64 zs[k].2] := .three (by go_simp) (by go_simp) (by go_simp) (by go_simp) (by go_simp) (by go_simp) (by simp)
        have ⟨bx0, _, bl0⟩ := (HB.out.new hN).at1
        go_upto_region 4 with fail
        clear u0 u1 u2 bx0 bl0
        generalize (wr.alloc (.cells #[.int .i64 zs[k].1.1, .int .i64 zs[k].1.2, .int .i64 zs[k].2] 117)) = W1 at *
        have hN1 := hN.step N1
        have hw1 : New w W1 := N0.out.step hN1
        obtain ⟨⟨x0, x1, x2⟩, -, bB⟩ := B1.at3
        have bw : b < W1.heap.size := Nat.lt_of_lt_of_le bw0 N1.size
        have ⟨bx0, _, bl0⟩ := (HB.out.new hN1).at1
        generalize wr.heap.size = B at *
        cases gg : vpB zs[k].1.1 zs[k].1.2
        · have HP := Lib.hid (frm_hit hlt (by rw [HO.out, gg]; rfl))
          have lx0 := Later.cell x0 bB
          have lx1 := Later.cell x1 bB
          have lx2 := Later.cell x2 bB
          have lb0 := Later.cell bx0 bl0
          have C1 := Lib.hid (fun w => gg ▸ c_implValidPoint zs[k].1.1 zs[k].1.2 w)
          (refine wp_region_later (by kernel_rfl) (by kernel_rfl) ?_; (repeat (go_big_quiet_step ((first | (go_at_call 51; exact later_of (C1.out _)))))); refine wpQuiet_nil ?_; intro wq hw'; obtain ⟨⟨wz, nq⟩, hwz⟩ := hw'; have hwz' : wq = wz := hwz; subst hwz'; clear hwz)
          clear lx0 lx1 lx2 lb0
          go_wp2
          go_ret
          exact ⟨ret_bool HP.out.symm, hw1.step nq⟩
        · cases tt : inB zs[k].2 0 159
          · have HP := Lib.hid (frm_hit hlt (by rw [HO.out, gg, tt]; rfl))
            have lx0 := Later.cell x0 bB
            have lx1 := Later.cell x1 bB
            have lx2 := Later.cell x2 bB
            have lb0 := Later.cell bx0 bl0
            have C1 := Lib.hid (fun w => gg ▸ c_implValidPoint zs[k].1.1 zs[k].1.2 w)
            have C2 := Lib.hid (fun w => tt ▸ c_isIndex zs[k].2 160 w (by omega) (by omega))
            (refine wp_region_later (by kernel_rfl) (by kernel_rfl) ?_; (repeat (go_big_quiet_step ((first | (go_at_call 51; exact later_of (C1.out _)) | (go_at_call 103; exact later_same (C2.out _)))))); refine wpQuiet_nil ?_; intro wq hw'; obtain ⟨⟨wz, nq⟩, hwz⟩ := hw'; have hwz' : wq = wz := hwz; subst hwz'; clear hwz)
            clear lx0 lx1 lx2 lb0
            go_wp2
            go_ret
            exact ⟨ret_bool HP.out.symm, hw1.step nq⟩
          · have HP := Lib.hid (pl_more HJ.out (by rw [HO.out, gg, tt]; rfl))
            have lx0 := Later.cell x0 bB
            have lx1 := Later.cell x1 bB
            have lx2 := Later.cell x2 bB
            have lb0 := Later.cell bx0 bl0
            have C1 := Lib.hid (fun w => gg ▸ c_implValidPoint zs[k].1.1 zs[k].1.2 w)
            have C2 := Lib.hid (fun w => tt ▸ c_isIndex zs[k].2 160 w (by omega) (by omega))
            (refine wp_region_later (by kernel_rfl) (by kernel_rfl) ?_; (repeat (go_big_quiet_step ((first | (go_at_call 51; exact later_of (C1.out _)) | (go_at_call 103; exact later_same (C2.out _)))))); refine wpQuiet_nil ?_; intro wq hw'; obtain ⟨⟨wz, nq⟩, hwz⟩ := hw'; have hwz' : wq = wz := hwz; subst hwz'; clear hwz)
            clear lx0 lx1 lx2 lb0
            go_wp2
            go_roundw
            case rel => exact ⟨k + 1, by omega, by go_num, HP, hN1.step nq⟩
            case measure => simp [intOf]; omega
      · obtain ⟨j, hj⟩ : ∃ j, k = j + 1 := ⟨k - 1, by omega⟩
        have hjl : j < zs.length := by omega
        have HO := Lib.hid (plAt_suc hlt hjl hj)
        have E1 : Hid (IntKind.i64.wrap ((k : Int) - 1) = (j : Int)) := Lib.hid (by rw [IntWalk.i64_in _ (by omega)]; omega)
        have d2 : 0 < k := by omega
        have d1 : decide (0 < k) = true := by simp; omega
        have q0 : (0 : Int) ≤ (j : Int) := by omega
        have q1 : (j : Int) < (zs.length : Int) := by omega
        clear hj
        obtain ⟨⟨u0, u1, u2⟩, bw0⟩ := rd_pl HR.out (N0.out.step hN) rfl hlt
        have N1 : New wr (wr.alloc (.cells #[.int .i64 zs[k].1.1, .int .i64 zs[k].1.2, .int .i64 zs[k].2] 117)) := (New.same wr).box _
        have B1 : BoxV (wr.alloc (.cells #[.int .i64 zs[k].1.1, .int .i64 zs[k].1.2, .int .i64 zs[k].2] 117)) wr.heap.size [.int .i64 zs[k].1.1, .int .i64 zs[k].1.2, .int .i64 zs[k].2] := .three (by go_simp) (by go_simp) (by go_simp) (by go_simp) (by go_simp) (by go_simp) (by simp)
        have ⟨bx0, _, bl0⟩ := (HB.out.new hN).at1
        go_upto_region 4 with fail
        clear u0 u1 u2 bx0 bl0
        generalize (wr.alloc (.cells #[.int .i64 zs[k].1.1, .int .i64 zs[k].1.2, .int .i64 zs[k].2] 117)) = W1 at *
        have hN1 := hN.step N1
        have hw1 : New w W1 := N0.out.step hN1
        obtain ⟨⟨x0, x1, x2⟩, -, bB⟩ := B1.at3
        have bw : b < W1.heap.size := Nat.lt_of_lt_of_le bw0 N1.size
        obtain ⟨⟨y0, y1, _⟩, _⟩ := rd_pl HR.out hw1 rfl hjl
        have ⟨bx0, _, bl0⟩ := (HB.out.new hN1).at1
        generalize wr.heap.size = B at *
        cases gg : vpB zs[k].1.1 zs[k].1.2
        · have HP := Lib.hid (frm_hit hlt (by rw [HO.out, gg]; rfl))
          have e1 := E1.out
          have lx0 := Later.cell x0 bB
          have lx1 := Later.cell x1 bB
          have lx2 := Later.cell x2 bB
          have lb0 := Later.cell bx0 bl0
          have ly0 := Later.cell y0 bw
          have ly1 := Later.cell y1 bw
          have C1 := Lib.hid (fun w => gg ▸ c_implValidPoint zs[k].1.1 zs[k].1.2 w)
          (refine wp_region_later (by kernel_rfl) (by kernel_rfl) ?_; (repeat (go_big_quiet_step ((first | (go_at_call 51; exact later_of (C1.out _)))))); refine wpQuiet_nil ?_; intro wq hw'; obtain ⟨⟨wz, nq⟩, hwz⟩ := hw'; have hwz' : wq = wz := hwz; subst hwz'; clear hwz)
          clear lx0 lx1 lx2 lb0 ly0 ly1 e1
          go_wp2
          go_ret
          exact ⟨ret_bool HP.out.symm, hw1.step nq⟩
        · cases tt : inB zs[k].2 0 159
          · have HP := Lib.hid (frm_hit hlt (by rw [HO.out, gg, tt]; rfl))
            have e1 := E1.out
            have lx0 := Later.cell x0 bB
            have lx1 := Later.cell x1 bB
            have lx2 := Later.cell x2 bB
            have lb0 := Later.cell bx0 bl0
            have ly0 := Later.cell y0 bw
            have ly1 := Later.cell y1 bw
            have C1 := Lib.hid (fun w => gg ▸ c_implValidPoint zs[k].1.1 zs[k].1.2 w)
            have C2 := Lib.hid (fun w => tt ▸ c_isIndex zs[k].2 160 w (by omega) (by omega))
            (refine wp_region_later (by kernel_rfl) (by kernel_rfl) ?_; (repeat (go_big_quiet_step ((first | (go_at_call 51; exact later_of (C1.out _)) | (go_at_call 103; exact later_same (C2.out _)))))); refine wpQuiet_nil ?_; intro wq hw'; obtain ⟨⟨wz, nq⟩, hwz⟩ := hw'; have hwz' : wq = wz := hwz; subst hwz'; clear hwz)
            clear lx0 lx1 lx2 lb0 ly0 ly1 e1
            go_wp2
            go_ret
            exact ⟨ret_bool HP.out.symm, hw1.step nq⟩
          · cases hh : ltP zs[j].1.1 zs[j].1.2 zs[k].1.1 zs[k].1.2
            · have HP := Lib.hid (frm_hit hlt (by rw [HO.out, gg, tt, hh]; rfl))
              have e1 := E1.out
              have lx0 := Later.cell x0 bB
              have lx1 := Later.cell x1 bB
              have lx2 := Later.cell x2 bB
              have lb0 := Later.cell bx0 bl0
              have ly0 := Later.cell y0 bw
              have ly1 := Later.cell y1 bw
              have C1 := Lib.hid (fun w => gg ▸ c_implValidPoint zs[k].1.1 zs[k].1.2 w)
              have C2 := Lib.hid (fun w => tt ▸ c_isIndex zs[k].2 160 w (by omega) (by omega))
              have C3 := Lib.hid (fun w => hh ▸ c_implLess zs[j].1.1 zs[j].1.2 zs[k].1.1 zs[k].1.2 w)
              (refine wp_region_later (by kernel_rfl) (by kernel_rfl) ?_; (repeat (go_big_quiet_step ((first | (go_at_call 51; exact later_of (C1.out _)) | (go_at_call 103; exact later_same (C2.out _)) | (go_at_call 52; exact later_of (C3.out _)))))); refine wpQuiet_nil ?_; intro wq hw'; obtain ⟨⟨wz, nq⟩, hwz⟩ := hw'; have hwz' : wq = wz := hwz; subst hwz'; clear hwz)
              clear lx0 lx1 lx2 lb0 ly0 ly1 e1
              go_wp2
              go_ret
              exact ⟨ret_bool HP.out.symm, hw1.step nq⟩
            · have HP := Lib.hid (pl_more HJ.out (by rw [HO.out, gg, tt, hh]; rfl))
              have e1 := E1.out
              have lx0 := Later.cell x0 bB
              have lx1 := Later.cell x1 bB
              have lx2 := Later.cell x2 bB
              have lb0 := Later.cell bx0 bl0
              have ly0 := Later.cell y0 bw
              have ly1 := Later.cell y1 bw
              have C1 := Lib.hid (fun w => gg ▸ c_implValidPoint zs[k].1.1 zs[k].1.2 w)
              have C2 := Lib.hid (fun w => tt ▸ c_isIndex zs[k].2 160 w (by omega) (by omega))
              have C3 := Lib.hid (fun w => hh ▸ c_implLess zs[j].1.1 zs[j].1.2 zs[k].1.1 zs[k].1.2 w)
              (refine wp_region_later (by kernel_rfl) (by kernel_rfl) ?_; (repeat (go_big_quiet_step ((first | (go_at_call 51; exact later_of (C1.out _)) | (go_at_call 103; exact later_same (C2.out _)) | (go_at_call 52; exact later_of (C3.out _)))))); refine wpQuiet_nil ?_; intro wq hw'; obtain ⟨⟨wz, nq⟩, hwz⟩ := hw'; have hwz' : wq = wz := hwz; subst hwz'; clear hwz)
              clear lx0 lx1 lx2 lb0 ly0 ly1 e1
              go_wp2
              go_roundw
              case rel => exact ⟨k + 1, by omega, by go_num, HP, hN1.step nq⟩
              case measure => simp [intOf]; omega
    · have hk' : k = zs.length := by omega
      subst hk'
      have HP := Lib.hid (frm_miss HJ.out)
      have ⟨bx0, _, bl0⟩ := (HB.out.new hN).at1
      go_wp2
      go_ret
      exact ⟨ret_bool (by rw [HP.out]), N0.out.step hN⟩

end Go.Proofs.YtfnihmmkbnkmnaaDoor
