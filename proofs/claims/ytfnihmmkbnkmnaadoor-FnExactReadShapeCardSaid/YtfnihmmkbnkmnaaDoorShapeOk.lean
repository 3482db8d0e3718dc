/- Contracts of the two tests of a shape. -/
import Derived.Test.YtfnihmmkbnkmnaaDoorKeep
import Derived.Test.YtfnihmmkbnkmnaaDoorLater
import Derived.Deep.DeepCutAuto
namespace Go.Proofs.YtfnihmmkbnkmnaaDoor
open Go.RowKit
set_option linter.unusedVariables false
set_option linter.unusedSimpArgs false

theorem shp_chn {zs : List (Int × Int)} (h0 : 1 ≤ zs.length) (h1 : zs.length ≤ 500) : shpB zs = chnB zs := by
  unfold shpB; rw [inB_yes (by omega) (by omega)]; simp
theorem shp_no {zs : List (Int × Int)} (h : zs.length < 1 ∨ 500 < zs.length) : shpB zs = false := by
  unfold shpB; rw [inB_no (by omega)]; simp
theorem chn_hit {zs : List (Int × Int)} {k : Nat} (hk : k < zs.length) (h : okAt zs k = false) : chnB zs = false := all_hit hk h
theorem chn_miss {zs : List (Int × Int)} (h : ∀ k, k < zs.length → okAt zs k = true) : chnB zs = true := all_miss h
theorem ok_more {zs : List (Int × Int)} {k : Nat} (h : ∀ j, j < k → okAt zs j = true) (hk : okAt zs k = true) : ∀ j, j < k + 1 → okAt zs j = true := by
  intro j hj
  by_cases e : j = k
  · subst e; exact hk
  · exact h j (by omega)

set_option maxHeartbeats 4000000 in
theorem c_l04Ok (lo hi : Nat) (v : Value) (zs : List (Int × Int)) (w : World) (h : Rd w lo hi 2 v zs.length (zs.flatMap ptCells)) :
    Calls Tryd.prog 22 #[v] w fun e w' => e = .returned (.bool (shpB zs)) ∧ New w w' := by
  have HR := Lib.hid h
  obtain ⟨_, hm, hh, A, c, rfl, hrd⟩ := h
  have ha : 0 < zs.length → ∃ b off, A = some ⟨b, off, none⟩ := fun h => by obtain ⟨b, off, e, _⟩ := hrd h; exact ⟨b, off, e⟩
  have HA := Lib.hid ha
  clear hrd ha hh
  by_cases hl0 : zs.length < 1
  · have HS := Lib.hid (shp_no (.inl hl0))
    go_enter Tryd.func22, Tryd.ntmps22
    go_wp2
    go_ret
    exact ⟨ret_bool HS.out.symm, New.same _⟩
  by_cases hl1 : 500 < zs.length
  · have HS := Lib.hid (shp_no (.inr hl1))
    go_enter Tryd.func22, Tryd.ntmps22
    go_wp2
    go_ret
    exact ⟨ret_bool HS.out.symm, New.same _⟩
  have HS := Lib.hid (shp_chn (zs := zs) (by omega) (by omega))
  go_enter Tryd.func22, Tryd.ntmps22
  go_wp2
  go_loopw [3] (fun i wr => ∃ k : Nat, k ≤ zs.length ∧ i = .int .i64 k ∧ Hid (∀ j, j < k → okAt zs j = true) ∧ New w wr) (fun i _ => zs.length - (intOf i).toNat)
  case atStart => exact ⟨0, Nat.zero_le _, rfl, Lib.hid (fun j hj => absurd hj (Nat.not_lt_zero _)), New.same _⟩
  case round =>
    obtain ⟨k, hk, rfl, HJ, hN⟩ := hrel
    by_cases hlt : k < zs.length
    · obtain ⟨b, off, hAe⟩ := HA.out (by omega)
      subst hAe
      have p0 : (0 : Int) ≤ (k : Int) := by omega
      have p1 : (k : Int) < (zs.length : Int) := by omega
      by_cases hk0 : k = 0
      · have HO := Lib.hid (okAt_zero hlt hk0)
        have d0 : decide ((0 : Int) < (k : Int)) = false := by simp; omega
        have d1 : decide (0 < k) = false := by simp; omega
        have d2 : ¬ (0 < k) := by omega
        clear hk0
        obtain ⟨x0, x1, bw⟩ := rd_pt HR.out hN rfl hlt
        cases gg : vpB zs[k].1 zs[k].2
        · have HP := Lib.hid (chn_hit hlt (by rw [HO.out, gg]))
          go_upto_region 6 with fail
          have lx0 := Later.cell x0 bw
          have lx1 := Later.cell x1 bw
          have C1 := Lib.hid (fun w => gg ▸ c_l01Point zs[k].1 zs[k].2 w)
          (refine wp_region_later (by kernel_rfl) (by kernel_rfl) ?_; (repeat (go_big_quiet_step ((first | (go_at_call 46; exact later_of (C1.out _)))))); refine wpQuiet_nil ?_; intro wq hw'; obtain ⟨⟨wz, nq⟩, hwz⟩ := hw'; have hwz' : wq = wz := hwz; subst hwz'; clear hwz)
          clear lx0 lx1
          go_wp2
          go_ret
          exact ⟨ret_bool (HS.out.trans HP.out).symm, hN.step nq⟩
        · have HP := Lib.hid (ok_more HJ.out (by rw [HO.out, gg]))
          go_upto_region 6 with fail
          have lx0 := Later.cell x0 bw
          have lx1 := Later.cell x1 bw
          have C1 := Lib.hid (fun w => gg ▸ c_l01Point zs[k].1 zs[k].2 w)
          (refine wp_region_later (by kernel_rfl) (by kernel_rfl) ?_; (repeat (go_big_quiet_step ((first | (go_at_call 46; exact later_of (C1.out _)))))); refine wpQuiet_nil ?_; intro wq hw'; obtain ⟨⟨wz, nq⟩, hwz⟩ := hw'; have hwz' : wq = wz := hwz; subst hwz'; clear hwz)
          clear lx0 lx1
          go_wp2
          go_roundw
          case rel => exact ⟨k + 1, by omega, by go_num, HP, hN.step nq⟩
          case measure => simp [intOf]; omega
      · obtain ⟨j, hj⟩ : ∃ j, k = j + 1 := ⟨k - 1, by omega⟩
        have hjl : j < zs.length := by omega
        have HO := Lib.hid (okAt_suc hlt hjl hj)
        have E1 : Hid (IntKind.i64.wrap ((k : Int) - 1) = (j : Int)) := Lib.hid (by rw [IntWalk.i64_in _ (by omega)]; omega)
        have d2 : 0 < k := by omega
        have d1 : decide (0 < k) = true := by simp; omega
        have q0 : (0 : Int) ≤ (j : Int) := by omega
        have q1 : (j : Int) < (zs.length : Int) := by omega
        clear hj
        obtain ⟨x0, x1, bw⟩ := rd_pt HR.out hN rfl hlt
        obtain ⟨y0, y1, _⟩ := rd_pt HR.out hN rfl hjl
        cases gg : vpB zs[k].1 zs[k].2
        · have HP := Lib.hid (chn_hit hlt (by rw [HO.out, gg]; rfl))
          go_upto_region 6 with fail
          have e1 := E1.out
          have lx0 := Later.cell x0 bw
          have lx1 := Later.cell x1 bw
          have ly0 := Later.cell y0 bw
          have ly1 := Later.cell y1 bw
          have C1 := Lib.hid (fun w => gg ▸ c_l01Point zs[k].1 zs[k].2 w)
          (refine wp_region_later (by kernel_rfl) (by kernel_rfl) ?_; (repeat (go_big_quiet_step ((first | (go_at_call 46; exact later_of (C1.out _)))))); refine wpQuiet_nil ?_; intro wq hw'; obtain ⟨⟨wz, nq⟩, hwz⟩ := hw'; have hwz' : wq = wz := hwz; subst hwz'; clear hwz)
          clear lx0 lx1 ly0 ly1
          clear e1
          go_wp2
          go_ret
          exact ⟨ret_bool (HS.out.trans HP.out).symm, hN.step nq⟩
        · cases hh : ltP zs[j].1 zs[j].2 zs[k].1 zs[k].2
          · have HP := Lib.hid (chn_hit hlt (by rw [HO.out, gg, hh]; rfl))
            go_upto_region 6 with fail
            have e1 := E1.out
            have lx0 := Later.cell x0 bw
            have lx1 := Later.cell x1 bw
            have ly0 := Later.cell y0 bw
            have ly1 := Later.cell y1 bw
            have C1 := Lib.hid (fun w => gg ▸ c_l01Point zs[k].1 zs[k].2 w)
            have C2 := Lib.hid (fun w => hh ▸ c_specLess zs[j].1 zs[j].2 zs[k].1 zs[k].2 w)
            (refine wp_region_later (by kernel_rfl) (by kernel_rfl) ?_; (repeat (go_big_quiet_step ((first | (go_at_call 46; exact later_of (C1.out _)) | (go_at_call 47; exact later_of (C2.out _)))))); refine wpQuiet_nil ?_; intro wq hw'; obtain ⟨⟨wz, nq⟩, hwz⟩ := hw'; have hwz' : wq = wz := hwz; subst hwz'; clear hwz)
            clear lx0 lx1 ly0 ly1
            clear e1
            go_wp2
            go_ret
            exact ⟨ret_bool (HS.out.trans HP.out).symm, hN.step nq⟩
          · have HP := Lib.hid (ok_more HJ.out (by rw [HO.out, gg, hh]; rfl))
            go_upto_region 6 with fail
            have e1 := E1.out
            have lx0 := Later.cell x0 bw
            have lx1 := Later.cell x1 bw
            have ly0 := Later.cell y0 bw
            have ly1 := Later.cell y1 bw
            have C1 := Lib.hid (fun w => gg ▸ c_l01Point zs[k].1 zs[k].2 w)
            have C2 := Lib.hid (fun w => hh ▸ c_specLess zs[j].1 zs[j].2 zs[k].1 zs[k].2 w)
            (refine wp_region_later (by kernel_rfl) (by kernel_rfl) ?_; (repeat (go_big_quiet_step ((first | (go_at_call 46; exact later_of (C1.out _)) | (go_at_call 47; exact later_of (C2.out _)))))); refine wpQuiet_nil ?_; intro wq hw'; obtain ⟨⟨wz, nq⟩, hwz⟩ := hw'; have hwz' : wq = wz := hwz; subst hwz'; clear hwz)
            clear lx0 lx1 ly0 ly1
            clear e1
            go_wp2
            go_roundw
            case rel => exact ⟨k + 1, by omega, by go_num, HP, hN.step nq⟩
            case measure => simp [intOf]; omega
    · have hk' : k = zs.length := by omega
      subst hk'
      go_wp2
      go_ret
      exact ⟨ret_bool (by rw [HS.out, chn_miss HJ.out]), hN⟩

set_option maxHeartbeats 4000000 in
theorem c_implValidShape (lo hi : Nat) (v : Value) (zs : List (Int × Int)) (w : World) (h : Rd w lo hi 2 v zs.length (zs.flatMap ptCells)) :
    Calls Tryd.prog 26 #[v] w fun e w' => e = .returned (.bool (shpB zs)) ∧ New w w' := by
  have HR := Lib.hid h
  obtain ⟨_, hm, hh, A, c, rfl, hrd⟩ := h
  have ha : 0 < zs.length → ∃ b off, A = some ⟨b, off, none⟩ := fun h => by obtain ⟨b, off, e, _⟩ := hrd h; exact ⟨b, off, e⟩
  have HA := Lib.hid ha
  clear hrd ha hh
  go_enter Tryd.func26, Tryd.ntmps26
  go_wp2
  go_loopw [7] (fun i wr => ∃ k : Nat, k ≤ zs.length ∧ i = .int .i64 k ∧ Hid (∀ j, j < k → okAt zs j = true) ∧ New w wr) (fun i _ => zs.length - (intOf i).toNat)
  case atStart => exact ⟨0, Nat.zero_le _, rfl, Lib.hid (fun j hj => absurd hj (Nat.not_lt_zero _)), New.same _⟩
  case round =>
    obtain ⟨k, hk, rfl, HJ, hN⟩ := hrel
    by_cases hlt : k < zs.length
    · obtain ⟨b, off, hAe⟩ := HA.out (by omega)
      subst hAe
      have p0 : (0 : Int) ≤ (k : Int) := by omega
      have p1 : (k : Int) < (zs.length : Int) := by omega
      by_cases hk0 : k = 0
      · have HO := Lib.hid (okAt_zero hlt hk0)
        have d0 : decide ((0 : Int) < (k : Int)) = false := by simp; omega
        have d1 : decide (0 < k) = false := by simp; omega
        have d2 : ¬ (0 < k) := by omega
        clear hk0
        obtain ⟨u0, u1, bw0⟩ := rd_pt HR.out hN rfl hlt
        have N1 : New wr (wr.alloc (.cells #[.int .i64 zs[k].1, .int .i64 zs[k].2] 55)) := (New.same wr).box _
        have B1 : BoxV (wr.alloc (.cells #[.int .i64 zs[k].1, .int .i64 zs[k].2] 55)) wr.heap.size [.int .i64 zs[k].1, .int .i64 zs[k].2] := .two (by go_simp) (by go_simp) (by go_simp) (by go_simp) (by simp)
        go_upto_region 4 with fail
        clear u0 u1
        generalize (wr.alloc (.cells #[.int .i64 zs[k].1, .int .i64 zs[k].2] 55)) = W1 at *
        have hN1 : New w W1 := hN.step N1
        obtain ⟨⟨x0, x1⟩, -, bB⟩ := B1.at2
        have bw : b < W1.heap.size := Nat.lt_of_lt_of_le bw0 N1.size
        generalize wr.heap.size = B at *
        cases gg : vpB zs[k].1 zs[k].2
        · have HP := Lib.hid (chn_hit hlt (by rw [HO.out, gg]))
          have lx0 := Later.cell x0 bB
          have lx1 := Later.cell x1 bB
          have C1 := Lib.hid (fun w => gg ▸ c_implValidPoint zs[k].1 zs[k].2 w)
          (refine wp_region_later (by kernel_rfl) (by kernel_rfl) ?_; (repeat (go_big_quiet_step ((first | (go_at_call 51; exact later_of (C1.out _)))))); refine wpQuiet_nil ?_; intro wq hw'; obtain ⟨⟨wz, nq⟩, hwz⟩ := hw'; have hwz' : wq = wz := hwz; subst hwz'; clear hwz)
          clear lx0 lx1
          go_wp2
          go_ret
          exact ⟨ret_bool ((show shpB zs = false by simp [shpB, HP.out])).symm, hN1.step nq⟩
        · have HP := Lib.hid (ok_more HJ.out (by rw [HO.out, gg]))
          have lx0 := Later.cell x0 bB
          have lx1 := Later.cell x1 bB
          have C1 := Lib.hid (fun w => gg ▸ c_implValidPoint zs[k].1 zs[k].2 w)
          (refine wp_region_later (by kernel_rfl) (by kernel_rfl) ?_; (repeat (go_big_quiet_step ((first | (go_at_call 51; exact later_of (C1.out _)))))); refine wpQuiet_nil ?_; intro wq hw'; obtain ⟨⟨wz, nq⟩, hwz⟩ := hw'; have hwz' : wq = wz := hwz; subst hwz'; clear hwz)
          clear lx0 lx1
          go_wp2
          go_roundw
          case rel => exact ⟨k + 1, by omega, by go_num, HP, hN1.step nq⟩
          case measure => simp [intOf]; omega
      · obtain ⟨j, hj⟩ : ∃ j, k = j + 1 := ⟨k - 1, by omega⟩
        have hjl : j < zs.length := by omega
        have HO := Lib.hid (okAt_suc hlt hjl hj)
        have E1 : Hid (IntKind.i64.wrap ((k : Int) - 1) = (j : Int)) := Lib.hid (by rw [IntWalk.i64_in _ (by omega)]; omega)
        have d2 : 0 < k := by omega
        have d1 : decide (0 < k) = true := by simp; omega
        have q0 : (0 : Int) ≤ (j : Int) := by omega
        have q1 : (j : Int) < (zs.length : Int) := by omega
        clear hj
        obtain ⟨u0, u1, bw0⟩ := rd_pt HR.out hN rfl hlt
        have N1 : New wr (wr.alloc (.cells #[.int .i64 zs[k].1, .int .i64 zs[k].2] 55)) := (New.same wr).box _
        have B1 : BoxV (wr.alloc (.cells #[.int .i64 zs[k].1, .int .i64 zs[k].2] 55)) wr.heap.size [.int .i64 zs[k].1, .int .i64 zs[k].2] := .two (by go_simp) (by go_simp) (by go_simp) (by go_simp) (by simp)
        go_upto_region 4 with fail
        clear u0 u1
        generalize (wr.alloc (.cells #[.int .i64 zs[k].1, .int .i64 zs[k].2] 55)) = W1 at *
        have hN1 : New w W1 := hN.step N1
        obtain ⟨⟨x0, x1⟩, -, bB⟩ := B1.at2
        have bw : b < W1.heap.size := Nat.lt_of_lt_of_le bw0 N1.size
        obtain ⟨y0, y1, _⟩ := rd_pt HR.out hN1 rfl hjl
        generalize wr.heap.size = B at *
        cases gg : vpB zs[k].1 zs[k].2
        · have HP := Lib.hid (chn_hit hlt (by rw [HO.out, gg]; rfl))
          have e1 := E1.out
          have lx0 := Later.cell x0 bB
          have lx1 := Later.cell x1 bB
          have ly0 := Later.cell y0 bw
          have ly1 := Later.cell y1 bw
          have C1 := Lib.hid (fun w => gg ▸ c_implValidPoint zs[k].1 zs[k].2 w)
          (refine wp_region_later (by kernel_rfl) (by kernel_rfl) ?_; (repeat (go_big_quiet_step ((first | (go_at_call 51; exact later_of (C1.out _)))))); refine wpQuiet_nil ?_; intro wq hw'; obtain ⟨⟨wz, nq⟩, hwz⟩ := hw'; have hwz' : wq = wz := hwz; subst hwz'; clear hwz)
          clear lx0 lx1 ly0 ly1
          clear e1
          go_wp2
          go_ret
          exact ⟨ret_bool ((show shpB zs = false by simp [shpB, HP.out])).symm, hN1.step nq⟩
        · cases hh : ltP zs[j].1 zs[j].2 zs[k].1 zs[k].2
          · have HP := Lib.hid (chn_hit hlt (by rw [HO.out, gg, hh]; rfl))
            have e1 := E1.out
            have lx0 := Later.cell x0 bB
            have lx1 := Later.cell x1 bB
            have ly0 := Later.cell y0 bw
            have ly1 := Later.cell y1 bw
            have C1 := Lib.hid (fun w => gg ▸ c_implValidPoint zs[k].1 zs[k].2 w)
            have C2 := Lib.hid (fun w => hh ▸ c_implLess zs[j].1 zs[j].2 zs[k].1 zs[k].2 w)
            (refine wp_region_later (by kernel_rfl) (by kernel_rfl) ?_; (repeat (go_big_quiet_step ((first | (go_at_call 51; exact later_of (C1.out _)) | (go_at_call 52; exact later_of (C2.out _)))))); refine wpQuiet_nil ?_; intro wq hw'; obtain ⟨⟨wz, nq⟩, hwz⟩ := hw'; have hwz' : wq = wz := hwz; subst hwz'; clear hwz)
            clear lx0 lx1 ly0 ly1
            clear e1
            go_wp2
            go_ret
            exact ⟨ret_bool ((show shpB zs = false by simp [shpB, HP.out])).symm, hN1.step nq⟩
          · have HP := Lib.hid (ok_more HJ.out (by rw [HO.out, gg, hh]; rfl))
            have e1 := E1.out
            have lx0 := Later.cell x0 bB
            have lx1 := Later.cell x1 bB
            have ly0 := Later.cell y0 bw
            have ly1 := Later.cell y1 bw
            have C1 := Lib.hid (fun w => gg ▸ c_implValidPoint zs[k].1 zs[k].2 w)
            have C2 := Lib.hid (fun w => hh ▸ c_implLess zs[j].1 zs[j].2 zs[k].1 zs[k].2 w)
            (refine wp_region_later (by kernel_rfl) (by kernel_rfl) ?_; (repeat (go_big_quiet_step ((first | (go_at_call 51; exact later_of (C1.out _)) | (go_at_call 52; exact later_of (C2.out _)))))); refine wpQuiet_nil ?_; intro wq hw'; obtain ⟨⟨wz, nq⟩, hwz⟩ := hw'; have hwz' : wq = wz := hwz; subst hwz'; clear hwz)
            clear lx0 lx1 ly0 ly1
            clear e1
            go_wp2
            go_roundw
            case rel => exact ⟨k + 1, by omega, by go_num, HP, hN1.step nq⟩
            case measure => simp [intOf]; omega
    · have hk' : k = zs.length := by omega
      subst hk'
      have HP := Lib.hid (show inB (zs.length : Int) 1 500 = shpB zs by simp [shpB, chn_miss HJ.out])
      go_wp2_with (go_at_call 53; refine (c_within _ _ _ _).mono ?_; rintro e w' ⟨rfl, rfl⟩)
      go_ret
      exact ⟨ret_bool HP.out, hN⟩


end Go.Proofs.YtfnihmmkbnkmnaaDoor
