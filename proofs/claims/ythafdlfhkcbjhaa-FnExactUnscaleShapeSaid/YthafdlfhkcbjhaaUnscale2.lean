/- Contracts of the two functions that hand back a shape read back. -/
import Derived.Test.YthafdlfhkcbjhaaUnscale
import Derived.Test.YthafdlfhkcbjhaaScale2
import Derived.Test.YthafdlfhkcbjhaaLate
namespace Go.Proofs.Ythafdlfhkcbjhaa
open Go.RowKit Go.Deep
set_option linter.unusedVariables false
set_option linter.unusedSimpArgs false

set_option maxHeartbeats 8000000 in
theorem c_specUnscale_ok (lo hi : Nat) (v : Value) (zs : List (Int × Int)) (k : Int) (w : World) (h : Rd w lo hi 2 v zs.length (zs.flatMap ptCells)) (hs : shpB zs = true) (k1 : 1 ≤ k) (k2 : k ≤ 60) :
    Calls Try.prog 23 #[v, .int .i64 k] w (GivesRowCode w 66 2 (unscaleRes zs k).length ((unscaleRes zs k).flatMap ptCells) (unscaleCode zs k)) := by
  have HR := Lib.hid h
  obtain ⟨hn, hl⟩ := shpB_len hs
  have HD := Lib.hid (fun i (hi : i < zs.length) => bd60_shp hs zs[i] (List.getElem_mem hi))
  have hkin : inB k 1 60 = true := inB_yes k1 k2
  have HU := Lib.hid (unL_shp hs k1)
  have HL := Lib.hid (unL_len zs k)
  have HA := Lib.hid (show sortR (unT zs k zs.length) = unL zs k by rw [unT_all]; rfl)
  have HY := Lib.hid (show unB zs k = true → scaleRes (unL zs k) k = zs ∧ scaleCode (unL zs k) k = 0 ∧ unscaleRes zs k = unL zs k ∧ unscaleCode zs k = 0 by
    intro e
    have e1 : scaL (unL zs k) k.toNat = zs := by simpa [unB] using e
    have e2 := scaL_len (K := k.toNat) (shp_nd (unL_shp hs k1))
    rw [e1] at e2
    have hK : ((k.toNat : Nat) : Int) = k := by omega
    have e3 : ((unL zs k).length : Int) * k * k = zs.length := by
      rw [e2, Int.natCast_mul, Int.natCast_mul, hK, Int.mul_assoc]
    have hb : bigB (unL zs k) k = false := by unfold bigB; rw [e3]; simp; omega
    refine ⟨?_, ?_, ?_, ?_⟩
    · simp [scaleRes, unL_shp hs k1, hkin, hb, vldL, e1, hs]
    · simp [scaleCode, unL_shp hs k1, hkin, hb, vldC, e1, hs]
    · simp [unscaleRes, hs, hkin, e]
    · simp [unscaleCode, hs, hkin, e])
  have HNo := Lib.hid (show unB zs k = false → unscaleRes zs k = [] ∧ unscaleCode zs k = 3 ∧ (scaleCode (unL zs k) k = 0 → eqL (scaleRes (unL zs k) k) zs = false) by
    intro e
    refine ⟨by simp [unscaleRes, e], by simp [unscaleCode, hs, hkin, e], fun hc => ?_⟩
    have e1 : scaL (unL zs k) k.toNat ≠ zs := by simpa [unB] using e
    have hu := unL_shp hs k1
    cases hb : bigB (unL zs k) k
    · cases hv : shpB (scaL (unL zs k) k.toNat)
      · simp [scaleCode, hu, hkin, hb, vldC, hv] at hc
      · have : scaleRes (unL zs k) k = scaL (unL zs k) k.toNat := by simp [scaleRes, hu, hkin, hb, vldL, hv]
        rw [this]
        simpa [eqL] using e1
    · simp [scaleCode, hu, hkin, hb] at hc)
  obtain ⟨_, hm, hh, A, c, rfl, hrd⟩ := h
  obtain ⟨b, off, rfl, _, hb1, hc⟩ := hrd hn
  clear hc hrd
  go_enter Try.func23, Try.ntmps23
  go_wp2_with fail
  refine (c_l04Ok lo hi _ zs _ HR.out).mono ?_
  rintro e w1 ⟨rfl, n1⟩
  go_wp2_with (go_at_call 51; refine (c_l00In _ _ _ _).mono ?_; rintro e w' ⟨rfl, rfl⟩)
  have HR1 := Lib.hid (HR.out.new n1)
  have hz1 := n1.size
  have hbB : b < w1.heap.size := by omega
  go_loopw [6, 7] (fun v i wr => ∃ n : Nat, n ≤ zs.length ∧ i = .int .i64 n ∧ wr.ownsRow w1.heap.size 66 2 v (sortR (unT zs k n)).length ((sortR (unT zs k n)).flatMap ptCells) ∧ New w1 wr) (fun _ i _ => zs.length - (intOf i).toNat)
  case atStart => exact ⟨0, Nat.zero_le _, rfl, World.ownsRow_made w1 #[] 0 (Nat.le_refl _) (by omega) rfl, (New.same _).box _⟩
  case round =>
    obtain ⟨n, hnl, rfl, hown, hN⟩ := hrel
    by_cases hlt : n < zs.length
    · obtain ⟨⟨d1, d2⟩, d3, d4⟩ := HD.out n hlt
      obtain ⟨x0, x1, bw⟩ := rd_pt HR1.out hN rfl hlt
      have C1 := Lib.hid (fun w => c_l04Down zs[n].1 k w d1 d2 k1 k2)
      have C2 := Lib.hid (fun w => c_l04Down zs[n].2 k w d3 d4 k1 k2)
      have HOW := Lib.hid hown
      have p0 : (0 : Int) ≤ (n : Int) := by omega
      have p1 : (n : Int) < (zs.length : Int) := by omega
      clear hown
      go_upto_region 9 with fail
      have lx := Later.cell x0 bw
      have ly := Later.cell x1 bw
      refine wp_region_later_tail [0, 1, 2, 3, 4, 5, 6, 7, 8, 9, 10, 11, 12, 13, 14, 15] 16 [17] (by kernel_rfl) (by decide +kernel) ?_
      simp only [pickO, List.getElem?_cons_zero, List.getElem?_cons_succ]
      (repeat (go_big_quiet_step (first | (go_at_call 53; with_reducible exact later_same (C1.out _)) | (go_at_call 53; with_reducible exact later_same (C2.out _)))))
      refine wpQuiet_nil ?_
      intro wq hw'
      obtain ⟨⟨wz, nq⟩, hwz⟩ := hw'
      have hwz' : wq = wz := hwz
      subst hwz'
      clear hwz lx ly x0 x1 bw
      have HO2 := Lib.hid (ownsRow_new HOW.out nq)
      have hz2 := (hN.step nq).size
      have HS := Lib.hid (unS_succ (k := k) hlt)
      have HSL := Lib.hid (unS_len zs k n)
      go_wp2_with (go_at_call 52; refine (c_putPoint w1.heap.size _ (sortR (unT zs k n)) (fdP k zs[n]) _ HO2.out hz2 (by have := HSL.out; omega)).mono ?_; rintro e w2 ⟨u, rfl, hown1, hb1⟩)
      go_roundw
      case rel => exact ⟨n + 1, by omega, by go_num, by rw [HS.out]; exact hown1, (hN.step nq).trans hb1⟩
      case measure => simp [intOf]; omega
    · have en : n = zs.length := by omega
      subst en
      have HO := Lib.hid (by have := Own.of hown; rw [HA.out] at this; exact this : Own wr w1.heap.size wr.heap.size 66 2 _ (unL zs k).length ((unL zs k).flatMap ptCells))
      clear hown
      go_wp2_with fail
      refine (c_specScale _ _ _ (unL zs k) k _ HO.out.rd).mono ?_
      rintro e w2 ⟨u2, rfl, hO2, n2⟩
      have HO2 := Lib.hid hO2
      have hz3 := hN.size
      clear hO2
      cases hu : unB zs k
      · obtain ⟨e1, e2, e3⟩ := HNo.out hu
        have HE1 := Lib.hid e1
        have HE2 := Lib.hid e2
        have HE3 := Lib.hid e3
        clear e1 e2 e3
        by_cases hc : scaleCode (unL zs k) k = 0
        · have HE4 := Lib.hid (HE3.out hc)
          rw [hc]
          go_wp2_with fail
          refine (c_l04Same _ _ _ _ _ _ (scaleRes (unL zs k) k) zs _ HO2.out.rd ((HR1.out.new hN).new n2)).mono ?_
          rintro e w3 ⟨rfl, n3⟩
          rw [HE4.out]
          go_wp2
          go_ret2
          rw [HE1.out, HE2.out]
          exact ⟨_, rfl, own_nil _ _ (Nat.le_refl _) _ _ _, ((n1.step hN).step n2).step n3⟩
        · have hc' : (scaleCode (unL zs k) k != 0) = true := by simp [hc]
          have hc2 : (scaleCode (unL zs k) k == 0) = false := by simp [hc]
          go_wp2
          go_ret2
          rw [HE1.out, HE2.out]
          exact ⟨_, rfl, own_nil _ _ (Nat.le_refl _) _ _ _, (n1.step hN).step n2⟩
      · obtain ⟨e1, e2, e3, e4⟩ := HY.out hu
        have HE1 := Lib.hid e1
        have HE2 := Lib.hid e2
        have HE3 := Lib.hid e3
        have HE4 := Lib.hid e4
        have HEQ := Lib.hid (show eqL zs zs = true by simp [eqL])
        clear e1 e2 e3 e4
        have HO3 := Lib.hid (by have := HO2.out.rd; rw [HE1.out] at this; exact this : Rd w2 _ _ 2 _ zs.length (zs.flatMap ptCells))
        rw [HE2.out]
        go_wp2_with fail
        refine (c_l04Same _ _ _ _ _ _ zs zs _ HO3.out ((HR1.out.new hN).new n2)).mono ?_
        rintro e w3 ⟨rfl, n3⟩
        rw [HEQ.out]
        go_wp2
        go_ret2
        rw [HE3.out, HE4.out]
        exact ⟨_, rfl, ((HO.out.new n2).new n3).wide (by omega) (Nat.le_trans n2.size n3.size) (Nat.le_refl _), ((n1.step hN).step n2).step n3⟩

set_option maxHeartbeats 1000000 in
theorem c_specUnscale (lo hi : Nat) (v : Value) (zs : List (Int × Int)) (k : Int) (w : World) (h : Rd w lo hi 2 v zs.length (zs.flatMap ptCells)) :
    Calls Try.prog 23 #[v, .int .i64 k] w (GivesRowCode w 66 2 (unscaleRes zs k).length ((unscaleRes zs k).flatMap ptCells) (unscaleCode zs k)) := by
  have HR := Lib.hid h
  cases hs : shpB zs
  · have E := Lib.hid (show unscaleRes zs k = [] ∧ unscaleCode zs k = 1 by simp [unscaleRes, unscaleCode, hs])
    rw [E.out.1, E.out.2]
    go_enter Try.func23, Try.ntmps23
    go_wp2_with fail
    refine (c_l04Ok lo hi _ zs _ HR.out).mono ?_
    rintro e w1 ⟨rfl, n1⟩
    go_wp2_with fail
    go_ret2
    exact ⟨_, rfl, own_nil _ _ (Nat.le_refl _) _ _ _, n1⟩
  · cases hi7 : inB k 1 60
    · have E := Lib.hid (show unscaleRes zs k = [] ∧ unscaleCode zs k = 2 by simp [unscaleRes, unscaleCode, hs, hi7])
      rw [E.out.1, E.out.2]
      go_enter Try.func23, Try.ntmps23
      go_wp2_with fail
      refine (c_l04Ok lo hi _ zs _ HR.out).mono ?_
      rintro e w1 ⟨rfl, n1⟩
      go_wp2_with (go_at_call 51; refine (c_l00In _ _ _ _).mono ?_; rintro e w' ⟨rfl, rfl⟩)
      go_ret2
      exact ⟨_, rfl, own_nil _ _ (Nat.le_refl _) _ _ _, n1⟩
    · obtain ⟨k1, k2⟩ := inB_iff.1 hi7
      exact c_specUnscale_ok lo hi v zs k w h hs k1 k2

set_option maxHeartbeats 8000000 in
theorem c_implUnscale_ok (lo hi : Nat) (v : Value) (zs : List (Int × Int)) (k : Int) (w : World) (h : Rd w lo hi 2 v zs.length (zs.flatMap ptCells)) (hs : shpB zs = true) (k1 : 1 ≤ k) (k2 : k ≤ 60) :
    Calls Try.prog 25 #[v, .int .i64 k] w (GivesRowCode w 66 2 (unscaleRes zs k).length ((unscaleRes zs k).flatMap ptCells) (unscaleCode zs k)) := by
  have HR := Lib.hid h
  obtain ⟨hn, hl⟩ := shpB_len hs
  have HD := Lib.hid (fun i (hi : i < zs.length) => bd60_shp hs zs[i] (List.getElem_mem hi))
  have hkin : inB k 1 60 = true := inB_yes k1 k2
  have EC := show shpC zs true = 0 by simp [shpC, hs]
  have HU := Lib.hid (unL_shp hs k1)
  have HUL := Lib.hid (shpB_len (unL_shp hs k1))
  have HA := Lib.hid (show unT zs k zs.length = zs.map (fdP k) from unT_all zs k)
  have HML := Lib.hid (show (zs.map (fdP k)).length = zs.length by simp)
  have HKN := Lib.hid (show ((k.toNat : Nat) : Int) = k by omega)
  have HSL := Lib.hid (show (scaL (unL zs k) k.toNat).length = (unL zs k).length * (k.toNat * k.toNat) from scaL_len (shp_nd (unL_shp hs k1)))
  have HNK := Lib.hid (show (((unL zs k).length * (k.toNat * k.toNat) : Nat) : Int) = ((unL zs k).length : Int) * k * k by rw [Int.natCast_mul, Int.natCast_mul, HKN.out, Int.mul_assoc])
  obtain ⟨⟨kk0, kk1⟩, ⟨nk0, nk1⟩, nkk0, nkk1⟩ := big_bd (n := ((unL zs k).length : Int)) (k := k) (by have := HUL.out; omega) (by have := HUL.out; omega) k1 k2
  have HY := Lib.hid (show unB zs k = true → eqL (scaL (unL zs k) k.toNat) zs = true ∧ unscaleRes zs k = unL zs k ∧ unscaleCode zs k = 0 by
    intro e
    have e1 : scaL (unL zs k) k.toNat = zs := by simpa [unB] using e
    exact ⟨by simp [eqL, e1], by simp [unscaleRes, hs, hkin, e], by simp [unscaleCode, hs, hkin, e]⟩)
  have HNo := Lib.hid (show unB zs k = false → eqL (scaL (unL zs k) k.toNat) zs = false ∧ unscaleRes zs k = [] ∧ unscaleCode zs k = 3 by
    intro e
    have e1 : scaL (unL zs k) k.toNat ≠ zs := by simpa [unB] using e
    exact ⟨by simpa [eqL] using e1, by simp [unscaleRes, e], by simp [unscaleCode, hs, hkin, e]⟩)
  obtain ⟨_, hm, hh, A, c, rfl, hrd⟩ := h
  obtain ⟨b, off, rfl, _, hb1, hc⟩ := hrd hn
  clear hc hrd
  go_enter Try.func25, Try.ntmps25
  go_wp2_with (go_at_call 58; refine (c_within _ _ _ _).mono ?_; rintro e w' ⟨rfl, rfl⟩)
  refine (c_shapeCode lo hi _ zs true _ HR.out).mono ?_
  rintro e w1 ⟨rfl, n1⟩
  rw [EC]
  have HR1 := Lib.hid (HR.out.new n1)
  have hz1 := n1.size
  have hbB : b < w1.heap.size := by omega
  go_wp2
  go_loopw [7, 19] (fun v i wr => ∃ n : Nat, n ≤ zs.length ∧ i = .int .i64 n ∧ wr.ownsRow w1.heap.size 66 2 v n ((unT zs k n).flatMap ptCells) ∧ New w1 wr) (fun _ i _ => zs.length - (intOf i).toNat)
  case atStart => exact ⟨0, Nat.zero_le _, rfl, World.ownsRow_nil _ _ _ _, New.same _⟩
  case round =>
    obtain ⟨n, hnl, rfl, hown, hN⟩ := hrel
    by_cases hlt : n < zs.length
    · obtain ⟨A1, cc, rfl⟩ := own_slc hown
      obtain ⟨⟨d1, d2⟩, d3, d4⟩ := HD.out n hlt
      obtain ⟨x0, x1, bw⟩ := rd_pt HR1.out hN rfl hlt
      have n7 : New wr (wr.alloc (.cells #[.int .i64 zs[n].1, .int .i64 zs[n].2] 66)) := (New.same wr).box _
      have C7 : BoxV (wr.alloc (.cells #[.int .i64 zs[n].1, .int .i64 zs[n].2] 66)) wr.heap.size [.int .i64 zs[n].1, .int .i64 zs[n].2] := .two (by go_simp) (by go_simp) (by go_simp) (by go_simp) (by simp)
      have HOW := Lib.hid (ownsRow_new hown n7)
      clear hown
      go_upto_region 8 with fail
      clear x0 x1 bw
      generalize wr.alloc (.cells #[.int .i64 zs[n].1, .int .i64 zs[n].2] 66) = W7 at *
      have hN7 := hN.step n7
      have hr7 : wr.heap.size < W7.heap.size := C7.at2.2.2
      generalize wr.heap.size = r at *
      have C1 := Lib.hid (fun w => c_floorDiv zs[n].1 k w d1 d2 k1 k2)
      have C2 := Lib.hid (fun w => c_floorDiv zs[n].2 k w d3 d4 k1 k2)
      obtain ⟨⟨c0, e0⟩, _, l0⟩ := C7.at2
      have lx := Later.cell c0 l0
      have ly := Later.cell e0 l0
      refine wp_region_later_late [0] [1, 2, 3, 4, 5, 6, 7, 8, 9] 10 11 [12] (by kernel_rfl) (by rfl) (by rfl) (by decide +kernel) ?_
      simp only [pickO, List.getElem?_cons_zero, List.getElem?_cons_succ]
      refine wpReads_cons (.slice A1 n cc) (by rfl) (fun w' hw' => by obtain ⟨t, rfl⟩ := hw'; go_simp) ?_
      simp only [Act.put, List.setIfInBounds_toArray, List.set_cons_zero, List.set_cons_succ]
      simp only [wpReads]
      (repeat (go_big_quiet_step (first | (go_at_call 59; with_reducible exact later_same (C1.out _)) | (go_at_call 59; with_reducible exact later_same (C2.out _)))))
      refine wpQuiet_nil ?_
      intro wq hw'
      obtain ⟨⟨wz, nq⟩, hwz⟩ := hw'
      have hwz' : wq = wz := hwz
      subst hwz'
      clear hwz lx ly c0 e0
      have HO2 := Lib.hid (ownsRow_new HOW.out nq)
      have hz2 := (hN7.step nq).size
      have HS := Lib.hid (unT_succ (k := k) hlt)
      go_wp2_with (at_builtin; refine wpList_app1 rfl _ _ rfl row_point _ w1.heap.size HO2.out rfl [.int .i64 (zs[n].1 / k), .int .i64 (zs[n].2 / k)] rfl rfl (by simp [Value.oneCell']) (by unfold maxLen; omega) (by omega) hz2 ?_; intro v1 w3 hown1 hb3 _ _)
      refine NoPanic.normal ?_
      go_wp2
      go_roundw
      case rel => exact ⟨n + 1, by omega, by go_num, by rw [HS.out, List.flatMap_append]; simpa [ptCells, fdP] using hown1, (hN7.step nq).trans hb3⟩
      case measure => simp [intOf]; omega
    · have en : n = zs.length := by omega
      subst en
      have HO := Lib.hid (by have := Own.of hown; rw [HA.out] at this; exact this : Own wr w1.heap.size wr.heap.size 66 2 _ zs.length ((zs.map (fdP k)).flatMap ptCells))
      clear hown
      have hz3 := hN.size
      go_wp2_with fail
      refine (c_sortedShapeD _ _ _ (zs.map (fdP k)) _ (by rw [HML.out]; exact HO.out.rd) (by rw [HML.out]; exact hn) (by rw [HML.out]; omega)).mono ?_
      rintro e w2 ⟨u2, rfl, hO2, n2⟩
      have HO2 : Hid (Own w2 wr.heap.size w2.heap.size 66 2 u2 (unL zs k).length ((unL zs k).flatMap ptCells)) := Lib.hid hO2
      obtain ⟨A2, c2, hu2⟩ := own_slc HO2.out.1
      subst hu2
      clear hO2
      by_cases hc : ((unL zs k).length : Int) * k * k = zs.length
      · have t0 : (((unL zs k).length : Int) * k * k == (zs.length : Int)) = true := by simp [hc]
        have hq : (unL zs k).length * (k.toNat * k.toNat) ≤ 1000000 := by have := HNK.out; omega
        have HND := Lib.hid (shp_nd HU.out)
        have HB6 := Lib.hid (bd60_shp HU.out)
        go_wp2_with fail
        refine (c_scaled _ _ _ (unL zs k) k k.toNat _ HO2.out.rd HUL.out.1 hq HB6.out HND.out HKN.out k1 k2).mono ?_
        rintro e w3 ⟨u3, rfl, hO3, n3⟩
        go_wp2_with fail
        refine (c_equal_point _ _ _ _ _ _ (scaL (unL zs k) k.toNat) zs _ hO3.rd (((HR1.out.new hN).new n2).new n3)).mono ?_
        rintro e w4 ⟨rfl, n4⟩
        cases hu : unB zs k
        · obtain ⟨e1, e2, e3⟩ := HNo.out hu
          have HE2 := Lib.hid e2
          have HE3 := Lib.hid e3
          rw [e1]
          clear e1 e2 e3
          go_wp2
          go_ret2
          rw [HE2.out, HE3.out]
          exact ⟨_, rfl, own_nil _ _ (Nat.le_refl _) _ _ _, (((n1.step hN).step n2).step n3).step n4⟩
        · obtain ⟨e1, e2, e3⟩ := HY.out hu
          have HE2 := Lib.hid e2
          have HE3 := Lib.hid e3
          rw [e1]
          clear e1 e2 e3
          go_wp2
          go_ret2
          rw [HE2.out, HE3.out]
          exact ⟨_, rfl, ((HO2.out.new n3).new n4).wide (by omega) (Nat.le_trans n3.size n4.size) (Nat.le_refl _), (((n1.step hN).step n2).step n3).step n4⟩
      · have t0 : (((unL zs k).length : Int) * k * k == (zs.length : Int)) = false := by simp [hc]
        have hu : unB zs k = false := by
          cases e : unB zs k
          · rfl
          · exfalso
            have e1 : scaL (unL zs k) k.toNat = zs := by simpa [unB] using e
            have e2 := HSL.out
            rw [e1] at e2
            apply hc
            rw [← HNK.out, ← e2]
        obtain ⟨e1, e2, e3⟩ := HNo.out hu
        have HE2 := Lib.hid e2
        have HE3 := Lib.hid e3
        clear e1 e2 e3
        go_wp2
        go_ret2
        rw [HE2.out, HE3.out]
        exact ⟨_, rfl, own_nil _ _ (Nat.le_refl _) _ _ _, (n1.step hN).step n2⟩

set_option maxHeartbeats 1000000 in
theorem c_implUnscale (lo hi : Nat) (v : Value) (zs : List (Int × Int)) (k : Int) (w : World) (h : Rd w lo hi 2 v zs.length (zs.flatMap ptCells)) :
    Calls Try.prog 25 #[v, .int .i64 k] w (GivesRowCode w 66 2 (unscaleRes zs k).length ((unscaleRes zs k).flatMap ptCells) (unscaleCode zs k)) := by
  have HR := Lib.hid h
  cases hs : shpB zs
  · have E := Lib.hid (show unscaleRes zs k = [] ∧ unscaleCode zs k = 1 by simp [unscaleRes, unscaleCode, hs])
    have EC := show shpC zs (inB k 1 60) = 1 by simp [shpC, hs]
    rw [E.out.1, E.out.2]
    go_enter Try.func25, Try.ntmps25
    go_wp2_with (go_at_call 58; refine (c_within _ _ _ _).mono ?_; rintro e w' ⟨rfl, rfl⟩)
    refine (c_shapeCode lo hi _ zs (inB k 1 60) _ HR.out).mono ?_
    rintro e w1 ⟨rfl, n1⟩
    rw [EC]
    go_wp2
    go_ret2
    exact ⟨_, rfl, own_nil _ _ (Nat.le_refl _) _ _ _, n1⟩
  · cases hi7 : inB k 1 60
    · have E := Lib.hid (show unscaleRes zs k = [] ∧ unscaleCode zs k = 2 by simp [unscaleRes, unscaleCode, hs, hi7])
      have EC := show shpC zs false = 2 by simp [shpC, hs]
      rw [E.out.1, E.out.2]
      go_enter Try.func25, Try.ntmps25
      go_wp2_with (go_at_call 58; refine (c_within _ _ _ _).mono ?_; rintro e w' ⟨rfl, rfl⟩)
      refine (c_shapeCode lo hi _ zs false _ HR.out).mono ?_
      rintro e w1 ⟨rfl, n1⟩
      rw [EC]
      go_wp2
      go_ret2
      exact ⟨_, rfl, own_nil _ _ (Nat.le_refl _) _ _ _, n1⟩
    · obtain ⟨k1, k2⟩ := inB_iff.1 hi7
      exact c_implUnscale_ok lo hi v zs k w h hs k1 k2
end Go.Proofs.Ythafdlfhkcbjhaa
