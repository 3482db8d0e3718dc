/- Contracts of the functions that look for a point in points in their order. -/
import Derived.Test.YtfnihmmkbnkmnaaDoorPut
namespace Go.Proofs.YtfnihmmkbnkmnaaDoor
open Go.RowKit Go.Deep
set_option linter.unusedVariables false
set_option linter.unusedSimpArgs false

/-! binary search, plain -/
theorem asc_yes {zs : List (Int × Int)} {p : Int × Int} (ha : Asc zs) {m : Nat} (hm : m < zs.length) (h : ltQ zs[m] p = true) : ∀ j (hj : j < zs.length), j < m + 1 → ltQ zs[j] p = true := by
  intro j hj hjm
  by_cases e : j = m
  · subst e; exact h
  · exact ltQ_trans (List.pairwise_iff_getElem.1 ha j m hj hm (by omega)) h
theorem asc_no {zs : List (Int × Int)} {p : Int × Int} (ha : Asc zs) {m : Nat} (hm : m < zs.length) (h : ltQ zs[m] p = false) : ∀ j (hj : j < zs.length), m ≤ j → ltQ zs[j] p = false := by
  intro j hj hjm
  by_cases e : j = m
  · subst e; exact h
  · cases hq : ltQ zs[j] p
    · rfl
    · have := ltQ_trans (List.pairwise_iff_getElem.1 ha m j hm hj (by omega)) hq
      rw [h] at this; cases this
/-- whether a point is among the points -/
def hasB (zs : List (Int × Int)) (p : Int × Int) : Bool := decide (p ∈ zs)
theorem has_at {zs : List (Int × Int)} {p : Int × Int} {k : Nat} (ha : Asc zs) (hk : k ≤ zs.length) (h1 : ∀ j (hj : j < zs.length), j < k → ltQ zs[j] p = true) (h2 : ∀ j (hj : j < zs.length), k ≤ j → ltQ zs[j] p = false) : hasB zs p = thrB zs p k := by
  unfold hasB thrB
  rw [Bool.eq_iff_iff, decide_eq_true_iff, decide_eq_true_iff]
  constructor
  · intro h
    obtain ⟨j, hj, rfl⟩ := List.mem_iff_getElem.1 h
    have e : j = k := by
      rcases Nat.lt_trichotomy j k with h3 | h3 | h3
      · have := h1 j hj h3; rw [ltQ_irr] at this; cases this
      · exact h3
      · have a := List.pairwise_iff_getElem.1 ha k j (by omega) hj h3
        have b := h2 k (by omega) (Nat.le_refl _)
        rw [a] at b; cases b
    subst e
    exact List.getElem?_eq_getElem hj
  · exact List.mem_of_getElem?
theorem ltQ_at (p q : Int × Int) : ltQ p q = ltP p.1 p.2 q.1 q.2 := rfl

set_option maxHeartbeats 8000000 in
theorem c_l04Has (lo hi : Nat) (v : Value) (zs : List (Int × Int)) (p : Int × Int) (w : World) (h : Rd w lo hi 2 v zs.length (zs.flatMap ptCells)) (ha : Asc zs) (hl : zs.length ≤ 1000000) :
    Calls Tryd.prog 49 #[v, .agg #[.int .i64 p.1, .int .i64 p.2]] w fun e w' => e = .returned (.bool (hasB zs p)) ∧ New w w' := by
  have HR := Lib.hid h
  have HAS := Lib.hid ha
  obtain ⟨_, hm, hh, A, c, rfl, hrd⟩ := h
  have ha' : 0 < zs.length → ∃ b off, A = some ⟨b, off, none⟩ := fun h => by obtain ⟨b, off, e, _⟩ := hrd h; exact ⟨b, off, e⟩
  have HA := Lib.hid ha'
  have N0 : New w (w.alloc (.cells #[.int .i64 p.1, .int .i64 p.2] 55)) := (New.same w).box _
  have B0 : BoxV (w.alloc (.cells #[.int .i64 p.1, .int .i64 p.2] 55)) w.heap.size [.int .i64 p.1, .int .i64 p.2] := .two (by go_simp) (by go_simp) (by go_simp) (by go_simp) (by simp)
  clear hrd ha' ha
  go_enter Tryd.func49, Tryd.ntmps49
  go_wp2
  generalize w.alloc (.cells #[.int .i64 p.1, .int .i64 p.2] 55) = W0 at *
  go_loopw [5, 6] (fun i j wr => ∃ a b : Nat, a ≤ b ∧ b ≤ zs.length ∧ i = .int .i64 a ∧ j = .int .i64 b ∧ Hid (∀ j (hj : j < zs.length), j < a → ltQ zs[j] p = true) ∧ Hid (∀ j (hj : j < zs.length), b ≤ j → ltQ zs[j] p = false) ∧ New W0 wr) (fun i j _ => (intOf j).toNat - (intOf i).toNat)
  case atStart => exact ⟨0, zs.length, Nat.zero_le _, Nat.le_refl _, rfl, rfl, Lib.hid (fun j hj h => by omega), Lib.hid (fun j hj h => by omega), New.same _⟩
  case round =>
    obtain ⟨a, b, hab, hb, rfl, rfl, HJ1, HJ2, hN⟩ := hrel
    have B1 := B0.new hN
    have ⟨⟨b0, b1⟩, _, bl⟩ := B1.at2
    by_cases hlt : a < b
    · obtain ⟨g, off, hAe⟩ := HA.out (by omega)
      subst hAe
      obtain ⟨m, hm1⟩ : ∃ m : Nat, ((a : Int) + b) / 2 = m := ⟨(a + b) / 2, by omega⟩
      have hm2 : a ≤ m ∧ m < b := by omega
      obtain ⟨hm3, hm4⟩ := hm2
      have hml : m < zs.length := by omega
      have q0 : (0 : Int) ≤ (m : Int) := by omega
      have q1 : (m : Int) < (zs.length : Int) := by omega
      have E1 : IntKind.i64.wrap (((a : Int) + b) / 2) = (m : Int) := by rw [hm1]; exact IntWalk.i64_in _ (by omega)
      obtain ⟨x0, x1, bw⟩ := rd_pt (HR.out.new N0) hN rfl hml
      have lx0 := Later.cell x0 bw
      have lx1 := Later.cell x1 bw
      have ly0 := Later.cell b0 bl
      have ly1 := Later.cell b1 bl
      have C1 := Lib.hid (fun w => c_specLess zs[m].1 zs[m].2 p.1 p.2 w)
      have HQ := Lib.hid (ltQ_at zs[m] p)
      go_upto_region 5 with fail
      (refine wp_region_later (by kernel_rfl) (by kernel_rfl) ?_; (repeat (go_big_quiet_step ((first | (go_at_call 47; exact later_of (C1.out _)))))); refine wpQuiet_nil ?_; intro wq hw'; obtain ⟨⟨wz, nq⟩, hwz⟩ := hw'; have hwz' : wq = wz := hwz; subst hwz'; clear hwz)
      rw [← HQ.out]
      cases hq : ltQ zs[m] p
      · have HN2 := Lib.hid (asc_no HAS.out hml hq)
        go_wp2
        go_roundw
        case rel => exact ⟨a, m, by omega, by omega, rfl, by first | rfl | rw [hm1], HJ1, HN2, hN.step nq⟩
        case measure => simp [intOf]; omega
      · have HN2 := Lib.hid (asc_yes HAS.out hml hq)
        go_wp2
        go_roundw
        case rel => exact ⟨m + 1, b, by omega, by omega, by first | go_num | (rw [hm1]; go_num), rfl, HN2, HJ2, hN.step nq⟩
        case measure => simp [intOf]; omega
    · have eab : a = b := by omega
      subst eab
      have HT := Lib.hid (has_at HAS.out hb HJ1.out HJ2.out)
      by_cases hlt2 : a < zs.length
      · obtain ⟨g, off, hAe⟩ := HA.out (by omega)
        subst hAe
        obtain ⟨x0, x1, bw⟩ := rd_pt (HR.out.new N0) hN rfl hlt2
        have lx0 := Later.cell x0 bw
        have lx1 := Later.cell x1 bw
        have ly0 := Later.cell b0 bl
        have ly1 := Later.cell b1 bl
        have q0 : (0 : Int) ≤ (a : Int) := by omega
        have q1 : (a : Int) < (zs.length : Int) := by omega
        have HT3 := Lib.hid (thr_at (p := p) hlt2)
        by_cases h0 : zs[a].1 = p.1
        · by_cases h1 : zs[a].2 = p.2
          · have HT2 := Lib.hid (show (zs[a].1 == p.1 && zs[a].2 == p.2) = true by simp [h0, h1])
            have g0 : (zs[a].1 == p.1) = true := by simp [h0]
            have g1 : (zs[a].2 == p.2) = true := by simp [h1]
            clear h0 h1
            go_upto_region 8 with fail
            (refine wp_region_later (by kernel_rfl) (by kernel_rfl) ?_; (repeat (go_big_quiet_step (fail))); refine wpQuiet_nil ?_; intro wq hw'; obtain ⟨⟨wz, nq⟩, hwz⟩ := hw'; have hwz' : wq = wz := hwz; subst hwz'; clear hwz)
            go_wp2
            go_ret
            exact ⟨by rw [HT.out, HT3.out, HT2.out] <;> rfl, (N0.step hN).step nq⟩
          · have HT2 := Lib.hid (show (zs[a].1 == p.1 && zs[a].2 == p.2) = false by simp [h1])
            have g0 : (zs[a].1 == p.1) = true := by simp [h0]
            have g1 : (zs[a].2 == p.2) = false := by simpa using h1
            clear h0 h1
            go_upto_region 8 with fail
            (refine wp_region_later (by kernel_rfl) (by kernel_rfl) ?_; (repeat (go_big_quiet_step (fail))); refine wpQuiet_nil ?_; intro wq hw'; obtain ⟨⟨wz, nq⟩, hwz⟩ := hw'; have hwz' : wq = wz := hwz; subst hwz'; clear hwz)
            go_wp2
            go_ret
            exact ⟨by rw [HT.out, HT3.out, HT2.out] <;> rfl, (N0.step hN).step nq⟩
        · have HT2 := Lib.hid (show (zs[a].1 == p.1 && zs[a].2 == p.2) = false by simp [h0])
          have g0 : (zs[a].1 == p.1) = false := by simpa using h0
          clear h0
          go_upto_region 8 with fail
          (refine wp_region_later (by kernel_rfl) (by kernel_rfl) ?_; (repeat (go_big_quiet_step (fail))); refine wpQuiet_nil ?_; intro wq hw'; obtain ⟨⟨wz, nq⟩, hwz⟩ := hw'; have hwz' : wq = wz := hwz; subst hwz'; clear hwz)
          go_wp2
          go_ret
          exact ⟨by rw [HT.out, HT3.out, HT2.out] <;> rfl, (N0.step hN).step nq⟩
      · have HT2 := Lib.hid (thr_no (p := p) (show zs.length ≤ a by omega))
        have d0 : decide ((a : Int) < (zs.length : Int)) = false := by simp; omega
        have d1 : decide (a < zs.length) = false := by simp; omega
        go_upto_region 8 with fail
        (refine wp_region_later (by kernel_rfl) (by kernel_rfl) ?_; (repeat (go_big_quiet_step (fail))); refine wpQuiet_nil ?_; intro wq hw'; obtain ⟨⟨wz, nq⟩, hwz⟩ := hw'; have hwz' : wq = wz := hwz; subst hwz'; clear hwz)
        go_wp2
        go_ret
        exact ⟨by rw [HT.out, HT2.out] <;> rfl, (N0.step hN).step nq⟩
theorem cmp0_yes {ax ay bx b_y : Int} (h0 : ax = bx) (h1 : ay = b_y) : (cmpP ax ay bx b_y == 0) = true := by
  subst h0; subst h1
  unfold cmpP orI
  rw [cmpI_eq rfl, cmpI_eq rfl]
  simp
theorem cmp0_no {ax ay bx b_y : Int} (h : ¬ (ax = bx ∧ ay = b_y)) : (cmpP ax ay bx b_y == 0) = false := by
  unfold cmpP orI
  rcases (show ay < b_y ∨ b_y < ay ∨ ay = b_y from by omega) with k | k | k
  · rw [cmpI_lt k]; simp
  · rw [cmpI_gt k]; simp
  · rw [cmpI_eq k]
    rcases (show ax < bx ∨ bx < ax ∨ ax = bx from by omega) with j | j | j
    · rw [cmpI_lt j]; simp
    · rw [cmpI_gt j]; simp
    · exact absurd ⟨j, k⟩ h
set_option maxHeartbeats 8000000 in
theorem c_binSearch (lo hi : Nat) (v : Value) (zs : List (Int × Int)) (p : Int × Int) (w : World) (h : Rd w lo hi 2 v zs.length (zs.flatMap ptCells)) (ha : Asc zs) (hl : zs.length ≤ 1000000) :
    Calls Tryd.prog 92 #[v, .agg #[.int .i64 p.1, .int .i64 p.2], .func (.func 91) #[] #[]] w fun e w' => (∃ n : Int, e = .returned (.tuple #[.int .i64 n, .bool (hasB zs p)])) ∧ New w w' := by
  have HR := Lib.hid h
  have HAS := Lib.hid ha
  obtain ⟨_, hm, hh, A, c, rfl, hrd⟩ := h
  have ha' : 0 < zs.length → ∃ b off, A = some ⟨b, off, none⟩ := fun h => by obtain ⟨b, off, e, _⟩ := hrd h; exact ⟨b, off, e⟩
  have HA := Lib.hid ha'
  have N0 : New w (w.alloc (.cells #[.int .i64 p.1, .int .i64 p.2] 55)) := (New.same w).box _
  have B0 : BoxV (w.alloc (.cells #[.int .i64 p.1, .int .i64 p.2] 55)) w.heap.size [.int .i64 p.1, .int .i64 p.2] := .two (by go_simp) (by go_simp) (by go_simp) (by go_simp) (by simp)
  clear hrd ha' ha
  go_enter Tryd.func92, Tryd.ntmps92
  go_wp2
  generalize w.alloc (.cells #[.int .i64 p.1, .int .i64 p.2] 55) = W0 at *
  go_loopw [9, 10] (fun i j wr => ∃ a b : Nat, a ≤ b ∧ b ≤ zs.length ∧ i = .int .i64 a ∧ j = .int .i64 b ∧ Hid (∀ j (hj : j < zs.length), j < a → ltQ zs[j] p = true) ∧ Hid (∀ j (hj : j < zs.length), b ≤ j → ltQ zs[j] p = false) ∧ New W0 wr) (fun i j _ => (intOf j).toNat - (intOf i).toNat)
  case atStart => exact ⟨0, zs.length, Nat.zero_le _, Nat.le_refl _, rfl, rfl, Lib.hid (fun j hj h => by omega), Lib.hid (fun j hj h => by omega), New.same _⟩
  case round =>
    obtain ⟨a, b, hab, hb, rfl, rfl, HJ1, HJ2, hN⟩ := hrel
    have B1 := B0.new hN
    have ⟨⟨b0, b1⟩, _, bl⟩ := B1.at2
    by_cases hlt : a < b
    · obtain ⟨g, off, hAe⟩ := HA.out (by omega)
      subst hAe
      obtain ⟨m, hm1⟩ : ∃ m : Nat, ((a : Int) + b) / 2 = m := ⟨(a + b) / 2, by omega⟩
      have hm2 : a ≤ m ∧ m < b := by omega
      obtain ⟨hm3, hm4⟩ := hm2
      have hml : m < zs.length := by omega
      have q0 : (0 : Int) ≤ (m : Int) := by omega
      have q1 : (m : Int) < (zs.length : Int) := by omega
      obtain ⟨x0, x1, bw⟩ := rd_pt (HR.out.new N0) hN rfl hml
      have lx0 := Later.cell x0 bw
      have lx1 := Later.cell x1 bw
      have ly0 := Later.cell b0 bl
      have ly1 := Later.cell b1 bl
      have C1 := Lib.hid (fun w => c_comparePoints zs[m].1 zs[m].2 p.1 p.2 w)
      have HQ := Lib.hid (show decide (cmpP zs[m].1 zs[m].2 p.1 p.2 < 0) = ltQ zs[m] p from cmpP_neg)
      go_upto_region 5 with fail
      (refine wp_region_later (by kernel_rfl) (by kernel_rfl) ?_; (repeat (go_big_quiet_step ((first | (go_at_call 91; exact later_of (C1.out _)))))); refine wpQuiet_nil ?_; intro wq hw'; obtain ⟨⟨wz, nq⟩, hwz⟩ := hw'; have hwz' : wq = wz := hwz; subst hwz'; clear hwz)
      rw [HQ.out]
      cases hq : ltQ zs[m] p
      · have HN2 := Lib.hid (asc_no HAS.out hml hq)
        go_wp2
        go_roundw
        case rel => exact ⟨a, m, by omega, by omega, rfl, rfl, HJ1, HN2, hN.step nq⟩
        case measure => simp [intOf]; omega
      · have HN2 := Lib.hid (asc_yes HAS.out hml hq)
        go_wp2
        go_roundw
        case rel => exact ⟨m + 1, b, by omega, by omega, by go_num, rfl, HN2, HJ2, hN.step nq⟩
        case measure => simp [intOf]; omega
    · have eab : a = b := by omega
      subst eab
      have HT := Lib.hid (has_at HAS.out hb HJ1.out HJ2.out)
      by_cases hlt2 : a < zs.length
      · obtain ⟨g, off, hAe⟩ := HA.out (by omega)
        subst hAe
        obtain ⟨x0, x1, bw⟩ := rd_pt (HR.out.new N0) hN rfl hlt2
        have lx0 := Later.cell x0 bw
        have lx1 := Later.cell x1 bw
        have ly0 := Later.cell b0 bl
        have ly1 := Later.cell b1 bl
        have q0 : (0 : Int) ≤ (a : Int) := by omega
        have q1 : (a : Int) < (zs.length : Int) := by omega
        have C1 := Lib.hid (fun w => c_comparePoints zs[a].1 zs[a].2 p.1 p.2 w)
        have HT3 := Lib.hid (show thrB zs p a = (cmpP zs[a].1 zs[a].2 p.1 p.2 == 0) by
          rw [thr_at hlt2]
          by_cases h : zs[a].1 = p.1 ∧ zs[a].2 = p.2
          · rw [cmp0_yes h.1 h.2]; simp [h.1, h.2]
          · rw [cmp0_no h]
            cases h3 : (zs[a].1 == p.1 && zs[a].2 == p.2)
            · rfl
            · simp at h3; exact absurd h3 h)
        cases hc : (cmpP zs[a].1 zs[a].2 p.1 p.2 == 0)
        · have HT2 := Lib.hid hc
          go_upto_region 8 with fail
          (refine wp_region_later (by kernel_rfl) (by kernel_rfl) ?_; (repeat (go_big_quiet_step ((first | (go_at_call 91; exact later_of (C1.out _)))))); refine wpQuiet_nil ?_; intro wq hw'; obtain ⟨⟨wz, nq⟩, hwz⟩ := hw'; have hwz' : wq = wz := hwz; subst hwz'; clear hwz)
          go_wp2
          go_ret2
          exact ⟨⟨_, by rw [HT.out, HT3.out, HT2.out] <;> rfl⟩, (N0.step hN).step nq⟩
        · have HT2 := Lib.hid hc
          go_upto_region 8 with fail
          (refine wp_region_later (by kernel_rfl) (by kernel_rfl) ?_; (repeat (go_big_quiet_step ((first | (go_at_call 91; exact later_of (C1.out _)))))); refine wpQuiet_nil ?_; intro wq hw'; obtain ⟨⟨wz, nq⟩, hwz⟩ := hw'; have hwz' : wq = wz := hwz; subst hwz'; clear hwz)
          go_wp2
          go_ret2
          exact ⟨⟨_, by rw [HT.out, HT3.out, HT2.out] <;> rfl⟩, (N0.step hN).step nq⟩
      · have HT2 := Lib.hid (thr_no (p := p) (show zs.length ≤ a by omega))
        have d0 : decide ((a : Int) < (zs.length : Int)) = false := by simp; omega
        have d1 : decide (a < zs.length) = false := by simp; omega
        go_upto_region 8 with fail
        (refine wp_region_later (by kernel_rfl) (by kernel_rfl) ?_; (repeat (go_big_quiet_step (fail))); refine wpQuiet_nil ?_; intro wq hw'; obtain ⟨⟨wz, nq⟩, hwz⟩ := hw'; have hwz' : wq = wz := hwz; subst hwz'; clear hwz)
        go_wp2
        go_ret2
        exact ⟨⟨_, by rw [HT.out, HT2.out] <;> rfl⟩, (N0.step hN).step nq⟩
set_option maxHeartbeats 1000000 in
theorem c_isIn (lo hi : Nat) (v : Value) (zs : List (Int × Int)) (p : Int × Int) (w : World) (h : Rd w lo hi 2 v zs.length (zs.flatMap ptCells)) (ha : Asc zs) (hl : zs.length ≤ 1000000) :
    Calls Tryd.prog 55 #[v, .agg #[.int .i64 p.1, .int .i64 p.2]] w fun e w' => e = .returned (.bool (hasB zs p)) ∧ New w w' := by
  have HR := Lib.hid h
  have N0 : New w (w.alloc (.cells #[.int .i64 p.1, .int .i64 p.2] 55)) := (New.same w).box _
  have HR1 := Lib.hid (h.new N0)
  clear h
  go_enter Tryd.func55, Tryd.ntmps55
  go_wp2_with fail
  refine (c_binSearch lo hi v zs p _ HR1.out ha hl).mono ?_
  rintro e w1 ⟨⟨n, rfl⟩, n1⟩
  go_wp2
  go_ret
  exact ⟨rfl, N0.step n1⟩
end Go.Proofs.YtfnihmmkbnkmnaaDoor
