/- Contracts of the two comparisons of sets. -/
import Derived.Test.YtcikfognbjbniaaSet
import Derived.Test.YtcikfognbjbniaaFind
namespace Go.Proofs.Ytcikfognbjbniaa
open Go.RowKit Go.Deep
set_option linter.unusedVariables false
set_option linter.unusedSimpArgs false

abbrev RdI (w : World) (lo hi : Nat) (v : Value) (zs : List Int) : Prop := Rd w lo hi 1 v zs.length (zs.map (Value.int .i64))
/-- an integer in a list that is read -/
theorem rd_i {w wr : World} {lo hi : Nat} {v : Value} {zs : List Int} (h : RdI w lo hi v zs) (n : New w wr) {b off c : Nat} (hv : v = .slice (some ⟨b, off, none⟩) zs.length c) {k : Nat} (hk : k < zs.length) :
    wr.cell? ⟨b, off + k, none⟩ = some (.int .i64 zs[k]) ∧ b < wr.heap.size := rd_cell h n hv (by omega) (by simp [hk])

set_option maxHeartbeats 4000000 in
theorem c_l00Same (lo hi lo' hi' : Nat) (v u : Value) (xs ys : List Int) (w : World) (h : RdI w lo hi v xs) (h' : RdI w lo' hi' u ys) :
    Calls Try.prog 62 #[v, u] w fun e w' => e = .returned (.bool (eqL xs ys)) ∧ New w w' := by
  have HR := Lib.hid h
  have HS := Lib.hid h'
  obtain ⟨A, c, rfl, hm, ha⟩ := rd_form h
  obtain ⟨A', c', rfl, hm', ha'⟩ := rd_form h'
  have HA := Lib.hid ha
  have HA' := Lib.hid ha'
  clear ha ha' h h'
  by_cases hl : xs.length = ys.length
  · have HL := Lib.hid hl
    have hl1 : xs.length ≤ ys.length := by omega
    have hl2 : ys.length ≤ xs.length := by omega
    have hl3 : ((xs.length : Int) != (ys.length : Int)) = false := by simp [hl]
    clear hl
    go_enter Try.func62, Try.ntmps62
    go_wp2
    go_loopw [5] (fun i wr => ∃ k : Nat, k ≤ xs.length ∧ i = .int .i64 k ∧ Hid (xs.take k = ys.take k) ∧ New w wr) (fun i _ => xs.length - (intOf i).toNat)
    case atStart => exact ⟨0, Nat.zero_le _, rfl, Lib.hid (by simp), New.same _⟩
    case round =>
      obtain ⟨k, hk, rfl, HT, hN⟩ := hrel
      by_cases hlt : k < xs.length
      · obtain ⟨b, off, hAe⟩ := HA.out (by omega)
        subst hAe
        obtain ⟨b', off', hAe'⟩ := HA'.out (by omega)
        subst hAe'
        have hlt' : k < ys.length := by omega
        have p0 : (0 : Int) ≤ (k : Int) := by omega
        have p1 : (k : Int) < (xs.length : Int) := by omega
        have p2 : (k : Int) < (ys.length : Int) := by omega
        obtain ⟨x0, bw⟩ := rd_i HR.out hN rfl hlt
        obtain ⟨y0, bw'⟩ := rd_i HS.out hN rfl hlt'
        have lx0 := Later.cell x0 bw
        have ly0 := Later.cell y0 bw'
        by_cases h0 : xs[k] = ys[k]
        · have g0 : (xs[k] == ys[k]) = true := by simpa using h0
          have G0 : (xs[k] != ys[k]) = false := by simpa using h0
          have HT' := take_more HT.out hlt hlt' h0
          clear h0
          go_upto_region 6 with fail
          (refine wp_region_later (by kernel_rfl) (by kernel_rfl) ?_; (repeat (go_big_quiet_step (fail))); refine wpQuiet_nil ?_; intro wq hw'; obtain ⟨⟨wz, nq⟩, hwz⟩ := hw'; have hwz' : wq = wz := hwz; subst hwz'; clear hwz)
          clear lx0 ly0
          go_wp2
          go_roundw
          case rel => exact ⟨k + 1, by omega, by go_num, HT', hN.step nq⟩
          case measure => simp [intOf]; omega
        · have g0 : (xs[k] == ys[k]) = false := by simpa using h0
          have G0 : (xs[k] != ys[k]) = true := by simpa using h0
          have HE := Lib.hid (eqL_at hlt hlt' h0)
          clear h0
          go_upto_region 6 with fail
          (refine wp_region_later (by kernel_rfl) (by kernel_rfl) ?_; (repeat (go_big_quiet_step (fail))); refine wpQuiet_nil ?_; intro wq hw'; obtain ⟨⟨wz, nq⟩, hwz⟩ := hw'; have hwz' : wq = wz := hwz; subst hwz'; clear hwz)
          clear lx0 ly0
          go_wp2
          go_ret
          exact ⟨ret_bool HE.out.symm, hN.step nq⟩
      · have hk' : k = xs.length := by omega
        subst hk'
        go_wp2
        go_ret
        exact ⟨ret_bool (eqL_all HL.out HT.out).symm, hN⟩
  · have HL := Lib.hid (eqL_len hl)
    have hl3 : ((xs.length : Int) != (ys.length : Int)) = true := by simp; omega
    clear hl
    go_enter Try.func62, Try.ntmps62
    go_wp2
    go_ret
    exact ⟨ret_bool HL.out.symm, New.same _⟩

set_option maxHeartbeats 4000000 in
theorem c_equal_int64 (lo hi lo' hi' : Nat) (v u : Value) (xs ys : List Int) (w : World) (h : RdI w lo hi v xs) (h' : RdI w lo' hi' u ys) :
    Calls Try.prog 69 #[v, u] w fun e w' => e = .returned (.bool (eqL xs ys)) ∧ New w w' := by
  have HR := Lib.hid h
  have HS := Lib.hid h'
  obtain ⟨A, c, rfl, hm, ha⟩ := rd_form h
  obtain ⟨A', c', rfl, hm', ha'⟩ := rd_form h'
  have HA := Lib.hid ha
  have HA' := Lib.hid ha'
  clear ha ha' h h'
  by_cases hl : xs.length = ys.length
  · have HL := Lib.hid hl
    have hl1 : xs.length ≤ ys.length := by omega
    have hl2 : ys.length ≤ xs.length := by omega
    have hl3 : ((xs.length : Int) != (ys.length : Int)) = false := by simp [hl]
    clear hl
    go_enter Try.func69, Try.ntmps69
    go_wp2
    go_loopw [5, 13] (fun _ i wr => ∃ k : Nat, k ≤ xs.length ∧ i = .int .i64 k ∧ Hid (xs.take k = ys.take k) ∧ New w wr) (fun _ i _ => xs.length - (intOf i).toNat)
    case atStart => exact ⟨0, Nat.zero_le _, rfl, Lib.hid (by simp), New.same _⟩
    case round =>
      obtain ⟨k, hk, rfl, HT, hN⟩ := hrel
      by_cases hlt : k < xs.length
      · obtain ⟨b, off, hAe⟩ := HA.out (by omega)
        subst hAe
        obtain ⟨b', off', hAe'⟩ := HA'.out (by omega)
        subst hAe'
        have hlt' : k < ys.length := by omega
        have p0 : (0 : Int) ≤ (k : Int) := by omega
        have p1 : (k : Int) < (xs.length : Int) := by omega
        have p2 : (k : Int) < (ys.length : Int) := by omega
        obtain ⟨x0, bw⟩ := rd_i HR.out hN rfl hlt
        obtain ⟨y0, bw'⟩ := rd_i HS.out hN rfl hlt'
        have lx0 := Later.cell x0 bw
        have ly0 := Later.cell y0 bw'
        by_cases h0 : xs[k] = ys[k]
        · have g0 : (xs[k] == ys[k]) = true := by simpa using h0
          have G0 : (xs[k] != ys[k]) = false := by simpa using h0
          have HT' := take_more HT.out hlt hlt' h0
          clear h0
          go_upto_region 6 with fail
          (refine wp_region_later (by kernel_rfl) (by kernel_rfl) ?_; (repeat (go_big_quiet_step (fail))); refine wpQuiet_nil ?_; intro wq hw'; obtain ⟨⟨wz, nq⟩, hwz⟩ := hw'; have hwz' : wq = wz := hwz; subst hwz'; clear hwz)
          clear lx0 ly0
          go_wp2
          go_roundw
          case rel => exact ⟨k + 1, by omega, by go_num, HT', hN.step nq⟩
          case measure => simp [intOf]; omega
        · have g0 : (xs[k] == ys[k]) = false := by simpa using h0
          have G0 : (xs[k] != ys[k]) = true := by simpa using h0
          have HE := Lib.hid (eqL_at hlt hlt' h0)
          clear h0
          go_upto_region 6 with fail
          (refine wp_region_later (by kernel_rfl) (by kernel_rfl) ?_; (repeat (go_big_quiet_step (fail))); refine wpQuiet_nil ?_; intro wq hw'; obtain ⟨⟨wz, nq⟩, hwz⟩ := hw'; have hwz' : wq = wz := hwz; subst hwz'; clear hwz)
          clear lx0 ly0
          go_wp2
          go_ret
          exact ⟨ret_bool HE.out.symm, hN.step nq⟩
      · have hk' : k = xs.length := by omega
        subst hk'
        go_wp2
        go_ret
        exact ⟨ret_bool (eqL_all HL.out HT.out).symm, hN⟩
  · have HL := Lib.hid (eqL_len hl)
    have hl3 : ((xs.length : Int) != (ys.length : Int)) = true := by simp; omega
    clear hl
    go_enter Try.func69, Try.ntmps69
    go_wp2
    go_ret
    exact ⟨ret_bool HL.out.symm, New.same _⟩

set_option maxHeartbeats 4000000 in
theorem c_equal_Glue (lo hi lo' hi' : Nat) (v u : Value) (xs ys : List (ByteArray × Int)) (w : World) (h : RdG w lo hi v xs) (h' : RdG w lo' hi' u ys) :
    Calls Try.prog 72 #[v, u] w fun e w' => e = .returned (.bool (eqL xs ys)) ∧ New w w' := by
  have HR := Lib.hid h
  have HS := Lib.hid h'
  obtain ⟨A, c, rfl, hm, ha⟩ := rd_form h
  obtain ⟨A', c', rfl, hm', ha'⟩ := rd_form h'
  have HA := Lib.hid ha
  have HA' := Lib.hid ha'
  clear ha ha' h h'
  by_cases hl : xs.length = ys.length
  · have HL := Lib.hid hl
    have hl1 : xs.length ≤ ys.length := by omega
    have hl2 : ys.length ≤ xs.length := by omega
    have hl3 : ((xs.length : Int) != (ys.length : Int)) = false := by simp [hl]
    clear hl
    go_enter Try.func72, Try.ntmps72
    go_wp2
    go_loopw [5, 13] (fun _ i wr => ∃ k : Nat, k ≤ xs.length ∧ i = .int .i64 k ∧ Hid (xs.take k = ys.take k) ∧ New w wr) (fun _ i _ => xs.length - (intOf i).toNat)
    case atStart => exact ⟨0, Nat.zero_le _, rfl, Lib.hid (by simp), New.same _⟩
    case round =>
      obtain ⟨k, hk, rfl, HT, hN⟩ := hrel
      by_cases hlt : k < xs.length
      · obtain ⟨b, off, hAe⟩ := HA.out (by omega)
        subst hAe
        obtain ⟨b', off', hAe'⟩ := HA'.out (by omega)
        subst hAe'
        have hlt' : k < ys.length := by omega
        have p0 : (0 : Int) ≤ (k : Int) := by omega
        have p1 : (k : Int) < (xs.length : Int) := by omega
        have p2 : (k : Int) < (ys.length : Int) := by omega
        obtain ⟨⟨x0, x1⟩, bw⟩ := rd_gl HR.out hN rfl hlt
        obtain ⟨⟨y0, y1⟩, bw'⟩ := rd_gl HS.out hN rfl hlt'
        have lx0 := Later.cell x0 bw
        have lx1 := Later.cell x1 bw
        have ly0 := Later.cell y0 bw'
        have ly1 := Later.cell y1 bw'
        by_cases h0 : xs[k].1 = ys[k].1
        · have g0 := sEq_yes h0
          by_cases h1 : xs[k].2 = ys[k].2
          · have g1 : (xs[k].2 == ys[k].2) = true := by simpa using h1
            have G1 : (xs[k].2 != ys[k].2) = false := by simpa using h1
            have HT' := take_more HT.out hlt hlt' (show xs[k] = ys[k] from Prod.ext h0 h1)
            clear h0 h1
            go_upto_region 6 with fail
            (refine wp_region_later (by kernel_rfl) (by kernel_rfl) ?_; (repeat (go_big_quiet_step (fail))); refine wpQuiet_nil ?_; intro wq hw'; obtain ⟨⟨wz, nq⟩, hwz⟩ := hw'; have hwz' : wq = wz := hwz; subst hwz'; clear hwz)
            clear lx0 lx1 ly0 ly1
            go_wp2
            go_roundw
            case rel => exact ⟨k + 1, by omega, by go_num, HT', hN.step nq⟩
            case measure => simp [intOf]; omega
          · have g1 : (xs[k].2 == ys[k].2) = false := by simpa using h1
            have G1 : (xs[k].2 != ys[k].2) = true := by simpa using h1
            have HE := Lib.hid (eqL_at hlt hlt' (show xs[k] ≠ ys[k] from fun e => h1 (by rw [e])))
            clear h0 h1
            go_upto_region 6 with fail
            (refine wp_region_later (by kernel_rfl) (by kernel_rfl) ?_; (repeat (go_big_quiet_step (fail))); refine wpQuiet_nil ?_; intro wq hw'; obtain ⟨⟨wz, nq⟩, hwz⟩ := hw'; have hwz' : wq = wz := hwz; subst hwz'; clear hwz)
            clear lx0 lx1 ly0 ly1
            go_wp2
            go_ret
            exact ⟨ret_bool HE.out.symm, hN.step nq⟩
        · have g0 := sEq_no h0
          have HE := Lib.hid (eqL_at hlt hlt' (show xs[k] ≠ ys[k] from fun e => h0 (by rw [e])))
          clear h0
          go_upto_region 6 with fail
          (refine wp_region_later (by kernel_rfl) (by kernel_rfl) ?_; (repeat (go_big_quiet_step (fail))); refine wpQuiet_nil ?_; intro wq hw'; obtain ⟨⟨wz, nq⟩, hwz⟩ := hw'; have hwz' : wq = wz := hwz; subst hwz'; clear hwz)
          clear lx0 lx1 ly0 ly1
          go_wp2
          go_ret
          exact ⟨ret_bool HE.out.symm, hN.step nq⟩
      · have hk' : k = xs.length := by omega
        subst hk'
        go_wp2
        go_ret
        exact ⟨ret_bool (eqL_all HL.out HT.out).symm, hN⟩
  · have HL := Lib.hid (eqL_len hl)
    have hl3 : ((xs.length : Int) != (ys.length : Int)) = true := by simp; omega
    clear hl
    go_enter Try.func72, Try.ntmps72
    go_wp2
    go_ret
    exact ⟨ret_bool HL.out.symm, New.same _⟩

set_option maxHeartbeats 1000000 in
theorem c_sameTile (lo hi lo' hi' : Nat) (v u : Value) (g q : ByteArray × List Int) (w : World) (h : RdI w lo hi v g.2) (h' : RdI w lo' hi' u q.2) :
    Calls Try.prog 74 #[.agg #[.string g.1, v], .agg #[.string q.1, u]] w fun e w' => e = .returned (.bool (decide (g = q))) ∧ New w w' := by
  have HR := Lib.hid h
  have HS := Lib.hid h'
  obtain ⟨A, c, rfl, _, _⟩ := rd_form h
  obtain ⟨A', c', rfl, _, _⟩ := rd_form h'
  clear h h'
  have n0 : New w ((w.alloc (.cells #[.string g.1, .slice A g.2.length c] 99)).alloc (.cells #[.string q.1, .slice A' q.2.length c'] 99)) := ((New.same w).box _).box _
  by_cases h0 : g.1 = q.1
  · have b0 := sEq_yes h0
    cases h1 : eqL g.2 q.2
    · have E := Lib.hid (show decide (g = q) = false from decide_eq_false (fun e => by rw [e, eqL_self] at h1; cases h1))
      clear h0
      have H1 := Lib.hid h1
      clear h1
      go_enter Try.func74, Try.ntmps74
      go_wp2_with (go_at_call 69; refine (c_equal_int64 _ _ _ _ _ _ g.2 q.2 _ (HR.out.new n0) (HS.out.new n0)).mono ?_; rintro e w1 ⟨rfl, n1⟩; rw [H1.out])
      go_ret
      exact ⟨ret_bool E.out.symm, n0.step n1⟩
    · have E := Lib.hid (show decide (g = q) = true from decide_eq_true (Prod.ext h0 (of_decide_eq_true h1)))
      clear h0
      have H1 := Lib.hid h1
      clear h1
      go_enter Try.func74, Try.ntmps74
      go_wp2_with (go_at_call 69; refine (c_equal_int64 _ _ _ _ _ _ g.2 q.2 _ (HR.out.new n0) (HS.out.new n0)).mono ?_; rintro e w1 ⟨rfl, n1⟩; rw [H1.out])
      go_ret
      exact ⟨ret_bool E.out.symm, n0.step n1⟩
  · have E := Lib.hid (show decide (g = q) = false from decide_eq_false (fun e => h0 (by rw [e])))
    have b0 := sEq_no h0
    clear h0
    go_enter Try.func74, Try.ntmps74
    go_wp2
    go_ret
    exact ⟨ret_bool E.out.symm, n0⟩

theorem enters_sameTile : EntersIt Try.prog 74 := enters_of Try.func74 (by kernel_rfl) rfl
set_option maxHeartbeats 4000000 in
theorem c_equalFunc_Tile (lo hi lo' hi' : Nat) (v u : Value) (xs ys : List (ByteArray × List Int)) (w : World) (sv sv' : List Value) (h : RdT w lo hi v xs sv) (h' : RdT w lo' hi' u ys sv') :
    Calls Try.prog 73 #[v, u, .func (.func 74) #[] #[]] w fun e w' => e = .returned (.bool (eqL xs ys)) ∧ New w w' := by
  have HR := Lib.hid h
  have HS := Lib.hid h'
  have eg := enters_sameTile
  unfold EntersIt at eg
  obtain ⟨A, c, rfl, hm, ha⟩ := rd_form h.outer
  obtain ⟨A', c', rfl, hm', ha'⟩ := rd_form h'.outer
  have HA := Lib.hid ha
  have HA' := Lib.hid ha'
  clear ha ha' h h'
  by_cases hl : xs.length = ys.length
  · have HL := Lib.hid hl
    have hl1 : xs.length ≤ ys.length := by omega
    have hl2 : ys.length ≤ xs.length := by omega
    have hl3 : ((xs.length : Int) != (ys.length : Int)) = false := by simp [hl]
    clear hl
    go_enter Try.func73, Try.ntmps73
    go_wp2
    go_loopw [7, 8, 9, 17] (fun _ _ _ i wr => ∃ k : Nat, k ≤ xs.length ∧ i = .int .i64 k ∧ Hid (xs.take k = ys.take k) ∧ New w wr) (fun _ _ _ i _ => xs.length - (intOf i).toNat)
    case atStart => exact ⟨0, Nat.zero_le _, rfl, Lib.hid (by simp), New.same _⟩
    case round =>
      obtain ⟨k, hk, rfl, HT, hN⟩ := hrel
      by_cases hlt : k < xs.length
      · obtain ⟨b, off, hAe⟩ := HA.out (by omega)
        subst hAe
        obtain ⟨b', off', hAe'⟩ := HA'.out (by omega)
        subst hAe'
        have hlt' : k < ys.length := by omega
        have p0 : (0 : Int) ≤ (k : Int) := by omega
        have p1 : (k : Int) < (xs.length : Int) := by omega
        have p2 : (k : Int) < (ys.length : Int) := by omega
        obtain ⟨Ax, mx, ⟨x0, x1⟩, bw, rx, _⟩ := rd_tl HR.out hN rfl hlt
        obtain ⟨Ay, my, ⟨y0, y1⟩, bw', ry, _⟩ := rd_tl HS.out hN rfl hlt'
        have n7 : New wr ((wr.alloc (.cells #[.string xs[k].1, .slice Ax xs[k].2.length mx] 99)).alloc (.cells #[.string ys[k].1, .slice Ay ys[k].2.length my] 99)) := ((New.same wr).box _).box _
        by_cases he : xs[k] = ys[k]
        · have HT' := take_more HT.out hlt hlt' he
          have C1 := Lib.hid ((decide_eq_true he) ▸ c_sameTile _ _ _ _ _ _ xs[k] ys[k] _ (rx.new n7) (ry.new n7))
          clear he
          go_wp2_with (go_at_call 74; refine (C1.out).mono ?_; rintro e w1 ⟨rfl, n1⟩)
          go_roundw
          case rel => exact ⟨k + 1, by omega, by go_num, HT', (hN.step n7).step n1⟩
          case measure => simp [intOf]; omega
        · have HE := Lib.hid (eqL_at hlt hlt' he)
          have C1 := Lib.hid ((decide_eq_false he) ▸ c_sameTile _ _ _ _ _ _ xs[k] ys[k] _ (rx.new n7) (ry.new n7))
          clear he
          go_wp2_with (go_at_call 74; refine (C1.out).mono ?_; rintro e w1 ⟨rfl, n1⟩)
          go_ret
          exact ⟨ret_bool HE.out.symm, (hN.step n7).step n1⟩
      · have hk' : k = xs.length := by omega
        subst hk'
        go_wp2
        go_ret
        exact ⟨ret_bool (eqL_all HL.out HT.out).symm, hN⟩
  · have HL := Lib.hid (eqL_len hl)
    have hl3 : ((xs.length : Int) != (ys.length : Int)) = true := by simp; omega
    clear hl
    go_enter Try.func73, Try.ntmps73
    go_wp2
    go_ret
    exact ⟨ret_bool HL.out.symm, New.same _⟩

set_option maxHeartbeats 1000000 in
theorem c_implSameSet (lo hi lo' hi' : Nat) (gv tv gu tu : Value) (G G' : List (ByteArray × Int)) (T T' : List (ByteArray × List Int)) (sv sv' : List Value) (w : World) (h : RdS w lo hi gv tv G T sv) (h' : RdS w lo' hi' gu tu G' T' sv') :
    Calls Try.prog 36 #[.agg #[gv, tv], .agg #[gu, tu]] w fun e w' => e = .returned (.bool (eqL G G' && eqL T T')) ∧ New w w' := by
  obtain ⟨A, c, B, d, rfl, rfl⟩ := h.form
  obtain ⟨A', c', B', d', rfl, rfl⟩ := h'.form
  have HH := Lib.hid h
  have HK := Lib.hid h'
  clear h h'
  have n0 : New w ((w.alloc (.cells #[.slice A G.length c, .slice B T.length d] 36)).alloc (.cells #[.slice A' G'.length c', .slice B' T'.length d'] 36)) := ((New.same w).box _).box _
  have B0 : BoxV ((w.alloc (.cells #[.slice A G.length c, .slice B T.length d] 36)).alloc (.cells #[.slice A' G'.length c', .slice B' T'.length d'] 36)) w.heap.size [.slice A G.length c, .slice B T.length d] := .two (by go_simp) (by go_simp) (by go_simp) (by go_simp) (by simp; omega)
  have B1 : BoxV ((w.alloc (.cells #[.slice A G.length c, .slice B T.length d] 36)).alloc (.cells #[.slice A' G'.length c', .slice B' T'.length d'] 36)) (w.heap.size + 1) [.slice A' G'.length c', .slice B' T'.length d'] := .two (by go_simp) (by go_simp) (by go_simp) (by go_simp) (by simp)
  cases hg : eqL G G'
  · have HG := Lib.hid hg
    clear hg
    go_enter Try.func36, Try.ntmps36
    go_wp2_with fail
    generalize ((w.alloc (.cells #[.slice A G.length c, .slice B T.length d] 36)).alloc (.cells #[.slice A' G'.length c', .slice B' T'.length d'] 36)) = W0 at *
    refine (c_equal_Glue _ _ _ _ _ _ G G' _ (HH.out.glues.new n0) (HK.out.glues.new n0)).mono ?_
    rintro e w1 ⟨rfl, n1⟩
    rw [HG.out]
    go_wp2
    go_ret
    exact ⟨rfl, n0.step n1⟩
  · have HG := Lib.hid hg
    clear hg
    go_enter Try.func36, Try.ntmps36
    go_wp2_with fail
    generalize ((w.alloc (.cells #[.slice A G.length c, .slice B T.length d] 36)).alloc (.cells #[.slice A' G'.length c', .slice B' T'.length d'] 36)) = W0 at *
    refine (c_equal_Glue _ _ _ _ _ _ G G' _ (HH.out.glues.new n0) (HK.out.glues.new n0)).mono ?_
    rintro e w1 ⟨rfl, n1⟩
    rw [HG.out]
    obtain ⟨⟨x0, y0⟩, _, l0⟩ := (B0.new n1).at2
    obtain ⟨⟨x1, y1⟩, _, l1⟩ := (B1.new n1).at2
    go_wp2_with fail
    refine (c_equalFunc_Tile _ _ _ _ _ _ T T' _ sv sv' (HH.out.tiles.new (n0.step n1)) (HK.out.tiles.new (n0.step n1))).mono ?_
    rintro e w2 ⟨rfl, n2⟩
    go_wp2
    go_ret
    exact ⟨by simp, (n0.step n1).step n2⟩

set_option maxRecDepth 20000 in
set_option maxHeartbeats 8000000 in
theorem c_l02Same (b0 b1 lo hi lo' hi' : Nat) (gv tv gu tu : Value) (xs ys : List (ByteArray × Int)) (T T' : List (ByteArray × List Int)) (sv sv' : List Value) (w : World) (B0 : BoxV w b0 [gv, tv]) (B1 : BoxV w b1 [gu, tu]) (h : RdS w lo hi gv tv xs T sv) (h' : RdS w lo' hi' gu tu ys T' sv') :
    Calls Try.prog 34 #[.pointer (some ⟨b0, 0, none⟩), .pointer (some ⟨b1, 0, none⟩)] w fun e w' => e = .returned (.bool (eqL xs ys && eqL T T')) ∧ New w w' := by
  have HR := Lib.hid h.glues
  have HS := Lib.hid h'.glues
  have KR := Lib.hid h.tiles
  have KS := Lib.hid h'.tiles
  obtain ⟨A, c, rfl, hm, ha⟩ := rd_form h.glues
  obtain ⟨A', c', rfl, hm', ha'⟩ := rd_form h'.glues
  obtain ⟨B, d, rfl, hn, hb⟩ := rd_form h.tiles.outer
  obtain ⟨B', d', rfl, hn', hb'⟩ := rd_form h'.tiles.outer
  have HA := Lib.hid ha
  have HA' := Lib.hid ha'
  have KA := Lib.hid hb
  have KA' := Lib.hid hb'
  have ⟨⟨bx0, by0⟩, _, bl0⟩ := B0.at2
  have ⟨⟨bx1, by1⟩, _, bl1⟩ := B1.at2
  have lb0 := Later.cell bx0 bl0
  have lb1 := Later.cell bx1 bl1
  have lc0 := Later.cell by0 bl0
  have lc1 := Later.cell by1 bl1
  clear ha ha' hb hb' h h' bx0 by0 bx1 by1
  by_cases hl : xs.length = ys.length
  · have HL := Lib.hid hl
    have hl1 : xs.length ≤ ys.length := by omega
    have hl2 : ys.length ≤ xs.length := by omega
    have hl3 : ((xs.length : Int) != (ys.length : Int)) = false := by simp [hl]
    clear hl
    by_cases ht : T.length = T'.length
    · have KL := Lib.hid ht
      have ht1 : T.length ≤ T'.length := by omega
      have ht2 : T'.length ≤ T.length := by omega
      have ht3 : ((T.length : Int) != (T'.length : Int)) = false := by simp [ht]
      clear ht
      go_enter Try.func34, Try.ntmps34
      go_upto_region 1 with fail
      (refine wp_region_later (by kernel_rfl) (by kernel_rfl) ?_; (repeat (go_big_quiet_step (fail))); refine wpQuiet_nil ?_; intro wq hw'; obtain ⟨⟨wz, nq⟩, hwz⟩ := hw'; have hwz' : wq = wz := hwz; subst hwz'; clear hwz)
      clear lb0 lb1 lc0 lc1
      go_wp2_with fail
      go_loopw [5] (fun i wr => ∃ k : Nat, k ≤ xs.length ∧ i = .int .i64 k ∧ Hid (xs.take k = ys.take k) ∧ New w wr) (fun i _ => xs.length - (intOf i).toNat)
      case atStart => exact ⟨0, Nat.zero_le _, rfl, Lib.hid (by simp), nq⟩
      case round =>
        obtain ⟨k, hk, rfl, HT, hN⟩ := hrel
        have ⟨⟨bx0, by0⟩, _, bl0⟩ := (B0.new hN).at2
        have ⟨⟨bx1, by1⟩, _, bl1⟩ := (B1.new hN).at2
        by_cases hlt : k < xs.length
        · obtain ⟨b, off, hAe⟩ := HA.out (by omega)
          subst hAe
          obtain ⟨b', off', hAe'⟩ := HA'.out (by omega)
          subst hAe'
          have hlt' : k < ys.length := by omega
          have p0 : (0 : Int) ≤ (k : Int) := by omega
          have p1 : (k : Int) < (xs.length : Int) := by omega
          have p2 : (k : Int) < (ys.length : Int) := by omega
          obtain ⟨⟨x0, x1⟩, bw⟩ := rd_gl HR.out hN rfl hlt
          obtain ⟨⟨y0, y1⟩, bw'⟩ := rd_gl HS.out hN rfl hlt'
          have lx0 := Later.cell x0 bw
          have lx1 := Later.cell x1 bw
          have ly0 := Later.cell y0 bw'
          have ly1 := Later.cell y1 bw'
          have lb0 := Later.cell bx0 bl0
          have lb1 := Later.cell bx1 bl1
          by_cases h0 : xs[k].1 = ys[k].1
          · have g0 := sEq_yes h0
            by_cases h1 : xs[k].2 = ys[k].2
            · have g1 : (xs[k].2 == ys[k].2) = true := by simpa using h1
              have G1 : (xs[k].2 != ys[k].2) = false := by simpa using h1
              have HT' := take_more HT.out hlt hlt' (show xs[k] = ys[k] from Prod.ext h0 h1)
              clear h0 h1
              go_upto_region 6 with fail
              (refine wp_region_later (by kernel_rfl) (by kernel_rfl) ?_; (repeat (go_big_quiet_step (fail))); refine wpQuiet_nil ?_; intro wq hw'; obtain ⟨⟨wz, nq⟩, hwz⟩ := hw'; have hwz' : wq = wz := hwz; subst hwz'; clear hwz)
              clear lx0 lx1 ly0 ly1 lb0 lb1
              go_wp2
              go_roundw
              case rel => exact ⟨k + 1, by omega, by go_num, HT', hN.step nq⟩
              case measure => simp [intOf]; omega
            · have g1 : (xs[k].2 == ys[k].2) = false := by simpa using h1
              have G1 : (xs[k].2 != ys[k].2) = true := by simpa using h1
              have HE := Lib.hid (eqL_at hlt hlt' (show xs[k] ≠ ys[k] from fun e => h1 (by rw [e])))
              clear h0 h1
              go_upto_region 6 with fail
              (refine wp_region_later (by kernel_rfl) (by kernel_rfl) ?_; (repeat (go_big_quiet_step (fail))); refine wpQuiet_nil ?_; intro wq hw'; obtain ⟨⟨wz, nq⟩, hwz⟩ := hw'; have hwz' : wq = wz := hwz; subst hwz'; clear hwz)
              clear lx0 lx1 ly0 ly1 lb0 lb1
              go_wp2
              go_ret
              exact ⟨ret_bool (by rw [HE.out]; rfl), hN.step nq⟩
          · have g0 := sEq_no h0
            have HE := Lib.hid (eqL_at hlt hlt' (show xs[k] ≠ ys[k] from fun e => h0 (by rw [e])))
            clear h0
            go_upto_region 6 with fail
            (refine wp_region_later (by kernel_rfl) (by kernel_rfl) ?_; (repeat (go_big_quiet_step (fail))); refine wpQuiet_nil ?_; intro wq hw'; obtain ⟨⟨wz, nq⟩, hwz⟩ := hw'; have hwz' : wq = wz := hwz; subst hwz'; clear hwz)
            clear lx0 lx1 ly0 ly1 lb0 lb1
            go_wp2
            go_ret
            exact ⟨ret_bool (by rw [HE.out]; rfl), hN.step nq⟩
        · have hk' : k = xs.length := by omega
          subst hk'
          have HG := Lib.hid (eqL_all HL.out HT.out)
          clear HT
          go_wp2_with fail
          go_loopw [6] (fun i wq => ∃ k : Nat, k ≤ T.length ∧ i = .int .i64 k ∧ Hid (T.take k = T'.take k) ∧ New w wq) (fun i _ => T.length - (intOf i).toNat)
          case atStart => exact ⟨0, Nat.zero_le _, rfl, Lib.hid (by simp), hN⟩
          case round =>
            obtain ⟨k, hk, rfl, HT, hM⟩ := hrel
            clear bx0 by0 bl0 bx1 by1 bl1
            have ⟨⟨bx0, by0⟩, _, bl0⟩ := (B0.new hM).at2
            have ⟨⟨bx1, by1⟩, _, bl1⟩ := (B1.new hM).at2
            by_cases hlt : k < T.length
            · obtain ⟨b, off, hAe⟩ := KA.out (by omega)
              subst hAe
              obtain ⟨b', off', hAe'⟩ := KA'.out (by omega)
              subst hAe'
              have hlt' : k < T'.length := by omega
              have p0 : (0 : Int) ≤ (k : Int) := by omega
              have p1 : (k : Int) < (T.length : Int) := by omega
              have p2 : (k : Int) < (T'.length : Int) := by omega
              obtain ⟨Ax, mx, ⟨x0, x1⟩, bw, rx, _⟩ := rd_tl KR.out hM rfl hlt
              obtain ⟨Ay, my, ⟨y0, y1⟩, bw', ry, _⟩ := rd_tl KS.out hM rfl hlt'
              have lx0 := Later.cell x0 bw
              have lx1 := Later.cell x1 bw
              have ly0 := Later.cell y0 bw'
              have ly1 := Later.cell y1 bw'
              have lc0 := Later.cell by0 bl0
              have lc1 := Later.cell by1 bl1
              by_cases h0 : T[k].1 = T'[k].1
              · have g0 := sEq_yes h0
                by_cases h1 : T[k].2 = T'[k].2
                · have HT' := take_more HT.out hlt hlt' (show T[k] = T'[k] from Prod.ext h0 h1)
                  have C1 := Lib.hid (fun (t : Later wr) => (show eqL T[k].2 T'[k].2 = true from decide_eq_true h1) ▸ c_l00Same _ _ _ _ _ _ T[k].2 T'[k].2 t.w (rx.new t.new) (ry.new t.new))
                  clear h0 h1
                  go_upto_region 11 with fail
                  (refine wp_region_later (by kernel_rfl) (by kernel_rfl) ?_; (repeat (go_big_quiet_step ((first | (go_at_call 62; exact later_of (C1.out _)))))); refine wpQuiet_nil ?_; intro wq hw'; obtain ⟨⟨wz, nq⟩, hwz⟩ := hw'; have hwz' : wq = wz := hwz; subst hwz'; clear hwz)
                  clear lx0 lx1 ly0 ly1 lc0 lc1
                  go_wp2
                  go_roundw
                  case rel => exact ⟨k + 1, by omega, by go_num, HT', hM.step nq⟩
                  case measure => simp [intOf]; omega
                · have HE := Lib.hid (eqL_at hlt hlt' (show T[k] ≠ T'[k] from fun e => h1 (by rw [e])))
                  have C1 := Lib.hid (fun (t : Later wr) => (show eqL T[k].2 T'[k].2 = false from decide_eq_false h1) ▸ c_l00Same _ _ _ _ _ _ T[k].2 T'[k].2 t.w (rx.new t.new) (ry.new t.new))
                  clear h0 h1
                  go_upto_region 11 with fail
                  (refine wp_region_later (by kernel_rfl) (by kernel_rfl) ?_; (repeat (go_big_quiet_step ((first | (go_at_call 62; exact later_of (C1.out _)))))); refine wpQuiet_nil ?_; intro wq hw'; obtain ⟨⟨wz, nq⟩, hwz⟩ := hw'; have hwz' : wq = wz := hwz; subst hwz'; clear hwz)
                  clear lx0 lx1 ly0 ly1 lc0 lc1
                  go_wp2
                  go_ret
                  exact ⟨ret_bool (by rw [HE.out]; simp), hM.step nq⟩
              · have g0 := sEq_no h0
                have HE := Lib.hid (eqL_at hlt hlt' (show T[k] ≠ T'[k] from fun e => h0 (by rw [e])))
                clear h0
                go_upto_region 11 with fail
                (refine wp_region_later (by kernel_rfl) (by kernel_rfl) ?_; (repeat (go_big_quiet_step (fail))); refine wpQuiet_nil ?_; intro wq hw'; obtain ⟨⟨wz, nq⟩, hwz⟩ := hw'; have hwz' : wq = wz := hwz; subst hwz'; clear hwz)
                clear lx0 lx1 ly0 ly1 lc0 lc1
                go_wp2
                go_ret
                exact ⟨ret_bool (by rw [HE.out]; simp), hM.step nq⟩
            · have hk' : k = T.length := by omega
              subst hk'
              go_wp2
              go_ret
              exact ⟨ret_bool (by rw [HG.out, eqL_all KL.out HT.out]; rfl), hM⟩
    · have KL := Lib.hid (eqL_len ht)
      have ht3 : ((T.length : Int) != (T'.length : Int)) = true := by simp; omega
      clear ht
      go_enter Try.func34, Try.ntmps34
      go_upto_region 1 with fail
      (refine wp_region_later (by kernel_rfl) (by kernel_rfl) ?_; (repeat (go_big_quiet_step (fail))); refine wpQuiet_nil ?_; intro wq hw'; obtain ⟨⟨wz, nq⟩, hwz⟩ := hw'; have hwz' : wq = wz := hwz; subst hwz'; clear hwz)
      clear lb0 lb1 lc0 lc1
      go_wp2
      go_ret
      exact ⟨ret_bool (by rw [KL.out]; simp), nq⟩
  · have HL := Lib.hid (eqL_len hl)
    have hl3 : ((xs.length : Int) != (ys.length : Int)) = true := by simp; omega
    clear hl
    go_enter Try.func34, Try.ntmps34
    go_upto_region 1 with fail
    (refine wp_region_later (by kernel_rfl) (by kernel_rfl) ?_; (repeat (go_big_quiet_step (fail))); refine wpQuiet_nil ?_; intro wq hw'; obtain ⟨⟨wz, nq⟩, hwz⟩ := hw'; have hwz' : wq = wz := hwz; subst hwz'; clear hwz)
    clear lb0 lb1 lc0 lc1
    go_wp2
    go_ret
    exact ⟨ret_bool (by rw [HL.out]; rfl), nq⟩


end Go.Proofs.Ytcikfognbjbniaa
