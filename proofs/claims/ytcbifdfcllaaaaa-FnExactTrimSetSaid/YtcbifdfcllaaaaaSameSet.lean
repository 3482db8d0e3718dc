/- Contracts of the two comparisons of sets. -/
import Derived.Test.YtcbifdfcllaaaaaSet
import Derived.Test.YtcbifdfcllaaaaaFind
namespace Go.Proofs.Ytcbifdfcllaaaaa
open Go.RowKit Go.Deep
set_option linter.unusedVariables false
set_option linter.unusedSimpArgs false

abbrev RdI (w : World) (lo hi : Nat) (v : Value) (zs : List Int) : Prop := Rd w lo hi 1 v zs.length (zs.map (Value.int .i64))
/-- an integer in a list that is read -/
theorem rd_i {w wr : World} {lo hi : Nat} {v : Value} {zs : List Int} (h : RdI w lo hi v zs) (n : New w wr) {b off c : Nat} (hv : v = .slice (some ⟨b, off, none⟩) zs.length c) {k : Nat} (hk : k < zs.length) :
    wr.cell? ⟨b, off + k, none⟩ = some (.int .i64 zs[k]) ∧ b < wr.heap.size := rd_cell h n hv (by omega) (by simp [hk])

set_option maxHeartbeats 4000000 in
theorem c_l00Same (lo hi lo' hi' : Nat) (v u : Value) (xs ys : List Int) (w : World) (h : RdI w lo hi v xs) (h' : RdI w lo' hi' u ys) :
    Calls Try.prog 18 #[v, u] w fun e w' => e = .returned (.bool (eqL xs ys)) ∧ New w w' := by
  have HR := Lib.hid h
  have HS := Lib.hid h'
  obtain ⟨A, c, rfl, hm, ha⟩ := rd_form h
  obtain ⟨A', c', rfl, hm', ha'⟩ := rd_form h'
  have HA := Lib.hid ha
  have HA' := Lib.hid ha'
  clear ha ha' h h'
  by_cases hl : xs.length = ys.length
  · have HL := Lib.hid hl
    have hl1 : xs.length ≤ ys.length := by omega
    have hl2 : ys.length ≤ xs.length := by omega
    have hl3 : ((xs.length : Int) != (ys.length : Int)) = false := by simp [hl]
    clear hl
    go_enter Try.func18, Try.ntmps18
    go_wp2
    go_loopw [5] (fun i wr => ∃ k : Nat, k ≤ xs.length ∧ i = .int .i64 k ∧ Hid (xs.take k = ys.take k) ∧ New w wr) (fun i _ => xs.length - (intOf i).toNat)
    case atStart => exact ⟨0, Nat.zero_le _, rfl, Lib.hid (by simp), New.same _⟩
    case round =>
      obtain ⟨k, hk, rfl, HT, hN⟩ := hrel
      by_cases hlt : k < xs.length
      · obtain ⟨b, off, hAe⟩ := HA.out (by omega)
        subst hAe
        obtain ⟨b', off', hAe'⟩ := HA'.out (by omega)
        subst hAe'
        have hlt' : k < ys.length := by omega
        have p0 : (0 : Int) ≤ (k : Int) := by omega
        have p1 : (k : Int) < (xs.length : Int) := by omega
        have p2 : (k : Int) < (ys.length : Int) := by omega
        obtain ⟨x0, bw⟩ := rd_i HR.out hN rfl hlt
        obtain ⟨y0, bw'⟩ := rd_i HS.out hN rfl hlt'
        have lx0 := Later.cell x0 bw
        have ly0 := Later.cell y0 bw'
        by_cases h0 : xs[k] = ys[k]
        · have g0 : (xs[k] == ys[k]) = true := by simpa using h0
          have G0 : (xs[k] != ys[k]) = false := by simpa using h0
          have HT' := take_more HT.out hlt hlt' h0
          clear h0
          go_upto_region 6 with fail
          (refine wp_region_later (by kernel_rfl) (by kernel_rfl) ?_; (repeat (go_big_quiet_step (fail))); refine wpQuiet_nil ?_; intro wq hw'; obtain ⟨⟨wz, nq⟩, hwz⟩ := hw'; have hwz' : wq = wz := hwz; subst hwz'; clear hwz)
          clear lx0 ly0
          go_wp2
          go_roundw
          case rel => exact ⟨k + 1, by omega, by go_num, HT', hN.step nq⟩
          case measure => simp [intOf]; omega
        · have g0 : (xs[k] == ys[k]) = false := by simpa using h0
          have G0 : (xs[k] != ys[k]) = true := by simpa using h0
          have HE := Lib.hid (eqL_at hlt hlt' h0)
          clear h0
          go_upto_region 6 with fail
          (refine wp_region_later (by kernel_rfl) (by kernel_rfl) ?_; (repeat (go_big_quiet_step (fail))); refine wpQuiet_nil ?_; intro wq hw'; obtain ⟨⟨wz, nq⟩, hwz⟩ := hw'; have hwz' : wq = wz := hwz; subst hwz'; clear hwz)
          clear lx0 ly0
          go_wp2
          go_ret
          exact ⟨ret_bool HE.out.symm, hN.step nq⟩
      · have hk' : k = xs.length := by omega
        subst hk'
        go_wp2
        go_ret
        exact ⟨ret_bool (eqL_all HL.out HT.out).symm, hN⟩
  · have HL := Lib.hid (eqL_len hl)
    have hl3 : ((xs.length : Int) != (ys.length : Int)) = true := by simp; omega
    clear hl
    go_enter Try.func18, Try.ntmps18
    go_wp2
    go_ret
    exact ⟨ret_bool HL.out.symm, New.same _⟩

set_option maxHeartbeats 4000000 in
theorem c_equal_int64 (lo hi lo' hi' : Nat) (v u : Value) (xs ys : List Int) (w : World) (h : RdI w lo hi v xs) (h' : RdI w lo' hi' u ys) :
    Calls Try.prog 28 #[v, u] w fun e w' => e = .returned (.bool (eqL xs ys)) ∧ New w w' := by
  have HR := Lib.hid h
  have HS := Lib.hid h'
  obtain ⟨A, c, rfl, hm, ha⟩ := rd_form h
  obtain ⟨A', c', rfl, hm', ha'⟩ := rd_form h'
  have HA := Lib.hid ha
  have HA' := Lib.hid ha'
  clear ha ha' h h'
  by_cases hl : xs.length = ys.length
  · have HL := Lib.hid hl
    have hl1 : xs.length ≤ ys.length := by omega
    have hl2 : ys.length ≤ xs.length := by omega
    have hl3 : ((xs.length : Int) != (ys.length : Int)) = false := by simp [hl]
    clear hl
    go_enter Try.func28, Try.ntmps28
    go_wp2
    go_loopw [5, 13] (fun _ i wr => ∃ k : Nat, k ≤ xs.length ∧ i = .int .i64 k ∧ Hid (xs.take k = ys.take k) ∧ New w wr) (fun _ i _ => xs.length - (intOf i).toNat)
    case atStart => exact ⟨0, Nat.zero_le _, rfl, Lib.hid (by simp), New.same _⟩
    case round =>
      obtain ⟨k, hk, rfl, HT, hN⟩ := hrel
      by_cases hlt : k < xs.length
      · obtain ⟨b, off, hAe⟩ := HA.out (by omega)
        subst hAe
        obtain ⟨b', off', hAe'⟩ := HA'.out (by omega)
        subst hAe'
        have hlt' : k < ys.length := by omega
        have p0 : (0 : Int) ≤ (k : Int) := by omega
        have p1 : (k : Int) < (xs.length : Int) := by omega
        have p2 : (k : Int) < (ys.length : Int) := by omega
        obtain ⟨x0, bw⟩ := rd_i HR.out hN rfl hlt
        obtain ⟨y0, bw'⟩ := rd_i HS.out hN rfl hlt'
        have lx0 := Later.cell x0 bw
        have ly0 := Later.cell y0 bw'
        by_cases h0 : xs[k] = ys[k]
        · have g0 : (xs[k] == ys[k]) = true := by simpa using h0
          have G0 : (xs[k] != ys[k]) = false := by simpa using h0
          have HT' := take_more HT.out hlt hlt' h0
          clear h0
          go_upto_region 6 with fail
          (refine wp_region_later (by kernel_rfl) (by kernel_rfl) ?_; (repeat (go_big_quiet_step (fail))); refine wpQuiet_nil ?_; intro wq hw'; obtain ⟨⟨wz, nq⟩, hwz⟩ := hw'; have hwz' : wq = wz := hwz; subst hwz'; clear hwz)
          clear lx0 ly0
          go_wp2
          go_roundw
          case rel => exact ⟨k + 1, by omega, by go_num, HT', hN.step nq⟩
          case measure => simp [intOf]; omega
        · have g0 : (xs[k] == ys[k]) = false := by simpa using h0
          have G0 : (xs[k] != ys[k]) = true := by simpa using h0
          have HE := Lib.hid (eqL_at hlt hlt' h0)
          clear h0
          go_upto_region 6 with fail
          (refine wp_region_later (by kernel_rfl) (by kernel_rfl) ?_; (repeat (go_big_quiet_step (fail))); refine wpQuiet_nil ?_; intro wq hw'; obtain ⟨⟨wz, nq⟩, hwz⟩ := hw'; have hwz' : wq = wz := hwz; subst hwz'; clear hwz)
          clear lx0 ly0
          go_wp2
          go_ret
          exact ⟨ret_bool HE.out.symm, hN.step nq⟩
      · have hk' : k = xs.length := by omega
        subst hk'
        go_wp2
        go_ret
        exact ⟨ret_bool (eqL_all HL.out HT.out).symm, hN⟩
  · have HL := Lib.hid (eqL_len hl)
    have hl3 : ((xs.length : Int) != (ys.length : Int)) = true := by simp; omega
    clear hl
    go_enter Try.func28, Try.ntmps28
    go_wp2
    go_ret
    exact ⟨ret_bool HL.out.symm, New.same _⟩







end Go.Proofs.Ytcbifdfcllaaaaa
