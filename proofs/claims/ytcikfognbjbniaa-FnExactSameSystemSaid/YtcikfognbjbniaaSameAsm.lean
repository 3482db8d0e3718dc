/- The contract of spec.SameAssembly. -/
import Derived.Test.YtcikfognbjbniaaAsm
namespace Go.Proofs.Ytcikfognbjbniaa
open Go.RowKit Go.Deep
set_option linter.unusedVariables false
set_option linter.unusedSimpArgs false

set_option maxHeartbeats 4000000 in
theorem c_l03Same (b0 b1 lo hi lo' hi' : Nat) (v u : Value) (xs ys : List ((Int × Int) × Int)) (w : World) (B0 : BoxV w b0 [v]) (B1 : BoxV w b1 [u]) (h : Rd w lo hi 3 v xs.length (xs.flatMap plCells)) (h' : Rd w lo' hi' 3 u ys.length (ys.flatMap plCells)) :
    Calls Try.prog 35 #[.pointer (some ⟨b0, 0, none⟩), .pointer (some ⟨b1, 0, none⟩)] w fun e w' => e = .returned (.bool (eqL xs ys)) ∧ New w w' := by
  have HR := Lib.hid h
  have HS := Lib.hid h'
  obtain ⟨_, hm, hh, A, c, rfl, hrd⟩ := h
  obtain ⟨_, hm', hh', A', c', rfl, hrd'⟩ := h'
  have ha : 0 < xs.length → ∃ b off, A = some ⟨b, off, none⟩ := fun h => by obtain ⟨b, off, e, _⟩ := hrd h; exact ⟨b, off, e⟩
  have HA := Lib.hid ha
  have ha' : 0 < ys.length → ∃ b off, A' = some ⟨b, off, none⟩ := fun h => by obtain ⟨b, off, e, _⟩ := hrd' h; exact ⟨b, off, e⟩
  have HA' := Lib.hid ha'
  clear hrd ha hh hrd' ha' hh'
  have ⟨bx0, _, bl0⟩ := B0.at1
  have ⟨by0, _, bl1⟩ := B1.at1
  have lb0 := Later.cell bx0 bl0
  have lb1 := Later.cell by0 bl1
  clear bx0 by0
  by_cases hl : xs.length = ys.length
  · have HL := Lib.hid hl
    have hl1 : xs.length ≤ ys.length := by omega
    have hl2 : ys.length ≤ xs.length := by omega
    have hl3 : ((xs.length : Int) != (ys.length : Int)) = false := by simp [hl]
    clear hl
    go_enter Try.func35, Try.ntmps35
    go_upto_region 1 with fail
    (refine wp_region_later (by kernel_rfl) (by kernel_rfl) ?_; (repeat (go_big_quiet_step (fail))); refine wpQuiet_nil ?_; intro wq hw'; obtain ⟨⟨wz, nq⟩, hwz⟩ := hw'; have hwz' : wq = wz := hwz; subst hwz'; clear hwz)
    clear lb0 lb1
    go_wp2_with fail
    go_loopw [5] (fun i wr => ∃ k : Nat, k ≤ xs.length ∧ i = .int .i64 k ∧ Hid (xs.take k = ys.take k) ∧ New w wr) (fun i _ => xs.length - (intOf i).toNat)
    case atStart => exact ⟨0, Nat.zero_le _, rfl, Lib.hid (by simp), nq⟩
    case round =>
      obtain ⟨k, hk, rfl, HT, hN⟩ := hrel
      have ⟨bx0, _, bl0⟩ := (B0.new hN).at1
      have ⟨by0, _, bl1⟩ := (B1.new hN).at1
      by_cases hlt : k < xs.length
      · obtain ⟨b, off, hAe⟩ := HA.out (by omega)
        subst hAe
        obtain ⟨b', off', hAe'⟩ := HA'.out (by omega)
        subst hAe'
        have hlt' : k < ys.length := by omega
        obtain ⟨⟨x0, x1, x2⟩, bw⟩ := rd_pl HR.out hN rfl hlt
        obtain ⟨⟨y0, y1, y2⟩, bw'⟩ := rd_pl HS.out hN rfl hlt'
        have p0 : (0 : Int) ≤ (k : Int) := by omega
        have p1 : (k : Int) < (xs.length : Int) := by omega
        have p2 : (k : Int) < (ys.length : Int) := by omega
        have lx0 := Later.cell x0 bw
        have lx1 := Later.cell x1 bw
        have lx2 := Later.cell x2 bw
        have ly0 := Later.cell y0 bw'
        have ly1 := Later.cell y1 bw'
        have ly2 := Later.cell y2 bw'
        have lb0 := Later.cell bx0 bl0
        have lb1 := Later.cell by0 bl1
        by_cases h0 : xs[k].1.1 = ys[k].1.1
        · have g0 : (xs[k].1.1 == ys[k].1.1) = true := by simpa using h0
          have G0 : (xs[k].1.1 != ys[k].1.1) = false := by simpa using h0
          by_cases h1 : xs[k].1.2 = ys[k].1.2
          · have g1 : (xs[k].1.2 == ys[k].1.2) = true := by simpa using h1
            have G1 : (xs[k].1.2 != ys[k].1.2) = false := by simpa using h1
            by_cases h2 : xs[k].2 = ys[k].2
            · have g2 : (xs[k].2 == ys[k].2) = true := by simpa using h2
              have G2 : (xs[k].2 != ys[k].2) = false := by simpa using h2
              have HT' := take_more HT.out hlt hlt' (show xs[k] = ys[k] from Prod.ext (Prod.ext h0 h1) h2)
              clear h0 h1 h2
              go_upto_region 6 with fail
              (refine wp_region_later (by kernel_rfl) (by kernel_rfl) ?_; (repeat (go_big_quiet_step (fail))); refine wpQuiet_nil ?_; intro wq hw'; obtain ⟨⟨wz, nq⟩, hwz⟩ := hw'; have hwz' : wq = wz := hwz; subst hwz'; clear hwz)
              clear lx0 lx1 lx2 ly0 ly1 ly2 lb0 lb1
              go_wp2
              go_roundw
              case rel => exact ⟨k + 1, by omega, by go_num, HT', hN.step nq⟩
              case measure => simp [intOf]; omega
            · have g2 : (xs[k].2 == ys[k].2) = false := by simpa using h2
              have G2 : (xs[k].2 != ys[k].2) = true := by simpa using h2
              have HE := Lib.hid (eqL_at hlt hlt' (fun e => h2 (by rw [e])))
              clear h0 h1 h2
              go_upto_region 6 with fail
              (refine wp_region_later (by kernel_rfl) (by kernel_rfl) ?_; (repeat (go_big_quiet_step (fail))); refine wpQuiet_nil ?_; intro wq hw'; obtain ⟨⟨wz, nq⟩, hwz⟩ := hw'; have hwz' : wq = wz := hwz; subst hwz'; clear hwz)
              clear lx0 lx1 lx2 ly0 ly1 ly2 lb0 lb1
              go_wp2
              go_ret
              exact ⟨ret_bool HE.out.symm, hN.step nq⟩
          · have g1 : (xs[k].1.2 == ys[k].1.2) = false := by simpa using h1
            have G1 : (xs[k].1.2 != ys[k].1.2) = true := by simpa using h1
            have HE := Lib.hid (eqL_at hlt hlt' (fun e => h1 (by rw [e])))
            clear h0 h1
            go_upto_region 6 with fail
            (refine wp_region_later (by kernel_rfl) (by kernel_rfl) ?_; (repeat (go_big_quiet_step (fail))); refine wpQuiet_nil ?_; intro wq hw'; obtain ⟨⟨wz, nq⟩, hwz⟩ := hw'; have hwz' : wq = wz := hwz; subst hwz'; clear hwz)
            clear lx0 lx1 lx2 ly0 ly1 ly2 lb0 lb1
            go_wp2
            go_ret
            exact ⟨ret_bool HE.out.symm, hN.step nq⟩
        · have g0 : (xs[k].1.1 == ys[k].1.1) = false := by simpa using h0
          have G0 : (xs[k].1.1 != ys[k].1.1) = true := by simpa using h0
          have HE := Lib.hid (eqL_at hlt hlt' (fun e => h0 (by rw [e])))
          clear h0
          go_upto_region 6 with fail
          (refine wp_region_later (by kernel_rfl) (by kernel_rfl) ?_; (repeat (go_big_quiet_step (fail))); refine wpQuiet_nil ?_; intro wq hw'; obtain ⟨⟨wz, nq⟩, hwz⟩ := hw'; have hwz' : wq = wz := hwz; subst hwz'; clear hwz)
          clear lx0 lx1 lx2 ly0 ly1 ly2 lb0 lb1
          go_wp2
          go_ret
          exact ⟨ret_bool HE.out.symm, hN.step nq⟩
      · have hk' : k = xs.length := by omega
        subst hk'
        go_wp2
        go_ret
        exact ⟨ret_bool (eqL_all HL.out HT.out).symm, hN⟩
  · have hl3 : ((xs.length : Int) != (ys.length : Int)) = true := by simp; omega
    have HE := Lib.hid (eqL_len hl)
    clear hl
    go_enter Try.func35, Try.ntmps35
    go_upto_region 1 with fail
    (refine wp_region_later (by kernel_rfl) (by kernel_rfl) ?_; (repeat (go_big_quiet_step (fail))); refine wpQuiet_nil ?_; intro wq hw'; obtain ⟨⟨wz, nq⟩, hwz⟩ := hw'; have hwz' : wq = wz := hwz; subst hwz'; clear hwz)
    clear lb0 lb1
    go_wp2
    go_ret
    exact ⟨ret_bool HE.out.symm, nq⟩


end Go.Proofs.Ytcikfognbjbniaa
