/- Contracts of the laws' own helpers on glues: copying, counting, comparing. -/
import Derived.Test.YtcbifdfcllaaaaaGreatDoorSetP
namespace Go.Proofs.YtcbifdfcllaaaaaGreatDoor
open Go.RowKit Go.Deep
set_option linter.unusedVariables false
set_option linter.unusedSimpArgs false

theorem info_Glue : (Tryz.prog.info? 72).map (fun i => (i.zero, i.size, i.bytes)) = some (some (.agg #[.string ⟨#[]⟩, .int .i64 0]), 2, 24) := by kernel_rfl
theorem row_Glue : ElemRow Tryz.prog 32 72 2 24 := elemRow Tryz.underlying32 info_Glue rfl (by omega)

theorem c_toGlue (g : ByteArray × Int) (w : World) : Calls Tryz.prog 43 #[.agg #[.string g.1, .int .i64 g.2]] w fun e w' => e = .returned (.agg #[.string g.1, .int .i64 g.2]) ∧ New w w' := by
  go_enter Tryz.func43, Tryz.ntmps43
  go_wp2
  exact bodyPost_ret (v := .agg #[.string g.1, .int .i64 g.2]) (by simp [results, Tryz.results43, go_sem]) rfl ⟨rfl, by go_grown⟩

theorem fillg_step {w : World} {base g : Nat} {e : TypeId} {zs : List (ByteArray × Int)} {k : Nat} (h : Fill w base e 2 g zs.length zs.length ((zs.take k).flatMap glC)) (hk : k < zs.length) :
    Fill ((w.setCell ⟨g, k * 2, none⟩ (.string zs[k].1)).setCell ⟨g, k * 2 + 1, none⟩ (.int .i64 zs[k].2)) base e 2 g zs.length zs.length ((zs.take (k + 1)).flatMap glC) := by
  have hl : ((zs.take k).flatMap glC).length = k * 2 := by rw [gl_len]; simp; omega
  have h1 := h.put (by omega) (.string zs[k].1)
  have hl1 : ((zs.take k).flatMap glC ++ [Value.string zs[k].1]).length = k * 2 + 1 := by simp [hl]
  have h2 := h1.put (by omega) (.int .i64 zs[k].2)
  rw [hl1, hl] at h2
  rw [gl_succ hk]
  simpa using h2
theorem fillg_end {w w' : World} {e : TypeId} {zs : List (ByteArray × Int)} (h : Fill w' w.heap.size e 2 w.heap.size zs.length zs.length ((zs.take zs.length).flatMap glC)) :
    Own w' w.heap.size w'.heap.size e 2 (.slice (some ⟨w.heap.size, 0, none⟩) zs.length zs.length) zs.length (zs.flatMap glC) := by
  rw [List.take_length] at h
  exact Own.of (h.done (by rw [gl_len]))

set_option maxHeartbeats 1000000 in
theorem c_toGlueS (lo hi : Nat) (v : Value) (zs : List (ByteArray × Int)) (w : World) (h : RdG w lo hi v zs) (hn : zs.length ≤ 1048576) :
    Calls Tryz.prog 19 #[v] w (GivesRow w 72 2 zs.length (zs.flatMap glC)) := by
  obtain ⟨i0, hi0, hz0, hz1, hz2⟩ := info_parts info_Glue
  have HR := Lib.hid h
  obtain ⟨A, c, rfl, hm, ha⟩ := rd_form h
  have HA := Lib.hid ha
  clear ha h
  go_enter Tryz.func19, Tryz.ntmps19
  go_wp2_with (at_make; refine wpList_make_full _ rfl _ _ 32 rfl w.heap.size 72 i0 (.agg #[.string ⟨#[]⟩, .int .i64 0]) 2 Tryz.underlying32 hi0 hz0 hz1 .i64 .i64 zs.length zs.length zs.length rfl rfl rfl rfl (by rw [hz2]; omega) (by unfold maxLen; omega) (Nat.le_refl _) ?_; intro w1 hown hgrow)
  have n1 : New w w1 := (Below.refl _ _).grown hgrow (Nat.le_refl _) (fun k hk => by cases hk)
  have F0 : Fill w1 w.heap.size 72 2 w.heap.size zs.length zs.length [] := Fill.start hown
  clear hown hgrow
  go_loopw [4] (fun i wr => ∃ k : Nat, k ≤ zs.length ∧ i = .int .i64 k ∧ Fill wr w.heap.size 72 2 w.heap.size zs.length zs.length ((zs.take k).flatMap glC) ∧ New w wr) (fun i _ => zs.length - (intOf i).toNat)
  case atStart => exact ⟨0, Nat.zero_le _, rfl, by simpa using F0, n1⟩
  case round =>
    obtain ⟨k, hk, rfl, hF, hN⟩ := hrel
    by_cases hlt : k < zs.length
    · obtain ⟨b, off, hAe⟩ := HA.out (by omega)
      subst hAe
      obtain ⟨⟨x0, x1⟩, bw⟩ := rd_gl HR.out hN rfl hlt
      go_wp2_with fail
      refine (c_toGlue zs[k] _).mono ?_
      rintro e w2 ⟨rfl, n2⟩
      have hF2 := hF.new n2
      have hN2 := hN.step n2
      obtain ⟨u0, hu0⟩ := hF2.cell (j := k * 2) (by omega)
      obtain ⟨u1, hu1⟩ := hF2.cell (j := k * 2 + 1) (by omega)
      have hf0 := hF2.free (k * 2)
      have hf1 := hF2.free (k * 2 + 1)
      clear hF hN n2 x0 x1 bw
      go_wp2
      go_roundw
      case rel => exact ⟨k + 1, by omega, by go_num, fillg_step hF2 hlt, (hN2.setCell (by simp) _).setCell (by simp) _⟩
      case measure => simp [intOf]; omega
    · have hk' : k = zs.length := by omega
      subst hk'
      go_wp2
      go_ret
      exact ⟨_, rfl, fillg_end hF, hN⟩

set_option maxHeartbeats 400000 in
theorem c_szGlue (g : ByteArray × Int) (l : Int) (w : World) (hg : g.1.size ≤ maxLen) (h0 : 0 ≤ l) (h1 : l ≤ 1048576) : Calls Tryz.prog 33 #[.agg #[.string g.1, .int .i64 g.2], .int .i64 l] w fun e w' => e = .returned (.int .i64 (szG1 l g)) ∧ New w w' := by
  unfold maxLen at hg
  by_cases h : l - (g.1.size : Int) < 0
  · have E := Lib.hid (show szG1 l g = -1 from szN_no h)
    go_enter Tryz.func33, Tryz.ntmps33
    go_wp2
    go_ret
    exact ⟨ret_int E.out.symm, by go_grown⟩
  · have E := Lib.hid (show szG1 l g = l - g.1.size from szN_yes h)
    go_enter Tryz.func33, Tryz.ntmps33
    go_wp2
    go_ret
    exact ⟨ret_int E.out.symm, by go_grown⟩

set_option maxHeartbeats 1000000 in
theorem c_szGlueS (lo hi : Nat) (v : Value) (zs : List (ByteArray × Int)) (l : Int) (w : World) (h : RdG w lo hi v zs) (hg : ∀ g ∈ zs, g.1.size ≤ maxLen) (h0 : 0 ≤ l) (h1 : l ≤ 1048576) :
    Calls Tryz.prog 13 #[v, .int .i64 l] w fun e w' => e = .returned (.int .i64 (szR szG1 l zs)) ∧ New w w' := by
  have HR := Lib.hid h
  have HG := Lib.hid hg
  obtain ⟨A, c, rfl, hm, ha⟩ := rd_form h
  have HA := Lib.hid ha
  clear ha h hg
  by_cases hs : szN l zs.length < 0
  · have E := Lib.hid (show szR szG1 l zs = -1 from if_pos hs)
    have hs' : l - (zs.length : Int) < 0 := by unfold szN at hs; split at hs <;> omega
    clear hs
    go_enter Tryz.func13, Tryz.ntmps13
    go_wp2
    go_ret
    exact ⟨ret_int E.out.symm, New.same _⟩
  · have hs' : ¬ l - (zs.length : Int) < 0 := fun hh => hs (by rw [szN_no hh]; omega)
    have E := Lib.hid (show szR szG1 l zs = szF szG1 (l - zs.length) (zs.drop 0) by unfold szR; rw [if_neg hs, szN_yes hs', List.drop_zero])
    clear hs
    go_enter Tryz.func13, Tryz.ntmps13
    go_wp2
    go_loopw [1, 5] (fun q i wr => ∃ k : Nat, ∃ m : Int, k ≤ zs.length ∧ i = .int .i64 k ∧ q = .int .i64 m ∧ Hid (szR szG1 l zs = szF szG1 m (zs.drop k)) ∧ 0 ≤ m ∧ m ≤ 1048576 ∧ New w wr) (fun _ i _ => zs.length - (intOf i).toNat)
    case atStart => exact ⟨0, _, Nat.zero_le _, rfl, rfl, E, by omega, by omega, New.same _⟩
    case round =>
      obtain ⟨k, m, hk, rfl, rfl, HK, m0, m1, hN⟩ := hrel
      clear E
      by_cases hlt : k < zs.length
      · obtain ⟨b, off, hAe⟩ := HA.out (by omega)
        subst hAe
        have HL := Lib.hid (szF_drop szG1 m zs k hlt)
        obtain ⟨⟨x0, x1⟩, bw⟩ := rd_gl HR.out hN rfl hlt
        have hgk := HG.out zs[k] (List.getElem_mem hlt)
        by_cases hq : szG1 m zs[k] < 0
        · have E := Lib.hid (show szR szG1 l zs = -1 by rw [HK.out, HL.out, if_pos hq])
          go_wp2_with fail
          refine (c_szGlue zs[k] m _ hgk m0 m1).mono ?_
          rintro e w2 ⟨rfl, n2⟩
          go_wp2
          go_ret
          exact ⟨ret_int E.out.symm, hN.step n2⟩
        · have E := Lib.hid (show szR szG1 l zs = szF szG1 (szG1 m zs[k]) (zs.drop (k + 1)) by rw [HK.out, HL.out, if_neg hq])
          have hq1 := szG1_le m zs[k] (by omega)
          go_wp2_with fail
          refine (c_szGlue zs[k] m _ hgk m0 m1).mono ?_
          rintro e w2 ⟨rfl, n2⟩
          go_wp2
          go_roundw
          case rel => exact ⟨k + 1, _, by omega, by go_num, rfl, E, by omega, by omega, hN.step n2⟩
          case measure => simp [intOf]; omega
      · have hk' : k = zs.length := by omega
        subst hk'
        have E := Lib.hid (show szR szG1 l zs = m by rw [HK.out, List.drop_length]; rfl)
        go_wp2
        go_ret
        exact ⟨ret_int E.out.symm, hN⟩

set_option maxHeartbeats 1000000 in
theorem c_eqGlue (g q : ByteArray × Int) (w : World) : Calls Tryz.prog 58 #[.agg #[.string g.1, .int .i64 g.2], .agg #[.string q.1, .int .i64 q.2]] w fun e w' => e = .returned (.bool (decide (g = q))) ∧ New w w' := by
  by_cases h0 : g.1 = q.1
  · have b0 := sEq_yes h0
    by_cases h1 : g.2 = q.2
    · have E := Lib.hid (show decide (g = q) = true from decide_eq_true (Prod.ext h0 h1))
      have b1 : (g.2 != q.2) = false := by simp [h1]
      clear h0 h1
      go_enter Tryz.func58, Tryz.ntmps58
      go_wp2
      go_ret
      exact ⟨ret_bool E.out.symm, by go_grown⟩
    · have E := Lib.hid (show decide (g = q) = false from decide_eq_false (fun e => h1 (by rw [e])))
      have b1 : (g.2 != q.2) = true := by simp [h1]
      clear h0 h1
      go_enter Tryz.func58, Tryz.ntmps58
      go_wp2
      go_ret
      exact ⟨ret_bool E.out.symm, by go_grown⟩
  · have E := Lib.hid (show decide (g = q) = false from decide_eq_false (fun e => h0 (by rw [e])))
    have b0 := sEq_no h0
    clear h0
    go_enter Tryz.func58, Tryz.ntmps58
    go_wp2
    go_ret
    exact ⟨ret_bool E.out.symm, by go_grown⟩

set_option maxHeartbeats 4000000 in
theorem c_eqGlueS (lo hi lo' hi' : Nat) (v u : Value) (xs ys : List (ByteArray × Int)) (w : World) (h : RdG w lo hi v xs) (h' : RdG w lo' hi' u ys) :
    Calls Tryz.prog 27 #[v, u] w fun e w' => e = .returned (.bool (eqL xs ys)) ∧ New w w' := by
  have HR := Lib.hid h
  have HS := Lib.hid h'
  obtain ⟨A, c, rfl, hm, ha⟩ := rd_form h
  obtain ⟨A', c', rfl, hm', ha'⟩ := rd_form h'
  have HA := Lib.hid ha
  have HA' := Lib.hid ha'
  clear ha ha' h h'
  by_cases hl : xs.length = ys.length
  · have HL := Lib.hid hl
    have hl1 : xs.length ≤ ys.length := by omega
    have hl2 : ys.length ≤ xs.length := by omega
    have hl3 : ((xs.length : Int) != (ys.length : Int)) = false := by simp [hl]
    clear hl
    go_enter Tryz.func27, Tryz.ntmps27
    go_wp2
    go_loopw [5] (fun i wr => ∃ k : Nat, k ≤ xs.length ∧ i = .int .i64 k ∧ Hid (xs.take k = ys.take k) ∧ New w wr) (fun i _ => xs.length - (intOf i).toNat)
    case atStart => exact ⟨0, Nat.zero_le _, rfl, Lib.hid (by simp), New.same _⟩
    case round =>
      obtain ⟨k, hk, rfl, HT, hN⟩ := hrel
      by_cases hlt : k < xs.length
      · obtain ⟨b, off, hAe⟩ := HA.out (by omega)
        subst hAe
        obtain ⟨b', off', hAe'⟩ := HA'.out (by omega)
        subst hAe'
        have hlt' : k < ys.length := by omega
        have p0 : (0 : Int) ≤ (k : Int) := by omega
        have p1 : (k : Int) < (xs.length : Int) := by omega
        have p2 : (k : Int) < (ys.length : Int) := by omega
        obtain ⟨⟨x0, x1⟩, bw⟩ := rd_gl HR.out hN rfl hlt
        obtain ⟨⟨y0, y1⟩, bw'⟩ := rd_gl HS.out hN rfl hlt'
        have lx0 := Later.cell x0 bw
        have lx1 := Later.cell x1 bw
        have ly0 := Later.cell y0 bw'
        have ly1 := Later.cell y1 bw'
        by_cases he : xs[k] = ys[k]
        · have HT' := take_more HT.out hlt hlt' he
          have C1 := Lib.hid (fun (w : World) => (decide_eq_true he) ▸ c_eqGlue xs[k] ys[k] w)
          clear he
          go_upto_region 6 with fail
          (refine wp_region_later (by kernel_rfl) (by kernel_rfl) ?_; (repeat (go_big_quiet_step ((first | (go_at_call 58; exact later_of (C1.out _)))))); refine wpQuiet_nil ?_; intro wq hw'; obtain ⟨⟨wz, nq⟩, hwz⟩ := hw'; have hwz' : wq = wz := hwz; subst hwz'; clear hwz)
          clear lx0 lx1 ly0 ly1
          go_wp2
          go_roundw
          case rel => exact ⟨k + 1, by omega, by go_num, HT', hN.step nq⟩
          case measure => simp [intOf]; omega
        · have HE := Lib.hid (eqL_at hlt hlt' he)
          have C1 := Lib.hid (fun (w : World) => (decide_eq_false he) ▸ c_eqGlue xs[k] ys[k] w)
          clear he
          go_upto_region 6 with fail
          (refine wp_region_later (by kernel_rfl) (by kernel_rfl) ?_; (repeat (go_big_quiet_step ((first | (go_at_call 58; exact later_of (C1.out _)))))); refine wpQuiet_nil ?_; intro wq hw'; obtain ⟨⟨wz, nq⟩, hwz⟩ := hw'; have hwz' : wq = wz := hwz; subst hwz'; clear hwz)
          clear lx0 lx1 ly0 ly1
          go_wp2
          go_ret
          exact ⟨ret_bool HE.out.symm, hN.step nq⟩
      · have hk' : k = xs.length := by omega
        subst hk'
        go_wp2
        go_ret
        exact ⟨ret_bool (eqL_all HL.out HT.out).symm, hN⟩
  · have HL := Lib.hid (eqL_len hl)
    have hl3 : ((xs.length : Int) != (ys.length : Int)) = true := by simp; omega
    clear hl
    go_enter Tryz.func27, Tryz.ntmps27
    go_wp2
    go_ret
    exact ⟨ret_bool HL.out.symm, New.same _⟩

end Go.Proofs.YtcbifdfcllaaaaaGreatDoor
