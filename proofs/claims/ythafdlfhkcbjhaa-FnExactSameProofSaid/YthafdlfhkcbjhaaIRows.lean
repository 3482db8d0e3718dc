/- Rows of rows of integers; options; the laws' own helpers on them and the two sides' comparisons. -/
import Derived.Test.YthafdlfhkcbjhaaFlatOption
import Derived.Test.YthafdlfhkcbjhaaSameI
import Derived.Test.YthafdlfhkcbjhaaMarkText
namespace Go.Proofs.Ythafdlfhkcbjhaa
open Go.RowKit Go.ChangeShapes Go.WideShapes Go.Deep
set_option linter.unusedVariables false
set_option linter.unusedSimpArgs false

set_option maxHeartbeats 4000000 in
theorem c_l11Same (lo hi lo' hi' : Nat) (v u : Value) (xs ys : List ((Int × Int) × Int)) (w : World) (h : Rd w lo hi 3 v xs.length (xs.flatMap plCells)) (h' : Rd w lo' hi' 3 u ys.length (ys.flatMap plCells)) :
    Calls Try.prog 40 #[v, u] w fun e w' => e = .returned (.bool (eqL xs ys)) ∧ New w w' := by
  have HR := Lib.hid h
  have HS := Lib.hid h'
  obtain ⟨_, hm, hh, A, c, rfl, hrd⟩ := h
  obtain ⟨_, hm', hh', A', c', rfl, hrd'⟩ := h'
  have ha : 0 < xs.length → ∃ b off, A = some ⟨b, off, none⟩ := fun h => by obtain ⟨b, off, e, _⟩ := hrd h; exact ⟨b, off, e⟩
  have HA := Lib.hid ha
  have ha' : 0 < ys.length → ∃ b off, A' = some ⟨b, off, none⟩ := fun h => by obtain ⟨b, off, e, _⟩ := hrd' h; exact ⟨b, off, e⟩
  have HA' := Lib.hid ha'
  clear hrd ha hh hrd' ha' hh'
  by_cases hl : xs.length = ys.length
  · have HL := Lib.hid hl
    have hl1 : xs.length ≤ ys.length := by omega
    have hl2 : ys.length ≤ xs.length := by omega
    have hl3 : ((xs.length : Int) != (ys.length : Int)) = false := by simp [hl]
    clear hl
    go_enter Try.func40, Try.ntmps40
    go_wp2_with fail
    go_loopw [5] (fun i wr => ∃ k : Nat, k ≤ xs.length ∧ i = .int .i64 k ∧ Hid (xs.take k = ys.take k) ∧ New w wr) (fun i _ => xs.length - (intOf i).toNat)
    case atStart => exact ⟨0, Nat.zero_le _, rfl, Lib.hid (by simp), New.same _⟩
    case round =>
      obtain ⟨k, hk, rfl, HT, hN⟩ := hrel
      by_cases hlt : k < xs.length
      · obtain ⟨b, off, hAe⟩ := HA.out (by omega)
        subst hAe
        obtain ⟨b', off', hAe'⟩ := HA'.out (by omega)
        subst hAe'
        have hlt' : k < ys.length := by omega
        obtain ⟨⟨x0, x1, x2⟩, bw⟩ := rd_pl HR.out hN rfl hlt
        obtain ⟨⟨y0, y1, y2⟩, bw'⟩ := rd_pl HS.out hN rfl hlt'
        have p0 : (0 : Int) ≤ (k : Int) := by omega
        have p1 : (k : Int) < (xs.length : Int) := by omega
        have p2 : (k : Int) < (ys.length : Int) := by omega
        have lx0 := Later.cell x0 bw
        have lx1 := Later.cell x1 bw
        have lx2 := Later.cell x2 bw
        have ly0 := Later.cell y0 bw'
        have ly1 := Later.cell y1 bw'
        have ly2 := Later.cell y2 bw'
        by_cases h0 : xs[k].1.1 = ys[k].1.1
        · have g0 : (xs[k].1.1 == ys[k].1.1) = true := by simpa using h0
          have G0 : (xs[k].1.1 != ys[k].1.1) = false := by simpa using h0
          by_cases h1 : xs[k].1.2 = ys[k].1.2
          · have g1 : (xs[k].1.2 == ys[k].1.2) = true := by simpa using h1
            have G1 : (xs[k].1.2 != ys[k].1.2) = false := by simpa using h1
            by_cases h2 : xs[k].2 = ys[k].2
            · have g2 : (xs[k].2 == ys[k].2) = true := by simpa using h2
              have G2 : (xs[k].2 != ys[k].2) = false := by simpa using h2
              have HT' := take_more HT.out hlt hlt' (show xs[k] = ys[k] from Prod.ext (Prod.ext h0 h1) h2)
              clear h0 h1 h2
              go_upto_region 6 with fail
              (refine wp_region_later (by kernel_rfl) (by kernel_rfl) ?_; (repeat (go_big_quiet_step (fail))); refine wpQuiet_nil ?_; intro wq hw'; obtain ⟨⟨wz, nq⟩, hwz⟩ := hw'; have hwz' : wq = wz := hwz; subst hwz'; clear hwz)
              clear lx0 lx1 lx2 ly0 ly1 ly2
              go_wp2
              go_roundw
              case rel => exact ⟨k + 1, by omega, by go_num, HT', hN.step nq⟩
              case measure => simp [intOf]; omega
            · have g2 : (xs[k].2 == ys[k].2) = false := by simpa using h2
              have G2 : (xs[k].2 != ys[k].2) = true := by simpa using h2
              have HE := Lib.hid (eqL_at hlt hlt' (fun e => h2 (by rw [e])))
              clear h0 h1 h2
              go_upto_region 6 with fail
              (refine wp_region_later (by kernel_rfl) (by kernel_rfl) ?_; (repeat (go_big_quiet_step (fail))); refine wpQuiet_nil ?_; intro wq hw'; obtain ⟨⟨wz, nq⟩, hwz⟩ := hw'; have hwz' : wq = wz := hwz; subst hwz'; clear hwz)
              clear lx0 lx1 lx2 ly0 ly1 ly2
              go_wp2
              go_ret
              exact ⟨ret_bool HE.out.symm, hN.step nq⟩
          · have g1 : (xs[k].1.2 == ys[k].1.2) = false := by simpa using h1
            have G1 : (xs[k].1.2 != ys[k].1.2) = true := by simpa using h1
            have HE := Lib.hid (eqL_at hlt hlt' (fun e => h1 (by rw [e])))
            clear h0 h1
            go_upto_region 6 with fail
            (refine wp_region_later (by kernel_rfl) (by kernel_rfl) ?_; (repeat (go_big_quiet_step (fail))); refine wpQuiet_nil ?_; intro wq hw'; obtain ⟨⟨wz, nq⟩, hwz⟩ := hw'; have hwz' : wq = wz := hwz; subst hwz'; clear hwz)
            clear lx0 lx1 lx2 ly0 ly1 ly2
            go_wp2
            go_ret
            exact ⟨ret_bool HE.out.symm, hN.step nq⟩
        · have g0 : (xs[k].1.1 == ys[k].1.1) = false := by simpa using h0
          have G0 : (xs[k].1.1 != ys[k].1.1) = true := by simpa using h0
          have HE := Lib.hid (eqL_at hlt hlt' (fun e => h0 (by rw [e])))
          clear h0
          go_upto_region 6 with fail
          (refine wp_region_later (by kernel_rfl) (by kernel_rfl) ?_; (repeat (go_big_quiet_step (fail))); refine wpQuiet_nil ?_; intro wq hw'; obtain ⟨⟨wz, nq⟩, hwz⟩ := hw'; have hwz' : wq = wz := hwz; subst hwz'; clear hwz)
          clear lx0 lx1 lx2 ly0 ly1 ly2
          go_wp2
          go_ret
          exact ⟨ret_bool HE.out.symm, hN.step nq⟩
      · have hk' : k = xs.length := by omega
        subst hk'
        go_wp2
        go_ret
        exact ⟨ret_bool (eqL_all HL.out HT.out).symm, hN⟩
  · have hl3 : ((xs.length : Int) != (ys.length : Int)) = true := by simp; omega
    have HE := Lib.hid (eqL_len hl)
    clear hl
    go_enter Try.func40, Try.ntmps40
    go_wp2
    go_ret
    exact ⟨ret_bool HE.out.symm, New.same _⟩
def ssM (l : List Int) (u : Value) : List Value := [u]
/-- v reads as the rows xs -/
abbrev RdSS (w : World) (lo hi : Nat) (v : Value) (xs : List (List Int)) (sv : List Value) : Prop := RdN ssM (fun l => l) 1 w lo hi v xs sv
theorem ss_len (xs : List (List Int)) (sv : List Value) (h : sv.length = xs.length) : (nestC ssM xs sv).length = xs.length := by rw [nestC_len (C := 1) (fun _ _ => rfl) _ _ h]; omega
theorem ss_get {xs : List (List Int)} {sv : List Value} {k : Nat} (hk : k < xs.length) (hk' : k < sv.length) : (nestC ssM xs sv)[k]? = some sv[k] := by
  have := nestC_get (mk := ssM) (C := 1) (fun _ _ => rfl) hk hk' (r := 0) (by omega)
  simpa [ssM] using this
theorem rd_row {w wr : World} {lo hi : Nat} {v : Value} {T : List (List Int)} {sv : List Value} (h : RdSS w lo hi v T sv) (n : New w wr) {b off c : Nat} (hv : v = .slice (some ⟨b, off, none⟩) T.length c) {k : Nat} (hk : k < T.length) :
    ∃ A m, wr.cell? ⟨b, off + k, none⟩ = some (.slice A T[k].length m) ∧ b < wr.heap.size ∧ Rd wr lo hi 1 (.slice A T[k].length m) T[k].length (T[k].map (Value.int .i64)) := by
  have hk' : k < sv.length := by rw [h.len]; exact hk
  have h1 := rd_cell h.outer n hv (by omega) (ss_get hk hk')
  have h2 := (h.each k hk hk').new n
  obtain ⟨A, m, e, _⟩ := rd_form h2
  rw [e] at h1 h2
  exact ⟨A, m, h1.1, h1.2, h2⟩
def szI1 (l : Int) (x : List Int) : Int := szN l x.length
theorem szI1_le (l : Int) (x : List Int) (hl : 0 ≤ szI1 l x) : szI1 l x ≤ l ∧ (x.length : Int) ≤ l := szN_le l _ (by omega) hl

theorem c_szI (A : Option Addr) (n c : Nat) (l : Int) (w : World) (hn : n ≤ 9223372036854775807) (h0 : 0 ≤ l) (h1 : l ≤ 1048576) : Calls Try.prog 38 #[.slice A n c, .int .i64 l] w fun e w' => e = .returned (.int .i64 (szN l n)) ∧ w = w' := by
  by_cases h : l - (n : Int) < 0
  · have E := Lib.hid (szN_no h)
    go_enter Try.func38, Try.ntmps38
    go_wp2
    go_ret
    exact ⟨ret_int E.out.symm, rfl⟩
  · have E := Lib.hid (szN_yes h)
    go_enter Try.func38, Try.ntmps38
    go_wp2
    go_ret
    exact ⟨ret_int E.out.symm, rfl⟩
set_option maxHeartbeats 2000000 in
theorem c_szSS (lo hi : Nat) (v : Value) (zs : List (List Int)) (sv : List Value) (l : Int) (w : World) (h : RdSS w lo hi v zs sv) (h0 : 0 ≤ l) (h1 : l ≤ 1048576) :
    Calls Try.prog 39 #[v, .int .i64 l] w fun e w' => e = .returned (.int .i64 (szR szI1 l zs)) ∧ New w w' := by
  have HR := Lib.hid h
  obtain ⟨A, c, rfl, hm, ha⟩ := rd_form h.outer
  have HA := Lib.hid ha
  clear ha h
  by_cases hs : szN l zs.length < 0
  · have E := Lib.hid (show szR szI1 l zs = -1 from if_pos hs)
    have hs' : l - (zs.length : Int) < 0 := by unfold szN at hs; split at hs <;> omega
    clear hs
    go_enter Try.func39, Try.ntmps39
    go_wp2
    go_ret
    exact ⟨ret_int E.out.symm, New.same _⟩
  · have hs' : ¬ l - (zs.length : Int) < 0 := fun hh => hs (by rw [szN_no hh]; omega)
    have E := Lib.hid (show szR szI1 l zs = szF szI1 (l - zs.length) (zs.drop 0) by unfold szR; rw [if_neg hs, szN_yes hs', List.drop_zero])
    clear hs
    go_enter Try.func39, Try.ntmps39
    go_wp2
    go_loopw [1, 5] (fun q i wr => ∃ k : Nat, ∃ m : Int, k ≤ zs.length ∧ i = .int .i64 k ∧ q = .int .i64 m ∧ Hid (szR szI1 l zs = szF szI1 m (zs.drop k)) ∧ 0 ≤ m ∧ m ≤ 1048576 ∧ New w wr) (fun _ i _ => zs.length - (intOf i).toNat)
    case atStart => exact ⟨0, _, Nat.zero_le _, rfl, rfl, E, by omega, by omega, New.same _⟩
    case round =>
      obtain ⟨k, m, hk, rfl, rfl, HK, m0, m1, hN⟩ := hrel
      clear E
      by_cases hlt : k < zs.length
      · obtain ⟨b, off, hAe⟩ := HA.out (by omega)
        subst hAe
        have HL := Lib.hid (szF_drop szI1 m zs k hlt)
        obtain ⟨Ax, mx, x0, bw, rx⟩ := rd_row HR.out hN rfl hlt
        have hrl := rx.2.1
        have HC := Lib.hid (c_szI Ax zs[k].length mx m wr hrl m0 m1)
        have HD : Hid (szI1 m zs[k] = szN m zs[k].length) := Lib.hid rfl
        by_cases hq : szI1 m zs[k] < 0
        · have E := Lib.hid (show szR szI1 l zs = -1 by rw [HK.out, HL.out, if_pos hq])
          rw [← HD.out] at HC
          have hq2 : decide (szI1 m zs[k] < 0) = true := decide_eq_true hq
          go_wp2_with (go_at_call 38; refine HC.out.mono ?_; rintro e w2 ⟨rfl, rfl⟩)
          go_ret
          exact ⟨ret_int E.out.symm, hN⟩
        · have E := Lib.hid (show szR szI1 l zs = szF szI1 (szI1 m zs[k]) (zs.drop (k + 1)) by rw [HK.out, HL.out, if_neg hq])
          have hq1 := (szI1_le m zs[k] (by omega)).1
          rw [← HD.out] at HC
          have hq2 : decide (szI1 m zs[k] < 0) = false := decide_eq_false hq
          go_wp2_with (go_at_call 38; refine HC.out.mono ?_; rintro e w2 ⟨rfl, rfl⟩)
          go_roundw
          case rel => exact ⟨k + 1, _, by omega, by go_num, rfl, E, by omega, by omega, hN⟩
          case measure => simp [intOf]; omega
      · have hk' : k = zs.length := by omega
        subst hk'
        have E := Lib.hid (show szR szI1 l zs = m by rw [HK.out, List.drop_length]; rfl)
        go_wp2
        go_ret
        exact ⟨ret_int E.out.symm, hN⟩
theorem info_SS : (Try.prog.info? 22).map (fun i => (i.zero, i.size, i.bytes)) = some (some (.slice none 0 0), 1, 24) := by kernel_rfl
def RowsSo (w : World) (base : Nat) (T : List (List Int)) (k : Nat) (sv : List Value) : Prop :=
  sv.length = k ∧ Fill w base 22 1 base T.length T.length (nestC ssM (T.take k) sv) ∧ OwnEach 2 w (base + 1) w.heap.size ((T.take k).map fun l => l) sv
theorem rows_start {w w1 : World} {T : List (List Int)} (F : Fill w1 w.heap.size 22 1 w.heap.size T.length T.length []) : RowsSo w1 w.heap.size T 0 [] :=
  ⟨rfl, by simpa [nestC] using F, by have := F.ge.2; simp [OwnEach]; omega⟩
theorem rows_step {w w2 : World} {base k : Nat} {T : List (List Int)} {sv : List Value} {u : Value} (h : RowsSo w base T k sv) (n2 : New w w2) (hk : k < T.length)
    (hO : Own w2 w.heap.size w2.heap.size 2 1 u T[k].length (T[k].map (Value.int .i64))) :
    RowsSo (w2.setCell ⟨base, k, none⟩ u) base T (k + 1) (sv ++ [u]) := by
  obtain ⟨h1, h2, h3⟩ := h
  have hb := h2.ge
  have hl : (nestC ssM (T.take k) sv).length = k := by rw [ss_len _ _ (by simp [h1]; omega)]; simp; omega
  have F1 := (h2.new n2).put (by omega) u
  rw [hl] at F1
  have hF : Fr base (base + 1) w2 (w2.setCell ⟨base, k, none⟩ u) := (Fr.refl _ _ w2).setCell (p := ⟨base, k, none⟩) (Nat.le_refl _) (Nat.lt_succ_self _) _
  have hlen : sv.length = (T.take k).length := by simp [h1]; omega
  refine ⟨by simp [h1], ?_, ?_⟩
  · rw [List.take_succ_eq_append_getElem hk, nestC_snoc _ _ hlen]
    exact F1
  · rw [List.take_succ_eq_append_getElem hk, List.map_append]
    have := ((h3.new n2).snoc n2.size hO).fr hF (.inr (Nat.le_refl _))
    exact this.wide (Nat.le_refl _) hF.size (Nat.le_refl _)
theorem rows_end {w w' : World} {T : List (List Int)} {sv : List Value} (h : RowsSo w' w.heap.size T T.length sv) :
    RdSS w' w.heap.size w'.heap.size (.slice (some ⟨w.heap.size, 0, none⟩) T.length T.length) T sv := by
  obtain ⟨h1, h2, h3⟩ := h
  rw [List.take_length] at h2 h3
  have hb := h2.ge
  have hd := h2.done (by rw [ss_len _ _ h1]; omega)
  have : OwnN ssM (fun l => l) 1 22 2 w' w.heap.size w'.heap.size (.slice (some ⟨w.heap.size, 0, none⟩) T.length T.length) T sv := ⟨w.heap.size + 1, by omega, ⟨hd, by omega, fun g hg => by simp [Value.ownBlock] at hg; omega⟩, h3⟩
  exact this.rd
set_option maxHeartbeats 2000000 in
theorem c_toSS (lo hi : Nat) (v : Value) (T : List (List Int)) (sv : List Value) (w : World) (h : RdSS w lo hi v T sv) (hn : T.length ≤ 1048576) (hs : ∀ t ∈ T, t.length ≤ 1048576) :
    Calls Try.prog 44 #[v] w fun e w' => ∃ u sv', e = .returned u ∧ RdSS w' w.heap.size w'.heap.size u T sv' ∧ New w w' := by
  obtain ⟨i0, hi0, hz0, hz1, hz2⟩ := info_parts info_SS
  have HR := Lib.hid h
  have HX := Lib.hid hs
  obtain ⟨A, c, rfl, hm, ha⟩ := rd_form h.outer
  have HA := Lib.hid ha
  clear ha h hs
  go_enter Try.func44, Try.ntmps44
  go_wp2_with (at_make; refine wpList_make_full _ rfl _ _ 34 rfl w.heap.size 22 i0 (.slice none 0 0) 1 Try.underlying34 hi0 hz0 hz1 .i64 .i64 T.length T.length T.length rfl rfl rfl rfl (by rw [hz2]; omega) (by unfold maxLen; omega) (Nat.le_refl _) ?_; intro w1 hown hgrow)
  have n1 : New w w1 := (Below.refl _ _).grown hgrow (Nat.le_refl _) (fun k hk => by cases hk)
  have F0 : Fill w1 w.heap.size 22 1 w.heap.size T.length T.length [] := Fill.start hown
  clear hown hgrow
  go_loopw [4] (fun i wr => ∃ k : Nat, ∃ sv' : List Value, k ≤ T.length ∧ i = .int .i64 k ∧ RowsSo wr w.heap.size T k sv' ∧ New w wr) (fun i _ => T.length - (intOf i).toNat)
  case atStart => exact ⟨0, [], Nat.zero_le _, rfl, rows_start F0, n1⟩
  case round =>
    obtain ⟨k, sv', hk, rfl, hT, hN⟩ := hrel
    clear F0
    by_cases hlt : k < T.length
    · obtain ⟨b, off, hAe⟩ := HA.out (by omega)
      subst hAe
      obtain ⟨Ax, mx, x0, bw, rx⟩ := rd_row HR.out hN rfl hlt
      have hx := HX.out T[k] (List.getElem_mem hlt)
      go_wp2_with fail
      refine (c_toInt64S _ _ _ T[k] _ rx hx).mono ?_
      rintro e w2 ⟨u, rfl, hO, n2⟩
      obtain ⟨_, _, _, Au, cu, rfl, _⟩ := hO.rd
      have hT2 := Lib.hid (rows_step hT n2 hlt hO)
      have hN2 := hN.step n2
      have hF2 := hT.2.1.new n2
      obtain ⟨u0, hu0⟩ := hF2.cell (j := k) (by omega)
      have hf0 := hF2.free k
      clear hT hN n2 x0 bw hO hF2 rx
      go_wp2
      go_roundw
      case rel => exact ⟨k + 1, _, by omega, by go_num, hT2.out, hN2.setCell (by simp) _⟩
      case measure => simp [intOf]; omega
    · have hk' : k = T.length := by omega
      subst hk'
      go_wp2
      go_ret
      exact ⟨_, _, rfl, rows_end hT, hN⟩
theorem eqL_yes {α : Type} [DecidableEq α] {xs ys : List α} (h : xs = ys) : eqL xs ys = true := by subst h; exact eqL_self _
theorem eqL_no {α : Type} [DecidableEq α] {xs ys : List α} (h : xs ≠ ys) : eqL xs ys = false := decide_eq_false h
set_option maxHeartbeats 2000000 in
theorem c_eqSS (lo hi lo' hi' : Nat) (v u : Value) (xs ys : List (List Int)) (w : World) (sv sv' : List Value) (h : RdSS w lo hi v xs sv) (h' : RdSS w lo' hi' u ys sv') :
    Calls Try.prog 49 #[v, u] w fun e w' => e = .returned (.bool (eqL xs ys)) ∧ New w w' := by
  have HR := Lib.hid h
  have HS := Lib.hid h'
  obtain ⟨A, c, rfl, hm, ha⟩ := rd_form h.outer
  obtain ⟨A', c', rfl, hm', ha'⟩ := rd_form h'.outer
  have HA := Lib.hid ha
  have HA' := Lib.hid ha'
  clear ha ha' h h'
  by_cases hl : xs.length = ys.length
  · have HL := Lib.hid hl
    have hl1 : xs.length ≤ ys.length := by omega
    have hl2 : ys.length ≤ xs.length := by omega
    have hl3 : ((xs.length : Int) != (ys.length : Int)) = false := by simp [hl]
    clear hl
    go_enter Try.func49, Try.ntmps49
    go_wp2
    go_loopw [5] (fun i wr => ∃ k : Nat, k ≤ xs.length ∧ i = .int .i64 k ∧ Hid (xs.take k = ys.take k) ∧ New w wr) (fun i _ => xs.length - (intOf i).toNat)
    case atStart => exact ⟨0, Nat.zero_le _, rfl, Lib.hid (by simp), New.same _⟩
    case round =>
      obtain ⟨k, hk, rfl, HT, hN⟩ := hrel
      by_cases hlt : k < xs.length
      · obtain ⟨b, off, hAe⟩ := HA.out (by omega)
        subst hAe
        obtain ⟨b', off', hAe'⟩ := HA'.out (by omega)
        subst hAe'
        have hlt' : k < ys.length := by omega
        have p0 : (0 : Int) ≤ (k : Int) := by omega
        have p1 : (k : Int) < (xs.length : Int) := by omega
        have p2 : (k : Int) < (ys.length : Int) := by omega
        obtain ⟨Ax, mx, x0, bw, rx⟩ := rd_row HR.out hN rfl hlt
        obtain ⟨Ay, my, y0, bw', ry⟩ := rd_row HS.out hN rfl hlt'
        have lx0 := Later.cell x0 bw
        have ly0 := Later.cell y0 bw'
        by_cases he : xs[k] = ys[k]
        · have HT' := take_more HT.out hlt hlt' he
          have C1 := Lib.hid (fun (t : Later wr) => (eqL_yes he) ▸ c_eqInt64S _ _ _ _ _ _ xs[k] ys[k] t.w (rx.new t.new) (ry.new t.new))
          clear he
          go_upto_region 6 with fail
          (refine wp_region_later (by kernel_rfl) (by kernel_rfl) ?_; (repeat (go_big_quiet_step ((first | (go_at_call 9; exact later_of (C1.out _)))))); refine wpQuiet_nil ?_; intro wq hw'; obtain ⟨⟨wz, nq⟩, hwz⟩ := hw'; have hwz' : wq = wz := hwz; subst hwz'; clear hwz)
          clear lx0 ly0
          go_wp2
          go_roundw
          case rel => exact ⟨k + 1, by omega, by go_num, HT', hN.step nq⟩
          case measure => simp [intOf]; omega
        · have HE := Lib.hid (eqL_at hlt hlt' he)
          have C1 := Lib.hid (fun (t : Later wr) => (eqL_no he) ▸ c_eqInt64S _ _ _ _ _ _ xs[k] ys[k] t.w (rx.new t.new) (ry.new t.new))
          clear he
          go_upto_region 6 with fail
          (refine wp_region_later (by kernel_rfl) (by kernel_rfl) ?_; (repeat (go_big_quiet_step ((first | (go_at_call 9; exact later_of (C1.out _)))))); refine wpQuiet_nil ?_; intro wq hw'; obtain ⟨⟨wz, nq⟩, hwz⟩ := hw'; have hwz' : wq = wz := hwz; subst hwz'; clear hwz)
          clear lx0 ly0
          go_wp2
          go_ret
          exact ⟨ret_bool HE.out.symm, hN.step nq⟩
      · have hk' : k = xs.length := by omega
        subst hk'
        go_wp2
        go_ret
        exact ⟨ret_bool (eqL_all HL.out HT.out).symm, hN⟩
  · have HL := Lib.hid (eqL_len hl)
    have hl3 : ((xs.length : Int) != (ys.length : Int)) = true := by simp; omega
    clear hl
    go_enter Try.func49, Try.ntmps49
    go_wp2
    go_ret
    exact ⟨ret_bool HL.out.symm, New.same _⟩
theorem enters_equalI : EntersIt Try.prog 46 := enters_of Try.func46 (by kernel_rfl) rfl
set_option maxHeartbeats 2000000 in
theorem c_equalFunc_SS (lo hi lo' hi' : Nat) (v u : Value) (xs ys : List (List Int)) (w : World) (sv sv' : List Value) (h : RdSS w lo hi v xs sv) (h' : RdSS w lo' hi' u ys sv') :
    Calls Try.prog 47 #[v, u, .func (.func 46) #[] #[]] w fun e w' => e = .returned (.bool (eqL xs ys)) ∧ New w w' := by
  have HR := Lib.hid h
  have HS := Lib.hid h'
  have eg := enters_equalI
  unfold EntersIt at eg
  obtain ⟨A, c, rfl, hm, ha⟩ := rd_form h.outer
  obtain ⟨A', c', rfl, hm', ha'⟩ := rd_form h'.outer
  have HA := Lib.hid ha
  have HA' := Lib.hid ha'
  clear ha ha' h h'
  by_cases hl : xs.length = ys.length
  · have HL := Lib.hid hl
    have hl1 : xs.length ≤ ys.length := by omega
    have hl2 : ys.length ≤ xs.length := by omega
    have hl3 : ((xs.length : Int) != (ys.length : Int)) = false := by simp [hl]
    clear hl
    go_enter Try.func47, Try.ntmps47
    go_wp2
    go_loopw [7, 8, 9, 17] (fun _ _ _ i wr => ∃ k : Nat, k ≤ xs.length ∧ i = .int .i64 k ∧ Hid (xs.take k = ys.take k) ∧ New w wr) (fun _ _ _ i _ => xs.length - (intOf i).toNat)
    case atStart => exact ⟨0, Nat.zero_le _, rfl, Lib.hid (by simp), New.same _⟩
    case round =>
      obtain ⟨k, hk, rfl, HT, hN⟩ := hrel
      by_cases hlt : k < xs.length
      · obtain ⟨b, off, hAe⟩ := HA.out (by omega)
        subst hAe
        obtain ⟨b', off', hAe'⟩ := HA'.out (by omega)
        subst hAe'
        have hlt' : k < ys.length := by omega
        have p0 : (0 : Int) ≤ (k : Int) := by omega
        have p1 : (k : Int) < (xs.length : Int) := by omega
        have p2 : (k : Int) < (ys.length : Int) := by omega
        obtain ⟨Ax, mx, x0, bw, rx⟩ := rd_row HR.out hN rfl hlt
        obtain ⟨Ay, my, y0, bw', ry⟩ := rd_row HS.out hN rfl hlt'
        by_cases he : xs[k] = ys[k]
        · have HT' := take_more HT.out hlt hlt' he
          have C1 := Lib.hid ((eqL_yes he) ▸ c_equal_int64 _ _ _ _ _ _ xs[k] ys[k] _ rx ry)
          clear he
          go_wp2_with (go_at_call 46; refine (C1.out).mono ?_; rintro e w1 ⟨rfl, n1⟩)
          go_roundw
          case rel => exact ⟨k + 1, by omega, by go_num, HT', hN.step n1⟩
          case measure => simp [intOf]; omega
        · have HE := Lib.hid (eqL_at hlt hlt' he)
          have C1 := Lib.hid ((eqL_no he) ▸ c_equal_int64 _ _ _ _ _ _ xs[k] ys[k] _ rx ry)
          clear he
          go_wp2_with (go_at_call 46; refine (C1.out).mono ?_; rintro e w1 ⟨rfl, n1⟩)
          go_ret
          exact ⟨ret_bool HE.out.symm, hN.step n1⟩
      · have hk' : k = xs.length := by omega
        subst hk'
        go_wp2
        go_ret
        exact ⟨ret_bool (eqL_all HL.out HT.out).symm, hN⟩
  · have HL := Lib.hid (eqL_len hl)
    have hl3 : ((xs.length : Int) != (ys.length : Int)) = true := by simp; omega
    clear hl
    go_enter Try.func47, Try.ntmps47
    go_wp2
    go_ret
    exact ⟨ret_bool HL.out.symm, New.same _⟩
end Go.Proofs.Ythafdlfhkcbjhaa
