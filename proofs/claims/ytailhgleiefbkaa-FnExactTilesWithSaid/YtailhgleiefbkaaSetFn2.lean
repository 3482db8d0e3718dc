/- Contracts of the functions on sets: strengths and bonds. -/
import Derived.Test.YtailhgleiefbkaaSetFn
namespace Go.Proofs.Ytailhgleiefbkaa
open Go.RowKit Go.Deep
set_option linter.unusedVariables false
set_option linter.unusedSimpArgs false

/-- a side of a tile that is read -/
theorem rd_side {w wr : World} {lo hi : Nat} {v : Value} {T : List (ByteArray × List Int)} {sv : List Value} (h : RdT w lo hi v T sv) (n : New w wr) {b off c : Nat} (hv : v = .slice (some ⟨b, off, none⟩) T.length c) {k : Nat} (hk : k < T.length) {d : Nat} (hd : d < T[k].2.length) :
    ∃ bs os m, (wr.cell? ⟨b, off + k * 2 + 1, none⟩ = some (.slice (some ⟨bs, os, none⟩) T[k].2.length m) ∧ b < wr.heap.size) ∧ wr.cell? ⟨bs, os + d, none⟩ = some (.int .i64 T[k].2[d]) ∧ bs < wr.heap.size := by
  obtain ⟨A, m, ⟨_, x1⟩, hb, rx, _⟩ := rd_tl h n hv hk
  obtain ⟨_, _, e, _, hs⟩ := rd_form rx
  obtain ⟨bs, os, hA⟩ := hs (by omega)
  have hA' : A = some ⟨bs, os, none⟩ := by cases e; exact hA
  subst hA'
  obtain ⟨y0, yl⟩ := rd_i rx (New.same _) rfl hd
  exact ⟨bs, os, m, ⟨x1, hb⟩, y0, yl⟩
/-- the strength of a glue by its number -/
def stV (G : List (ByteArray × Int)) (g : Int) : Int := if g = 0 then 0 else (G.getD (g - 1).toNat default).2
def opN (d : Nat) : Nat := (d + 2) % 4
def sdV (T : List (ByteArray × List Int)) (t d : Nat) : Int := (T.getD t default).2.getD d 0
theorem sdV_at {T : List (ByteArray × List Int)} {t d : Nat} (ht : t < T.length) (hd : d < T[t].2.length) : sdV T t d = T[t].2[d] := by
  simp [sdV, List.getD_eq_getElem?_getD, ht, hd]
theorem stV_suc {G : List (ByteArray × Int)} {j : Nat} (hj : j < G.length) {g : Int} (e : g = (j : Int) + 1) : stV G g = G[j].2 := by
  subst e
  have : ((j : Int) + 1 - 1).toNat = j := by omega
  simp [stV, List.getD_eq_getElem?_getD, hj, this]
  omega
def bdV (G : List (ByteArray × Int)) (T : List (ByteArray × List Int)) (a d b : Nat) : Int := if sdV T a d = sdV T b (opN d) then stV G (sdV T a d) else 0

theorem c_opposite (d : Nat) (hd : d < 4) (w : World) : Calls Try.prog 73 #[.int .i64 d] w fun e w' => e = .returned (.int .i64 (opN d : Nat)) ∧ w = w' := by
  obtain rfl | rfl | rfl | rfl : d = 0 ∨ d = 1 ∨ d = 2 ∨ d = 3 := by omega
  all_goals
    go_enter Try.func73, Try.ntmps73
    go_wp2
    go_ret
    exact ⟨rfl, rfl⟩
theorem c_specOpposite (d : Nat) (hd : d < 4) (w : World) : Calls Try.prog 70 #[.int .i64 d] w fun e w' => e = .returned (.int .i64 (opN d : Nat)) ∧ w = w' := by
  have hi : inB d 0 3 = true := inB_yes (by omega) (by omega)
  have HI := Lib.hid hi
  clear hi
  obtain rfl | rfl | rfl | rfl : d = 0 ∨ d = 1 ∨ d = 2 ∨ d = 3 := by omega
  all_goals
    go_enter Try.func70, Try.ntmps70
    go_wp2_with (go_at_call 65; refine (c_l01Dir _ _).mono ?_; rintro e w' ⟨rfl, rfl⟩; first | rw [HI.out] | skip)
    go_ret
    exact ⟨rfl, rfl⟩

set_option maxHeartbeats 1000000 in
theorem c_l02Strength (b0 lo hi : Nat) (gv tv : Value) (G : List (ByteArray × Int)) (T : List (ByteArray × List Int)) (sv : List Value) (g : Int) (w : World) (B0 : BoxV w b0 [gv, tv]) (h : RdS w lo hi gv tv G T sv) (g0 : 0 ≤ g) (g1 : g ≤ G.length) (hn : G.length ≤ 200) :
    Calls Try.prog 66 #[.pointer (some ⟨b0, 0, none⟩), .int .i64 g] w fun e w' => e = .returned (.int .i64 (stV G g)) ∧ w = w' := by
  obtain ⟨A, c, B, d0, rfl, rfl⟩ := h.form
  have HH := Lib.hid h
  obtain ⟨A', c', e1, hm, ha⟩ := rd_form h.glues
  obtain ⟨B', d', e2, hm', hb⟩ := rd_form h.tiles.outer
  obtain ⟨rfl, rfl⟩ : A = A' ∧ c = c' := by simpa using e1
  obtain ⟨rfl, rfl⟩ : B = B' ∧ d0 = d' := by simpa using e2
  clear e1 e2 h
  have ⟨⟨bx0, by0⟩, _, bl0⟩ := B0.at2
  by_cases hq : g = 0
  · subst hq
    go_enter Try.func66, Try.ntmps66
    go_wp2
    go_ret
    exact ⟨rfl, rfl⟩
  · obtain ⟨j, hj⟩ : ∃ j : Nat, g = (j : Int) + 1 := ⟨(g - 1).toNat, by omega⟩
    have hjl : j < G.length := by omega
    have E := Lib.hid (stV_suc hjl hj)
    have g2 : (g == 0) = false := by simpa using hq
    have g3 : IntKind.i64.wrap (g - 1) = (j : Int) := by rw [IntWalk.i64_in _ (by omega)]; omega
    obtain ⟨b, off, hAe⟩ := ha (by omega)
    subst hAe
    have p0 : (0 : Int) ≤ (j : Int) := by omega
    have p1 : (j : Int) < (G.length : Int) := by omega
    obtain ⟨⟨x0, x1⟩, bw⟩ := rd_gl HH.out.glues (New.same w) rfl hjl
    clear hq hj ha hb
    go_enter Try.func66, Try.ntmps66
    go_wp2
    go_ret
    exact ⟨ret_int E.out.symm, rfl⟩
set_option maxHeartbeats 1000000 in
theorem c_strength (lo hi : Nat) (gv tv : Value) (G : List (ByteArray × Int)) (T : List (ByteArray × List Int)) (sv : List Value) (t d : Nat) (w : World) (h : RdS w lo hi gv tv G T sv) (hs : setB G T = true) (htl : t < T.length) (hd : d < 4) :
    Calls Try.prog 69 #[.agg #[gv, tv], .int .i64 t, .int .i64 d] w fun e w' => e = .returned (.int .i64 (stV G (sdV T t d))) ∧ New w w' := by
  obtain ⟨i1, i2, i3, i4⟩ := set_in hs
  obtain ⟨i5, i6⟩ := i4 t htl
  have hdl : d < T[t].2.length := by omega
  obtain ⟨i7, i8⟩ := i6 d hdl
  rw [sdV_at htl hdl]
  obtain ⟨A, c, B, d0, rfl, rfl⟩ := h.form
  have HH := Lib.hid h
  obtain ⟨A', c', e1, hm, ha⟩ := rd_form h.glues
  obtain ⟨B', d', e2, hm', hb⟩ := rd_form h.tiles.outer
  obtain ⟨rfl, rfl⟩ : A = A' ∧ c = c' := by simpa using e1
  obtain ⟨rfl, rfl⟩ : B = B' ∧ d0 = d' := by simpa using e2
  clear e1 e2 h
  have n0 : New w (w.alloc (.cells #[.slice A G.length c, .slice B T.length d0] 31)) := (New.same w).box _
  have B0 : BoxV (w.alloc (.cells #[.slice A G.length c, .slice B T.length d0] 31)) w.heap.size [.slice A G.length c, .slice B T.length d0] := .two (by go_simp) (by go_simp) (by go_simp) (by go_simp) (by simp)
  have hz : w.heap.size + 1 ≤ (w.alloc (.cells #[.slice A G.length c, .slice B T.length d0] 31)).heap.size := by simp
  obtain ⟨b, off, hAe⟩ := hb (by omega)
  subst hAe
  obtain ⟨bs, os, m, ⟨x1, bw⟩, y0, yl⟩ := rd_side HH.out.tiles n0 rfl htl hdl
  have p0 : (0 : Int) ≤ (t : Int) := by omega
  have p1 : (t : Int) < (T.length : Int) := by omega
  have p2 : (0 : Int) ≤ (d : Int) := by omega
  have p3 : (d : Int) < (T[t].2.length : Int) := by omega
  by_cases hq : T[t].2[d] = 0
  · have E := Lib.hid (show stV G T[t].2[d] = 0 by simp [stV, hq])
    have g2 : decide (0 < T[t].2[d]) = false := by simp [hq]
    clear hq ha hb hs i6
    go_enter Try.func69, Try.ntmps69
    go_wp2
    go_ret
    exact ⟨ret_int E.out.symm, n0⟩
  · obtain ⟨j, hj⟩ : ∃ j : Nat, T[t].2[d] = (j : Int) + 1 := ⟨(T[t].2[d] - 1).toNat, by omega⟩
    have hjl : j < G.length := by omega
    have E := Lib.hid (stV_suc hjl hj)
    have g2 : decide (0 < T[t].2[d]) = true := by simp; omega
    have g3 : IntKind.i64.wrap (T[t].2[d] - 1) = (j : Int) := by rw [IntWalk.i64_in _ (by omega)]; omega
    obtain ⟨bg, og, hAg⟩ := ha (by omega)
    subst hAg
    have p4 : (0 : Int) ≤ (j : Int) := by omega
    have p5 : (j : Int) < (G.length : Int) := by omega
    obtain ⟨⟨z0, z1⟩, zl⟩ := rd_gl HH.out.glues n0 rfl hjl
    clear hq hj ha hb hs i6
    go_enter Try.func69, Try.ntmps69
    go_wp2
    go_ret
    exact ⟨ret_int E.out.symm, n0⟩
set_option maxHeartbeats 1000000 in
theorem c_l02Index (b0 : Nat) (gv : Value) (A : Option Addr) (n c : Nat) (i : Int) (w : World) (B0 : BoxV w b0 [gv, .slice A n c]) (hn : n ≤ 9223372036854775807) :
    Calls Try.prog 64 #[.pointer (some ⟨b0, 0, none⟩), .int .i64 i] w fun e w' => e = .returned (.bool (inB i 0 ((n : Int) - 1))) ∧ w = w' := by
  have ⟨⟨bx0, by0⟩, _, bl0⟩ := B0.at2
  have e1 : IntKind.i64.wrap ((n : Int) - 1) = (n : Int) - 1 := IntWalk.i64_in _ (by omega)
  go_enter Try.func64, Try.ntmps64
  go_wp2_with (go_at_call 76; refine (c_l00In _ _ _ _).mono ?_; rintro e w' ⟨rfl, rfl⟩)
  go_ret
  exact ⟨rfl, rfl⟩
set_option maxHeartbeats 1000000 in
theorem c_isTile (gv : Value) (A : Option Addr) (n c : Nat) (i : Int) (w : World) (hn : n ≤ 9223372036854775807) (hgv : gv.oneCell' = true) :
    Calls Try.prog 67 #[.agg #[gv, .slice A n c], .int .i64 i] w fun e w' => e = .returned (.bool (inB i 0 ((n : Int) - 1))) ∧ New w w' := by
  go_enter Try.func67, Try.ntmps67
  go_wp2_with (go_at_call 105; refine (c_isIndex _ _ _ (by omega) (by omega)).mono ?_; rintro e w' ⟨rfl, rfl⟩)
  go_ret
  exact ⟨rfl, by go_grown⟩

set_option maxRecDepth 20000 in
set_option maxHeartbeats 2000000 in
theorem c_l02Bond (b0 lo hi : Nat) (gv tv : Value) (G : List (ByteArray × Int)) (T : List (ByteArray × List Int)) (sv : List Value) (a d b : Nat) (w : World) (B0 : BoxV w b0 [gv, tv]) (h : RdS w lo hi gv tv G T sv) (hs : setB G T = true) (hal : a < T.length) (hd : d < 4) (hbl : b < T.length) :
    Calls Try.prog 74 #[.pointer (some ⟨b0, 0, none⟩), .int .i64 a, .int .i64 d, .int .i64 b] w fun e w' => e = .returned (.int .i64 (bdV G T a d b)) ∧ New w w' := by
  obtain ⟨i1, i2, i3, i4⟩ := set_in hs
  obtain ⟨i5, i6⟩ := i4 a hal
  obtain ⟨j5, j6⟩ := i4 b hbl
  have hda : d < T[a].2.length := by omega
  have ho : opN d < 4 := Nat.mod_lt _ (by omega)
  have hdb : opN d < T[b].2.length := by omega
  obtain ⟨i7, i8⟩ := i6 d hda
  have ev : bdV G T a d b = if T[a].2[d] = T[b].2[opN d] then stV G T[a].2[d] else 0 := by unfold bdV; rw [sdV_at hal hda, sdV_at hbl hdb]
  have p0 : (0 : Int) ≤ (a : Int) := by omega
  have p1 : (a : Int) < (T.length : Int) := by omega
  have p2 : (0 : Int) ≤ (d : Int) := by omega
  have p3 : (d : Int) < (T[a].2.length : Int) := by omega
  have p4 : (0 : Int) ≤ (b : Int) := by omega
  have p5 : (b : Int) < (T.length : Int) := by omega
  have p6 : (0 : Int) ≤ (opN d : Int) := by omega
  have p7 : (opN d : Int) < (T[b].2.length : Int) := by omega
  obtain ⟨A, c, B, d0, rfl, rfl⟩ := h.form
  have HH := Lib.hid h
  obtain ⟨A', c', e1, hm, ha⟩ := rd_form h.glues
  obtain ⟨B', d', e2, hm', hb⟩ := rd_form h.tiles.outer
  obtain ⟨rfl, rfl⟩ : A = A' ∧ c = c' := by simpa using e1
  obtain ⟨rfl, rfl⟩ : B = B' ∧ d0 = d' := by simpa using e2
  clear e1 e2 h
  obtain ⟨bt, off, hAe⟩ := hb (by omega)
  subst hAe
  obtain ⟨bs, os, m, ⟨x1, bw⟩, y0, yl⟩ := rd_side HH.out.tiles (New.same w) rfl hal hda
  obtain ⟨bs', os', m', ⟨x1', bw'⟩, y0', yl'⟩ := rd_side HH.out.tiles (New.same w) rfl hbl hdb
  have ⟨⟨bx0, by0⟩, _, bl0⟩ := B0.at2
  clear ha hb hs i4 i6 j6
  go_enter Try.func74, Try.ntmps74
  go_upto_region 2 with fail
  have lb := Later.cell by0 bl0
  have lx := Later.cell x1' bw'
  have ly := Later.cell y0' yl'
  have C1 := Lib.hid (fun (w : World) => c_specOpposite d hd w)
  by_cases hq : T[a].2[d] = T[b].2[opN d]
  · have E := Lib.hid (show bdV G T a d b = stV G T[a].2[d] by rw [ev, if_pos hq])
    have g2 : (T[a].2[d] != T[b].2[opN d]) = false := by simpa using hq
    clear hq ev
    (refine wp_region_later (by kernel_rfl) (by kernel_rfl) ?_; (repeat (go_big_quiet_step ((first | (go_at_call 70; exact later_same (C1.out _)))))); refine wpQuiet_nil ?_; intro wq hw'; obtain ⟨⟨wz, nq⟩, hwz⟩ := hw'; have hwz' : wq = wz := hwz; subst hwz'; clear hwz)
    clear lb lx ly
    go_wp2_with (go_at_call 66; refine (c_l02Strength _ _ _ _ _ G T sv _ _ (B0.new nq) (HH.out.new nq) i7 i8 i1).mono ?_; rintro e w' ⟨rfl, rfl⟩)
    go_ret
    exact ⟨ret_int E.out.symm, nq⟩
  · have E := Lib.hid (show bdV G T a d b = 0 by rw [ev, if_neg hq])
    have g2 : (T[a].2[d] != T[b].2[opN d]) = true := by simpa using hq
    clear hq ev
    (refine wp_region_later (by kernel_rfl) (by kernel_rfl) ?_; (repeat (go_big_quiet_step ((first | (go_at_call 70; exact later_same (C1.out _)))))); refine wpQuiet_nil ?_; intro wq hw'; obtain ⟨⟨wz, nq⟩, hwz⟩ := hw'; have hwz' : wq = wz := hwz; subst hwz'; clear hwz)
    clear lb lx ly
    go_wp2
    go_ret
    exact ⟨ret_int E.out.symm, nq⟩
set_option maxRecDepth 20000 in
set_option maxHeartbeats 2000000 in
theorem c_bond (lo hi : Nat) (gv tv : Value) (G : List (ByteArray × Int)) (T : List (ByteArray × List Int)) (sv : List Value) (a d b : Nat) (w : World) (h : RdS w lo hi gv tv G T sv) (hs : setB G T = true) (hal : a < T.length) (hd : d < 4) (hbl : b < T.length) :
    Calls Try.prog 75 #[.agg #[gv, tv], .int .i64 a, .int .i64 d, .int .i64 b] w fun e w' => e = .returned (.int .i64 (bdV G T a d b)) ∧ New w w' := by
  obtain ⟨i1, i2, i3, i4⟩ := set_in hs
  obtain ⟨i5, i6⟩ := i4 a hal
  obtain ⟨j5, j6⟩ := i4 b hbl
  have hda : d < T[a].2.length := by omega
  have ho : opN d < 4 := Nat.mod_lt _ (by omega)
  have hdb : opN d < T[b].2.length := by omega
  obtain ⟨i7, i8⟩ := i6 d hda
  have ev : bdV G T a d b = if T[a].2[d] = T[b].2[opN d] then stV G T[a].2[d] else 0 := by unfold bdV; rw [sdV_at hal hda, sdV_at hbl hdb]
  have p0 : (0 : Int) ≤ (a : Int) := by omega
  have p1 : (a : Int) < (T.length : Int) := by omega
  have p2 : (0 : Int) ≤ (d : Int) := by omega
  have p3 : (d : Int) < (T[a].2.length : Int) := by omega
  have p4 : (0 : Int) ≤ (b : Int) := by omega
  have p5 : (b : Int) < (T.length : Int) := by omega
  have p6 : (0 : Int) ≤ (opN d : Int) := by omega
  have p7 : (opN d : Int) < (T[b].2.length : Int) := by omega
  obtain ⟨A, c, B, d0, rfl, rfl⟩ := h.form
  have HH := Lib.hid h
  obtain ⟨A', c', e1, hm, ha⟩ := rd_form h.glues
  obtain ⟨B', d', e2, hm', hb⟩ := rd_form h.tiles.outer
  obtain ⟨rfl, rfl⟩ : A = A' ∧ c = c' := by simpa using e1
  obtain ⟨rfl, rfl⟩ : B = B' ∧ d0 = d' := by simpa using e2
  clear e1 e2 h
  have n0 : New w (w.alloc (.cells #[.slice A G.length c, .slice B T.length d0] 31)) := (New.same w).box _
  have B0 : BoxV (w.alloc (.cells #[.slice A G.length c, .slice B T.length d0] 31)) w.heap.size [.slice A G.length c, .slice B T.length d0] := .two (by go_simp) (by go_simp) (by go_simp) (by go_simp) (by simp)
  have hz : w.heap.size + 1 ≤ (w.alloc (.cells #[.slice A G.length c, .slice B T.length d0] 31)).heap.size := by simp
  obtain ⟨bt, off, hAe⟩ := hb (by omega)
  subst hAe
  obtain ⟨bs, os, m, ⟨x1, bw⟩, y0, yl⟩ := rd_side HH.out.tiles n0 rfl hal hda
  obtain ⟨bs', os', m', ⟨x1', bw'⟩, y0', yl'⟩ := rd_side HH.out.tiles n0 rfl hbl hdb
  have HS := Lib.hid hs
  clear ha hb hs i4 i6 j6
  go_enter Try.func75, Try.ntmps75
  go_upto_region 1 with fail
  generalize (w.alloc (.cells #[.slice A G.length c, .slice (some ⟨bt, off, none⟩) T.length d0] 31)) = W0 at *
  have ⟨⟨bx0, by0⟩, _, bl0⟩ := B0.at2
  have lb := Later.cell by0 bl0
  have lx := Later.cell x1 bw
  have ly := Later.cell y0 yl
  have lx' := Later.cell x1' bw'
  have ly' := Later.cell y0' yl'
  have C1 := Lib.hid (fun (w : World) => c_opposite d hd w)
  by_cases hq : T[a].2[d] = T[b].2[opN d]
  · have E := Lib.hid (show bdV G T a d b = stV G (sdV T a d) by rw [ev, if_pos hq, sdV_at hal hda])
    have g2 : (T[a].2[d] == T[b].2[opN d]) = true := by simpa using hq
    clear hq ev
    (refine wp_region_later (by kernel_rfl) (by kernel_rfl) ?_; (repeat (go_big_quiet_step ((first | (go_at_call 73; exact later_same (C1.out _)))))); refine wpQuiet_nil ?_; intro wq hw'; obtain ⟨⟨wz, nq⟩, hwz⟩ := hw'; have hwz' : wq = wz := hwz; subst hwz'; clear hwz)
    clear lb lx ly lx' ly' bx0 by0 bl0
    have ⟨⟨bx0, by0⟩, _, bl0⟩ := (B0.new nq).at2
    go_wp2_with (go_at_call 69; refine (c_strength _ _ _ _ G T sv a d _ ((HH.out.new n0).new nq) HS.out hal hd).mono ?_; rintro e w9 ⟨rfl, n9⟩)
    go_ret
    exact ⟨ret_int E.out.symm, (n0.step nq).step n9⟩
  · have E := Lib.hid (show bdV G T a d b = 0 by rw [ev, if_neg hq])
    have g2 : (T[a].2[d] == T[b].2[opN d]) = false := by simpa using hq
    clear hq ev
    (refine wp_region_later (by kernel_rfl) (by kernel_rfl) ?_; (repeat (go_big_quiet_step ((first | (go_at_call 73; exact later_same (C1.out _)))))); refine wpQuiet_nil ?_; intro wq hw'; obtain ⟨⟨wz, nq⟩, hwz⟩ := hw'; have hwz' : wq = wz := hwz; subst hwz'; clear hwz)
    clear lb lx ly lx' ly'
    go_wp2
    go_ret
    exact ⟨ret_int E.out.symm, n0.step nq⟩

/-- a number and a code -/
def ncV (q : Int × Int) : Value := .tuple #[.int .i64 q.1, .int .i64 q.2]
def soV (G : List (ByteArray × Int)) (T : List (ByteArray × List Int)) (t d : Int) : Int × Int := if setB G T then (if inB t 0 ((T.length : Int) - 1) && inB d 0 3 then (stV G (sdV T t.toNat d.toNat), 0) else (0, 2)) else (0, 1)
def boV (G : List (ByteArray × Int)) (T : List (ByteArray × List Int)) (a d b : Int) : Int × Int := if setB G T then (if inB a 0 ((T.length : Int) - 1) && (inB b 0 ((T.length : Int) - 1) && inB d 0 3) then (bdV G T a.toNat d.toNat b.toNat, 0) else (0, 2)) else (0, 1)

set_option maxRecDepth 20000 in
set_option maxHeartbeats 4000000 in
theorem c_specStrengthOf (lo hi : Nat) (gv tv : Value) (G : List (ByteArray × Int)) (T : List (ByteArray × List Int)) (sv : List Value) (a d : Int) (w : World) (h : RdS w lo hi gv tv G T sv) (hg : ∀ g ∈ G, g.1.size ≤ maxLen) (ht : ∀ t ∈ T, t.1.size ≤ maxLen) :
    Calls Try.prog 24 #[.agg #[gv, tv], .int .i64 a, .int .i64 d] w fun e w' => e = .returned (ncV (soV G T a d)) ∧ New w w' := by
  obtain ⟨A, c, B, d0, rfl, rfl⟩ := h.form
  have HH := Lib.hid h
  obtain ⟨A', c', e1, hm, ha⟩ := rd_form h.glues
  obtain ⟨B', d', e2, hm', hb⟩ := rd_form h.tiles.outer
  obtain ⟨rfl, rfl⟩ : A = A' ∧ c = c' := by simpa using e1
  obtain ⟨rfl, rfl⟩ : B = B' ∧ d0 = d' := by simpa using e2
  clear e1 e2 h
  have n0 : New w (w.alloc (.cells #[.slice A G.length c, .slice B T.length d0] 31)) := (New.same w).box _
  have B0 : BoxV (w.alloc (.cells #[.slice A G.length c, .slice B T.length d0] 31)) w.heap.size [.slice A G.length c, .slice B T.length d0] := .two (by go_simp) (by go_simp) (by go_simp) (by go_simp) (by simp)
  have hz : w.heap.size + 1 ≤ (w.alloc (.cells #[.slice A G.length c, .slice B T.length d0] 31)).heap.size := by simp
  cases hs : setB G T
  · have E := Lib.hid (show soV G T a d = (0, 1) by simp [soV, hs])
    have HS := Lib.hid hs
    clear hs
    go_enter Try.func24, Try.ntmps24
    go_wp2_with fail
    generalize (w.alloc (.cells #[.slice A G.length c, .slice B T.length d0] 31)) = W0 at *
    refine (c_l02Ok _ _ _ _ _ G T sv _ B0 (HH.out.new n0) hg ht).mono ?_
    rintro e w1 ⟨rfl, n1⟩
    rw [HS.out]
    go_wp2
    go_ret2
    exact ⟨by rw [E.out]; rfl, n0.step n1⟩
  have HS := Lib.hid hs
  have ⟨i1, i2, i3, i4⟩ := set_in hs
  cases qa : inB a 0 ((T.length : Int) - 1)
  · have E := Lib.hid (show soV G T a d = (0, 2) by simp [soV, hs, qa])
    have Qa := Lib.hid qa
    clear qa hs
    go_enter Try.func24, Try.ntmps24
    go_wp2_with fail
    generalize (w.alloc (.cells #[.slice A G.length c, .slice B T.length d0] 31)) = W0 at *
    refine (c_l02Ok _ _ _ _ _ G T sv _ B0 (HH.out.new n0) hg ht).mono ?_
    rintro e w1 ⟨rfl, n1⟩
    rw [HS.out]
    have N1 := n0.step n1
    have B1 := B0.new n1
    have ⟨⟨x0, y0⟩, _, l0⟩ := B1.at2
    go_wp2_with (first | (go_at_call_of 64 (Value.int IntKind.i64 a); refine (c_l02Index _ _ _ _ _ _ _ B1 (by omega)).mono ?_; rintro e w8 ⟨rfl, rfl⟩; rw [Qa.out]))
    go_ret2
    exact ⟨by rw [E.out]; rfl, N1⟩
  · skip
    cases qd : inB d 0 (3)
    · have E := Lib.hid (show soV G T a d = (0, 2) by simp [soV, hs, qa, qd])
      have Qa := Lib.hid qa
      have Qd := Lib.hid qd
      clear qa qd hs
      go_enter Try.func24, Try.ntmps24
      go_wp2_with fail
      generalize (w.alloc (.cells #[.slice A G.length c, .slice B T.length d0] 31)) = W0 at *
      refine (c_l02Ok _ _ _ _ _ G T sv _ B0 (HH.out.new n0) hg ht).mono ?_
      rintro e w1 ⟨rfl, n1⟩
      rw [HS.out]
      have N1 := n0.step n1
      have B1 := B0.new n1
      have ⟨⟨x0, y0⟩, _, l0⟩ := B1.at2
      go_wp2_with (first | (go_at_call_of 64 (Value.int IntKind.i64 a); refine (c_l02Index _ _ _ _ _ _ _ B1 (by omega)).mono ?_; rintro e w8 ⟨rfl, rfl⟩; rw [Qa.out]) | (go_at_call 65; refine (c_l01Dir _ _).mono ?_; rintro e w8 ⟨rfl, rfl⟩; rw [Qd.out]))
      go_ret2
      exact ⟨by rw [E.out]; rfl, N1⟩
    · skip
      have E := Lib.hid (show soV G T a d = (stV G (sdV T a.toNat d.toNat), 0) by simp [soV, hs, qa, qd])
      have Qa := Lib.hid qa
      have Qd := Lib.hid qd
      obtain ⟨an, rfl⟩ : ∃ n : Nat, a = (n : Int) := ⟨a.toNat, by have := inB_iff.1 qa; omega⟩
      obtain ⟨dn, rfl⟩ : ∃ n : Nat, d = (n : Int) := ⟨d.toNat, by have := inB_iff.1 qd; omega⟩
      have hal : an < T.length := by have := inB_iff.1 qa; omega
      have hdl : dn < 4 := by have := inB_iff.1 qd; omega
      clear qa qd hs
      go_enter Try.func24, Try.ntmps24
      go_wp2_with fail
      generalize (w.alloc (.cells #[.slice A G.length c, .slice B T.length d0] 31)) = W0 at *
      refine (c_l02Ok _ _ _ _ _ G T sv _ B0 (HH.out.new n0) hg ht).mono ?_
      rintro e w1 ⟨rfl, n1⟩
      rw [HS.out]
      have N1 := n0.step n1
      have B1 := B0.new n1
      have ⟨⟨x0, y0⟩, _, l0⟩ := B1.at2
      obtain ⟨i5, i6⟩ := i4 an hal
      have hd4 : dn < T[an].2.length := by omega
      obtain ⟨i7, i8⟩ := i6 dn hd4
      obtain ⟨bt, off, hAe⟩ := hb (by omega)
      subst hAe
      obtain ⟨bs, os, m, ⟨x1, bw⟩, u0, ul⟩ := rd_side HH.out.tiles N1 rfl hal hd4
      have p0 : (0 : Int) ≤ (an : Int) := by omega
      have p1 : (an : Int) < (T.length : Int) := by omega
      have p2 : (0 : Int) ≤ (dn : Int) := by omega
      have p3 : (dn : Int) < (T[an].2.length : Int) := by omega
      have E2 := Lib.hid (show sdV T an dn = T[an].2[dn] from sdV_at hal hd4)
      go_wp2_with (first | (go_at_call_of 64 (Value.int IntKind.i64 (an : Int)); refine (c_l02Index _ _ _ _ _ _ _ B1 (by omega)).mono ?_; rintro e w8 ⟨rfl, rfl⟩; rw [Qa.out]) | (go_at_call 65; refine (c_l01Dir _ _).mono ?_; rintro e w8 ⟨rfl, rfl⟩; rw [Qd.out]) | (go_at_call 66; refine (c_l02Strength _ _ _ _ _ G T sv _ _ B1 ((HH.out.new n0).new n1) i7 i8 i1).mono ?_; rintro e w9 ⟨rfl, rfl⟩))
      go_ret2
      exact ⟨by rw [E.out]; simp only [Int.toNat_natCast]; rw [E2.out]; rfl, N1⟩

set_option maxRecDepth 20000 in
set_option maxHeartbeats 4000000 in
theorem c_implStrengthOf (lo hi : Nat) (gv tv : Value) (G : List (ByteArray × Int)) (T : List (ByteArray × List Int)) (sv : List Value) (a d : Int) (w : World) (h : RdS w lo hi gv tv G T sv) (hg : ∀ g ∈ G, g.1.size ≤ maxLen) (ht : ∀ t ∈ T, t.1.size ≤ maxLen) :
    Calls Try.prog 25 #[.agg #[gv, tv], .int .i64 a, .int .i64 d] w fun e w' => e = .returned (ncV (soV G T a d)) ∧ New w w' := by
  obtain ⟨A, c, B, d0, rfl, rfl⟩ := h.form
  have HH := Lib.hid h
  obtain ⟨A', c', e1, hm, ha⟩ := rd_form h.glues
  obtain ⟨B', d', e2, hm', hb⟩ := rd_form h.tiles.outer
  obtain ⟨rfl, rfl⟩ : A = A' ∧ c = c' := by simpa using e1
  obtain ⟨rfl, rfl⟩ : B = B' ∧ d0 = d' := by simpa using e2
  clear e1 e2 h
  have n0 : New w (w.alloc (.cells #[.slice A G.length c, .slice B T.length d0] 31)) := (New.same w).box _
  have B0 : BoxV (w.alloc (.cells #[.slice A G.length c, .slice B T.length d0] 31)) w.heap.size [.slice A G.length c, .slice B T.length d0] := .two (by go_simp) (by go_simp) (by go_simp) (by go_simp) (by simp)
  have hz : w.heap.size + 1 ≤ (w.alloc (.cells #[.slice A G.length c, .slice B T.length d0] 31)).heap.size := by simp
  cases hs : setB G T
  · have E := Lib.hid (show soV G T a d = (0, 1) by simp [soV, hs])
    have HS := Lib.hid hs
    clear hs
    go_enter Try.func25, Try.ntmps25
    go_wp2_with fail
    generalize (w.alloc (.cells #[.slice A G.length c, .slice B T.length d0] 31)) = W0 at *
    refine (c_implValidSet _ _ _ _ G T sv _ (HH.out.new n0) hg ht).mono ?_
    rintro e w1 ⟨rfl, n1⟩
    rw [HS.out]
    go_wp2
    go_ret2
    exact ⟨by rw [E.out]; rfl, n0.step n1⟩
  have HS := Lib.hid hs
  have ⟨i1, i2, i3, i4⟩ := set_in hs
  cases qa : inB a 0 ((T.length : Int) - 1)
  · have E := Lib.hid (show soV G T a d = (0, 2) by simp [soV, hs, qa])
    have Qa := Lib.hid qa
    clear qa hs
    go_enter Try.func25, Try.ntmps25
    go_wp2_with fail
    generalize (w.alloc (.cells #[.slice A G.length c, .slice B T.length d0] 31)) = W0 at *
    refine (c_implValidSet _ _ _ _ G T sv _ (HH.out.new n0) hg ht).mono ?_
    rintro e w1 ⟨rfl, n1⟩
    rw [HS.out]
    have N1 := n0.step n1
    have B1 := B0.new n1
    have ⟨⟨x0, y0⟩, _, l0⟩ := B1.at2
    go_wp2_with fail
    refine (c_isTile _ _ _ _ _ _ (by omega) (by rfl)).mono ?_
    rintro e w2 ⟨rfl, n2⟩
    rw [Qa.out]
    clear x0 y0 l0
    replace N1 := N1.step n2
    replace B1 := B1.new n2
    have ⟨⟨x0, y0⟩, _, l0⟩ := B1.at2
    go_wp2
    go_ret2
    exact ⟨by rw [E.out]; rfl, N1⟩
  · skip
    cases qd : inB d 0 (3)
    · have E := Lib.hid (show soV G T a d = (0, 2) by simp [soV, hs, qa, qd])
      have Qa := Lib.hid qa
      have Qd := Lib.hid qd
      clear qa qd hs
      go_enter Try.func25, Try.ntmps25
      go_wp2_with fail
      generalize (w.alloc (.cells #[.slice A G.length c, .slice B T.length d0] 31)) = W0 at *
      refine (c_implValidSet _ _ _ _ G T sv _ (HH.out.new n0) hg ht).mono ?_
      rintro e w1 ⟨rfl, n1⟩
      rw [HS.out]
      have N1 := n0.step n1
      have B1 := B0.new n1
      have ⟨⟨x0, y0⟩, _, l0⟩ := B1.at2
      go_wp2_with fail
      refine (c_isTile _ _ _ _ _ _ (by omega) (by rfl)).mono ?_
      rintro e w2 ⟨rfl, n2⟩
      rw [Qa.out]
      clear x0 y0 l0
      replace N1 := N1.step n2
      replace B1 := B1.new n2
      have ⟨⟨x0, y0⟩, _, l0⟩ := B1.at2
      go_wp2_with fail
      refine (c_isDir _ _).mono ?_
      rintro e w8 ⟨rfl, rfl⟩
      rw [Qd.out]
      go_wp2
      go_ret2
      exact ⟨by rw [E.out]; rfl, N1⟩
    · skip
      have E := Lib.hid (show soV G T a d = (stV G (sdV T a.toNat d.toNat), 0) by simp [soV, hs, qa, qd])
      have Qa := Lib.hid qa
      have Qd := Lib.hid qd
      obtain ⟨an, rfl⟩ : ∃ n : Nat, a = (n : Int) := ⟨a.toNat, by have := inB_iff.1 qa; omega⟩
      obtain ⟨dn, rfl⟩ : ∃ n : Nat, d = (n : Int) := ⟨d.toNat, by have := inB_iff.1 qd; omega⟩
      have hal : an < T.length := by have := inB_iff.1 qa; omega
      have hdl : dn < 4 := by have := inB_iff.1 qd; omega
      clear qa qd hs
      go_enter Try.func25, Try.ntmps25
      go_wp2_with fail
      generalize (w.alloc (.cells #[.slice A G.length c, .slice B T.length d0] 31)) = W0 at *
      refine (c_implValidSet _ _ _ _ G T sv _ (HH.out.new n0) hg ht).mono ?_
      rintro e w1 ⟨rfl, n1⟩
      rw [HS.out]
      have N1 := n0.step n1
      have B1 := B0.new n1
      have ⟨⟨x0, y0⟩, _, l0⟩ := B1.at2
      go_wp2_with fail
      refine (c_isTile _ _ _ _ _ _ (by omega) (by rfl)).mono ?_
      rintro e w2 ⟨rfl, n2⟩
      rw [Qa.out]
      clear x0 y0 l0
      replace N1 := N1.step n2
      replace B1 := B1.new n2
      have ⟨⟨x0, y0⟩, _, l0⟩ := B1.at2
      go_wp2_with fail
      refine (c_isDir _ _).mono ?_
      rintro e w8 ⟨rfl, rfl⟩
      rw [Qd.out]
      go_wp2_with fail
      refine (c_strength _ _ _ _ G T sv an dn _ (HH.out.new N1) HS.out hal hdl).mono ?_
      rintro e w9 ⟨rfl, n9⟩
      go_wp2
      go_ret2
      exact ⟨by rw [E.out]; rfl, N1.step n9⟩

set_option maxRecDepth 20000 in
set_option maxHeartbeats 4000000 in
theorem c_specBondOf (lo hi : Nat) (gv tv : Value) (G : List (ByteArray × Int)) (T : List (ByteArray × List Int)) (sv : List Value) (a d b : Int) (w : World) (h : RdS w lo hi gv tv G T sv) (hg : ∀ g ∈ G, g.1.size ≤ maxLen) (ht : ∀ t ∈ T, t.1.size ≤ maxLen) :
    Calls Try.prog 28 #[.agg #[gv, tv], .int .i64 a, .int .i64 d, .int .i64 b] w fun e w' => e = .returned (ncV (boV G T a d b)) ∧ New w w' := by
  obtain ⟨A, c, B, d0, rfl, rfl⟩ := h.form
  have HH := Lib.hid h
  obtain ⟨A', c', e1, hm, ha⟩ := rd_form h.glues
  obtain ⟨B', d', e2, hm', hb⟩ := rd_form h.tiles.outer
  obtain ⟨rfl, rfl⟩ : A = A' ∧ c = c' := by simpa using e1
  obtain ⟨rfl, rfl⟩ : B = B' ∧ d0 = d' := by simpa using e2
  clear e1 e2 h
  have n0 : New w (w.alloc (.cells #[.slice A G.length c, .slice B T.length d0] 31)) := (New.same w).box _
  have B0 : BoxV (w.alloc (.cells #[.slice A G.length c, .slice B T.length d0] 31)) w.heap.size [.slice A G.length c, .slice B T.length d0] := .two (by go_simp) (by go_simp) (by go_simp) (by go_simp) (by simp)
  have hz : w.heap.size + 1 ≤ (w.alloc (.cells #[.slice A G.length c, .slice B T.length d0] 31)).heap.size := by simp
  cases hs : setB G T
  · have E := Lib.hid (show boV G T a d b = (0, 1) by simp [boV, hs])
    have HS := Lib.hid hs
    clear hs
    go_enter Try.func28, Try.ntmps28
    go_wp2_with fail
    generalize (w.alloc (.cells #[.slice A G.length c, .slice B T.length d0] 31)) = W0 at *
    refine (c_l02Ok _ _ _ _ _ G T sv _ B0 (HH.out.new n0) hg ht).mono ?_
    rintro e w1 ⟨rfl, n1⟩
    rw [HS.out]
    go_wp2
    go_ret2
    exact ⟨by rw [E.out]; rfl, n0.step n1⟩
  have HS := Lib.hid hs
  have ⟨i1, i2, i3, i4⟩ := set_in hs
  cases qa : inB a 0 ((T.length : Int) - 1)
  · have E := Lib.hid (show boV G T a d b = (0, 2) by simp [boV, hs, qa])
    have Qa := Lib.hid qa
    clear qa hs
    go_enter Try.func28, Try.ntmps28
    go_wp2_with fail
    generalize (w.alloc (.cells #[.slice A G.length c, .slice B T.length d0] 31)) = W0 at *
    refine (c_l02Ok _ _ _ _ _ G T sv _ B0 (HH.out.new n0) hg ht).mono ?_
    rintro e w1 ⟨rfl, n1⟩
    rw [HS.out]
    have N1 := n0.step n1
    have B1 := B0.new n1
    have ⟨⟨x0, y0⟩, _, l0⟩ := B1.at2
    go_wp2_with (first | (go_at_call_of 64 (Value.int IntKind.i64 a); refine (c_l02Index _ _ _ _ _ _ _ B1 (by omega)).mono ?_; rintro e w8 ⟨rfl, rfl⟩; rw [Qa.out]))
    go_ret2
    exact ⟨by rw [E.out]; rfl, N1⟩
  · skip
    cases qd : inB d 0 (3)
    · have E := Lib.hid (show boV G T a d b = (0, 2) by simp [boV, hs, qa, qd])
      have Qa := Lib.hid qa
      have Qd := Lib.hid qd
      clear qa qd hs
      go_enter Try.func28, Try.ntmps28
      go_wp2_with fail
      generalize (w.alloc (.cells #[.slice A G.length c, .slice B T.length d0] 31)) = W0 at *
      refine (c_l02Ok _ _ _ _ _ G T sv _ B0 (HH.out.new n0) hg ht).mono ?_
      rintro e w1 ⟨rfl, n1⟩
      rw [HS.out]
      have N1 := n0.step n1
      have B1 := B0.new n1
      have ⟨⟨x0, y0⟩, _, l0⟩ := B1.at2
      go_wp2_with (first | (go_at_call_of 64 (Value.int IntKind.i64 a); refine (c_l02Index _ _ _ _ _ _ _ B1 (by omega)).mono ?_; rintro e w8 ⟨rfl, rfl⟩; rw [Qa.out]) | (go_at_call 65; refine (c_l01Dir _ _).mono ?_; rintro e w8 ⟨rfl, rfl⟩; rw [Qd.out]))
      go_ret2
      exact ⟨by rw [E.out]; rfl, N1⟩
    · skip
      cases qb : inB b 0 ((T.length : Int) - 1)
      · have E := Lib.hid (show boV G T a d b = (0, 2) by simp [boV, hs, qa, qd, qb])
        have Qa := Lib.hid qa
        have Qd := Lib.hid qd
        have Qb := Lib.hid qb
        clear qa qd qb hs
        go_enter Try.func28, Try.ntmps28
        go_wp2_with fail
        generalize (w.alloc (.cells #[.slice A G.length c, .slice B T.length d0] 31)) = W0 at *
        refine (c_l02Ok _ _ _ _ _ G T sv _ B0 (HH.out.new n0) hg ht).mono ?_
        rintro e w1 ⟨rfl, n1⟩
        rw [HS.out]
        have N1 := n0.step n1
        have B1 := B0.new n1
        have ⟨⟨x0, y0⟩, _, l0⟩ := B1.at2
        go_wp2_with (first | (go_at_call_of 64 (Value.int IntKind.i64 a); refine (c_l02Index _ _ _ _ _ _ _ B1 (by omega)).mono ?_; rintro e w8 ⟨rfl, rfl⟩; rw [Qa.out]) | (go_at_call 65; refine (c_l01Dir _ _).mono ?_; rintro e w8 ⟨rfl, rfl⟩; rw [Qd.out]) | (go_at_call_of 64 (Value.int IntKind.i64 b); refine (c_l02Index _ _ _ _ _ _ _ B1 (by omega)).mono ?_; rintro e w8 ⟨rfl, rfl⟩; rw [Qb.out]))
        go_ret2
        exact ⟨by rw [E.out]; rfl, N1⟩
      · skip
        have E := Lib.hid (show boV G T a d b = (bdV G T a.toNat d.toNat b.toNat, 0) by simp [boV, hs, qa, qd, qb])
        have Qa := Lib.hid qa
        have Qd := Lib.hid qd
        have Qb := Lib.hid qb
        obtain ⟨an, rfl⟩ : ∃ n : Nat, a = (n : Int) := ⟨a.toNat, by have := inB_iff.1 qa; omega⟩
        obtain ⟨dn, rfl⟩ : ∃ n : Nat, d = (n : Int) := ⟨d.toNat, by have := inB_iff.1 qd; omega⟩
        obtain ⟨bn, rfl⟩ : ∃ n : Nat, b = (n : Int) := ⟨b.toNat, by have := inB_iff.1 qb; omega⟩
        have hal : an < T.length := by have := inB_iff.1 qa; omega
        have hdl : dn < 4 := by have := inB_iff.1 qd; omega
        have hbl : bn < T.length := by have := inB_iff.1 qb; omega
        clear qa qd qb hs
        go_enter Try.func28, Try.ntmps28
        go_wp2_with fail
        generalize (w.alloc (.cells #[.slice A G.length c, .slice B T.length d0] 31)) = W0 at *
        refine (c_l02Ok _ _ _ _ _ G T sv _ B0 (HH.out.new n0) hg ht).mono ?_
        rintro e w1 ⟨rfl, n1⟩
        rw [HS.out]
        have N1 := n0.step n1
        have B1 := B0.new n1
        have ⟨⟨x0, y0⟩, _, l0⟩ := B1.at2
        go_wp2_with (first | (go_at_call_of 64 (Value.int IntKind.i64 (an : Int)); refine (c_l02Index _ _ _ _ _ _ _ B1 (by omega)).mono ?_; rintro e w8 ⟨rfl, rfl⟩; rw [Qa.out]) | (go_at_call 65; refine (c_l01Dir _ _).mono ?_; rintro e w8 ⟨rfl, rfl⟩; rw [Qd.out]) | (go_at_call_of 64 (Value.int IntKind.i64 (bn : Int)); refine (c_l02Index _ _ _ _ _ _ _ B1 (by omega)).mono ?_; rintro e w8 ⟨rfl, rfl⟩; rw [Qb.out]) | (go_at_call 74; refine (c_l02Bond _ _ _ _ _ G T sv an dn bn _ B1 ((HH.out.new n0).new n1) HS.out hal hdl hbl).mono ?_; rintro e w9 ⟨rfl, n9⟩))
        go_ret2
        exact ⟨by rw [E.out]; rfl, N1.step n9⟩

set_option maxRecDepth 20000 in
set_option maxHeartbeats 4000000 in
theorem c_implBondOf (lo hi : Nat) (gv tv : Value) (G : List (ByteArray × Int)) (T : List (ByteArray × List Int)) (sv : List Value) (a d b : Int) (w : World) (h : RdS w lo hi gv tv G T sv) (hg : ∀ g ∈ G, g.1.size ≤ maxLen) (ht : ∀ t ∈ T, t.1.size ≤ maxLen) :
    Calls Try.prog 29 #[.agg #[gv, tv], .int .i64 a, .int .i64 d, .int .i64 b] w fun e w' => e = .returned (ncV (boV G T a d b)) ∧ New w w' := by
  obtain ⟨A, c, B, d0, rfl, rfl⟩ := h.form
  have HH := Lib.hid h
  obtain ⟨A', c', e1, hm, ha⟩ := rd_form h.glues
  obtain ⟨B', d', e2, hm', hb⟩ := rd_form h.tiles.outer
  obtain ⟨rfl, rfl⟩ : A = A' ∧ c = c' := by simpa using e1
  obtain ⟨rfl, rfl⟩ : B = B' ∧ d0 = d' := by simpa using e2
  clear e1 e2 h
  have n0 : New w (w.alloc (.cells #[.slice A G.length c, .slice B T.length d0] 31)) := (New.same w).box _
  have B0 : BoxV (w.alloc (.cells #[.slice A G.length c, .slice B T.length d0] 31)) w.heap.size [.slice A G.length c, .slice B T.length d0] := .two (by go_simp) (by go_simp) (by go_simp) (by go_simp) (by simp)
  have hz : w.heap.size + 1 ≤ (w.alloc (.cells #[.slice A G.length c, .slice B T.length d0] 31)).heap.size := by simp
  cases hs : setB G T
  · have E := Lib.hid (show boV G T a d b = (0, 1) by simp [boV, hs])
    have HS := Lib.hid hs
    clear hs
    go_enter Try.func29, Try.ntmps29
    go_wp2_with fail
    generalize (w.alloc (.cells #[.slice A G.length c, .slice B T.length d0] 31)) = W0 at *
    refine (c_implValidSet _ _ _ _ G T sv _ (HH.out.new n0) hg ht).mono ?_
    rintro e w1 ⟨rfl, n1⟩
    rw [HS.out]
    go_wp2
    go_ret2
    exact ⟨by rw [E.out]; rfl, n0.step n1⟩
  have HS := Lib.hid hs
  have ⟨i1, i2, i3, i4⟩ := set_in hs
  cases qa : inB a 0 ((T.length : Int) - 1)
  · have E := Lib.hid (show boV G T a d b = (0, 2) by simp [boV, hs, qa])
    have Qa := Lib.hid qa
    clear qa hs
    go_enter Try.func29, Try.ntmps29
    go_wp2_with fail
    generalize (w.alloc (.cells #[.slice A G.length c, .slice B T.length d0] 31)) = W0 at *
    refine (c_implValidSet _ _ _ _ G T sv _ (HH.out.new n0) hg ht).mono ?_
    rintro e w1 ⟨rfl, n1⟩
    rw [HS.out]
    have N1 := n0.step n1
    have B1 := B0.new n1
    have ⟨⟨x0, y0⟩, _, l0⟩ := B1.at2
    go_wp2_with fail
    refine (c_isTile _ _ _ _ _ _ (by omega) (by rfl)).mono ?_
    rintro e w2 ⟨rfl, n2⟩
    rw [Qa.out]
    clear x0 y0 l0
    replace N1 := N1.step n2
    replace B1 := B1.new n2
    have ⟨⟨x0, y0⟩, _, l0⟩ := B1.at2
    go_wp2
    go_ret2
    exact ⟨by rw [E.out]; rfl, N1⟩
  · skip
    cases qb : inB b 0 ((T.length : Int) - 1)
    · have E := Lib.hid (show boV G T a d b = (0, 2) by simp [boV, hs, qa, qb])
      have Qa := Lib.hid qa
      have Qb := Lib.hid qb
      clear qa qb hs
      go_enter Try.func29, Try.ntmps29
      go_wp2_with fail
      generalize (w.alloc (.cells #[.slice A G.length c, .slice B T.length d0] 31)) = W0 at *
      refine (c_implValidSet _ _ _ _ G T sv _ (HH.out.new n0) hg ht).mono ?_
      rintro e w1 ⟨rfl, n1⟩
      rw [HS.out]
      have N1 := n0.step n1
      have B1 := B0.new n1
      have ⟨⟨x0, y0⟩, _, l0⟩ := B1.at2
      go_wp2_with fail
      refine (c_isTile _ _ _ _ _ _ (by omega) (by rfl)).mono ?_
      rintro e w2 ⟨rfl, n2⟩
      rw [Qa.out]
      clear x0 y0 l0
      replace N1 := N1.step n2
      replace B1 := B1.new n2
      have ⟨⟨x0, y0⟩, _, l0⟩ := B1.at2
      go_wp2_with fail
      refine (c_isTile _ _ _ _ _ _ (by omega) (by rfl)).mono ?_
      rintro e w3 ⟨rfl, n3⟩
      rw [Qb.out]
      clear x0 y0 l0
      replace N1 := N1.step n3
      replace B1 := B1.new n3
      have ⟨⟨x0, y0⟩, _, l0⟩ := B1.at2
      go_wp2
      go_ret2
      exact ⟨by rw [E.out]; rfl, N1⟩
    · skip
      cases qd : inB d 0 (3)
      · have E := Lib.hid (show boV G T a d b = (0, 2) by simp [boV, hs, qa, qb, qd])
        have Qa := Lib.hid qa
        have Qb := Lib.hid qb
        have Qd := Lib.hid qd
        clear qa qb qd hs
        go_enter Try.func29, Try.ntmps29
        go_wp2_with fail
        generalize (w.alloc (.cells #[.slice A G.length c, .slice B T.length d0] 31)) = W0 at *
        refine (c_implValidSet _ _ _ _ G T sv _ (HH.out.new n0) hg ht).mono ?_
        rintro e w1 ⟨rfl, n1⟩
        rw [HS.out]
        have N1 := n0.step n1
        have B1 := B0.new n1
        have ⟨⟨x0, y0⟩, _, l0⟩ := B1.at2
        go_wp2_with fail
        refine (c_isTile _ _ _ _ _ _ (by omega) (by rfl)).mono ?_
        rintro e w2 ⟨rfl, n2⟩
        rw [Qa.out]
        clear x0 y0 l0
        replace N1 := N1.step n2
        replace B1 := B1.new n2
        have ⟨⟨x0, y0⟩, _, l0⟩ := B1.at2
        go_wp2_with fail
        refine (c_isTile _ _ _ _ _ _ (by omega) (by rfl)).mono ?_
        rintro e w3 ⟨rfl, n3⟩
        rw [Qb.out]
        clear x0 y0 l0
        replace N1 := N1.step n3
        replace B1 := B1.new n3
        have ⟨⟨x0, y0⟩, _, l0⟩ := B1.at2
        go_wp2_with fail
        refine (c_isDir _ _).mono ?_
        rintro e w8 ⟨rfl, rfl⟩
        rw [Qd.out]
        go_wp2
        go_ret2
        exact ⟨by rw [E.out]; rfl, N1⟩
      · skip
        have E := Lib.hid (show boV G T a d b = (bdV G T a.toNat d.toNat b.toNat, 0) by simp [boV, hs, qa, qb, qd])
        have Qa := Lib.hid qa
        have Qb := Lib.hid qb
        have Qd := Lib.hid qd
        obtain ⟨an, rfl⟩ : ∃ n : Nat, a = (n : Int) := ⟨a.toNat, by have := inB_iff.1 qa; omega⟩
        obtain ⟨dn, rfl⟩ : ∃ n : Nat, d = (n : Int) := ⟨d.toNat, by have := inB_iff.1 qd; omega⟩
        obtain ⟨bn, rfl⟩ : ∃ n : Nat, b = (n : Int) := ⟨b.toNat, by have := inB_iff.1 qb; omega⟩
        have hal : an < T.length := by have := inB_iff.1 qa; omega
        have hdl : dn < 4 := by have := inB_iff.1 qd; omega
        have hbl : bn < T.length := by have := inB_iff.1 qb; omega
        clear qa qb qd hs
        go_enter Try.func29, Try.ntmps29
        go_wp2_with fail
        generalize (w.alloc (.cells #[.slice A G.length c, .slice B T.length d0] 31)) = W0 at *
        refine (c_implValidSet _ _ _ _ G T sv _ (HH.out.new n0) hg ht).mono ?_
        rintro e w1 ⟨rfl, n1⟩
        rw [HS.out]
        have N1 := n0.step n1
        have B1 := B0.new n1
        have ⟨⟨x0, y0⟩, _, l0⟩ := B1.at2
        go_wp2_with fail
        refine (c_isTile _ _ _ _ _ _ (by omega) (by rfl)).mono ?_
        rintro e w2 ⟨rfl, n2⟩
        rw [Qa.out]
        clear x0 y0 l0
        replace N1 := N1.step n2
        replace B1 := B1.new n2
        have ⟨⟨x0, y0⟩, _, l0⟩ := B1.at2
        go_wp2_with fail
        refine (c_isTile _ _ _ _ _ _ (by omega) (by rfl)).mono ?_
        rintro e w3 ⟨rfl, n3⟩
        rw [Qb.out]
        clear x0 y0 l0
        replace N1 := N1.step n3
        replace B1 := B1.new n3
        have ⟨⟨x0, y0⟩, _, l0⟩ := B1.at2
        go_wp2_with fail
        refine (c_isDir _ _).mono ?_
        rintro e w8 ⟨rfl, rfl⟩
        rw [Qd.out]
        go_wp2_with fail
        refine (c_bond _ _ _ _ G T sv an dn bn _ (HH.out.new N1) HS.out hal hdl hbl).mono ?_
        rintro e w9 ⟨rfl, n9⟩
        go_wp2
        go_ret2
        exact ⟨by rw [E.out]; rfl, N1.step n9⟩

end Go.Proofs.Ytailhgleiefbkaa
