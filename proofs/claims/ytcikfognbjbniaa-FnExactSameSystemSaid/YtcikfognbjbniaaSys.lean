/- Systems: how they lie in memory; the laws' own helpers on them; both sides of SameSystem. -/
import Derived.Test.YtcikfognbjbniaaSameSet
import Derived.Test.YtcikfognbjbniaaSameAsm
import Derived.Test.YtcikfognbjbniaaBox2
import Derived.Deep.Strs
namespace Go.Proofs.Ytcikfognbjbniaa
open Go.RowKit Go.ChangeShapes Go.WideShapes Go.Deep
set_option linter.unusedVariables false
set_option linter.unusedSimpArgs false

/-- a system's set and seed are read -/
structure RdY (w : World) (lo hi : Nat) (gv tv av : Value) (G : List (ByteArray × Int)) (T : List (ByteArray × List Int)) (sv : List Value) (zs : List ((Int × Int) × Int)) : Prop where
  set : RdS w lo hi gv tv G T sv
  asm : Rd w lo hi 3 av zs.length (zs.flatMap plCells)
section
variable {w w' : World} {lo hi : Nat} {gv tv av : Value} {G : List (ByteArray × Int)} {T : List (ByteArray × List Int)} {sv : List Value} {zs : List ((Int × Int) × Int)}
theorem RdY.new (h : RdY w lo hi gv tv av G T sv zs) (n : New w w') : RdY w' lo hi gv tv av G T sv zs := ⟨h.set.new n, h.asm.new n⟩
theorem RdY.rd (h : RdY w lo hi gv tv av G T sv zs) : RdY w lo hi gv tv av G T sv zs := h
theorem RdY.form (h : RdY w lo hi gv tv av G T sv zs) : ∃ A c B d M e, gv = .slice A G.length c ∧ tv = .slice B T.length d ∧ av = .slice M zs.length e := by
  obtain ⟨A, c, B, d, h1, h2⟩ := h.set.form
  obtain ⟨_, _, _, M, e, h3, _⟩ := h.asm
  exact ⟨A, c, B, d, M, e, h1, h2, h3⟩
end
/-- the cell at offset 2 of a block -/
structure Cell2 (w : World) (b : Nat) (v : Value) : Prop where
  cell : w.cell? ⟨b, 2, none⟩ = some v
  lt : b < w.heap.size
theorem Cell2.new {w w' : World} {b : Nat} {v : Value} (h : Cell2 w b v) (n : New w w') : Cell2 w' b v := ⟨(n.cell (p := ⟨b, 2, none⟩) h.lt).trans h.cell, Nat.lt_of_lt_of_le h.lt n.size⟩
theorem Cell2.at1 {w : World} {b : Nat} {v : Value} (h : Cell2 w b v) : w.cell? ⟨b, 2, none⟩ = some v ∧ True ∧ b < w.heap.size := ⟨h.cell, trivial, h.lt⟩
theorem BoxV.low {w : World} {b : Nat} {x y z u : Value} (h : BoxV w b [x, y, z, u]) : BoxV w b [x, y] := ⟨fun j v hj => by match j, hj with | 0, hj => exact h.cell 0 v hj | 1, hj => exact h.cell 1 v hj, fun j hj => h.free j (by simp at hj ⊢; omega), h.lt⟩
theorem BoxV.c2 {w : World} {b : Nat} {x y z u : Value} (h : BoxV w b [x, y, z, u]) : Cell2 w b z := ⟨h.cell 2 z rfl, h.lt⟩
theorem BoxV.put4a {w : World} {b : Nat} {x y z u : Value} (h : BoxV w b [x, y, z, u]) (p q : Value) : BoxV ((w.setCell ⟨b, 0, none⟩ p).setCell ⟨b, 1, none⟩ q) b [p, q, z, u] := by
  obtain ⟨⟨c, d, e, f⟩, ⟨c', d', e', f'⟩, l⟩ := h.at4
  exact .four (by simp [go_sem, *]) (by simp [go_sem, *]) (by simp [go_sem, *]) (by simp [go_sem, *]) (by simp [go_sem, *]) (by simp [go_sem, *]) (by simp [go_sem, *]) (by simp [go_sem, *]) (by simp [go_sem, *])
theorem BoxV.put4b {w : World} {b : Nat} {x y z u : Value} (h : BoxV w b [x, y, z, u]) (p : Value) : BoxV (w.setCell ⟨b, 2, none⟩ p) b [x, y, p, u] := by
  obtain ⟨⟨c, d, e, f⟩, ⟨c', d', e', f'⟩, l⟩ := h.at4
  exact .four (by simp [go_sem, *]) (by simp [go_sem, *]) (by simp [go_sem, *]) (by simp [go_sem, *]) (by simp [go_sem, *]) (by simp [go_sem, *]) (by simp [go_sem, *]) (by simp [go_sem, *]) (by simp [go_sem, *])

/-- what is left behind the count of a system -/
def szY (l : Int) (G : List (ByteArray × Int)) (T : List (ByteArray × List Int)) (n : Nat) : Int := if szS l G T < 0 then -1 else szL (szS l G T) n
theorem szY_le {l : Int} {G : List (ByteArray × Int)} {T : List (ByteArray × List Int)} {n : Nat} (h : 0 ≤ szY l G T n) : szY l G T n ≤ l ∧ (G.length : Int) ≤ l ∧ (T.length : Int) ≤ l ∧ (∀ t ∈ T, (t.2.length : Int) ≤ l) ∧ (n : Int) ≤ l := by
  unfold szY at *
  split at h
  · omega
  · rename_i hh
    obtain ⟨h1, h2, h3, h4⟩ := szS_le (l := l) (G := G) (T := T) (by omega)
    rw [if_neg hh]
    unfold szL at *
    split at h
    · omega
    · rename_i h5
      rw [if_neg h5]
      exact ⟨by omega, h2, h3, h4, by omega⟩
theorem szY_lo (l : Int) (G : List (ByteArray × Int)) (T : List (ByteArray × List Int)) (n : Nat) (h : szY l G T n < 0) : szY l G T n = -1 := by
  unfold szY at *
  split
  · rfl
  · rename_i hh
    rw [if_neg hh] at h
    unfold szL at *
    split
    · rfl
    · rename_i h5; rw [if_neg h5] at h; omega

section
variable {H : Type} {enc : TypeId × Value → H} {P : Program} {W : World} {spare : Nat → Bool} {held : Bool}
theorem open_sys {ty ts tm tg eg tt et tn ti tsl t e tp : TypeId} {r : Reach} {b0 : Nat} {v : Value} {d : DataW H} {ps : List MemPlace} {y0 y1 y2 f0 f1 g0 g1 k0 k1 fa p0 p1 q0 q1 : Field} (hty : P.underlying ty = some (.struct #[y0, y1, y2])) (hCy : P.cellsOf ty = 4)
    (ye0 : y0.type = ts) (ye1 : y1.type = tm) (ye2 : y2.type = ti) (yo0 : y0.offset = 0) (yo1 : y1.offset = 2) (yo2 : y2.offset = 3)
    (hts : P.underlying ts = some (.struct #[f0, f1])) (hC : P.cellsOf ts = 2)
    (e0 : f0.type = tg) (e1 : f1.type = tt) (o0 : f0.offset = 0) (o1 : f1.offset = 1) (c0 : P.cellsOf tg = 1) (c1 : P.cellsOf tt = 1)
    (hg : P.underlying tg = some (.slice eg)) (heg : P.underlying eg = some (.struct #[g0, g1])) (hCg : P.cellsOf eg = 2) (ge0 : g0.type = tn) (ge1 : g1.type = ti) (go0 : g0.offset = 0) (go1 : g1.offset = 1)
    (ht : P.underlying tt = some (.slice et)) (het : P.underlying et = some (.struct #[k0, k1])) (hCt : P.cellsOf et = 2) (ke0 : k0.type = tn) (ke1 : k1.type = tsl) (ko0 : k0.offset = 0) (ko1 : k1.offset = 1)
    (cn : P.cellsOf tn = 1) (ci : P.cellsOf ti = 1) (cs : P.cellsOf tsl = 1) (un : P.underlying tn = some .string) (ui : P.underlying ti = some (.int .i64)) (us : P.underlying tsl = some (.slice ti))
    (hta : P.underlying tm = some (.struct #[fa])) (hCa : P.cellsOf tm = 1) (ea : fa.type = t) (oa : fa.offset = 0) (ca : P.cellsOf t = 1)
    (htp : P.underlying t = some (.slice e)) (hep : P.underlying e = some (.struct #[p0, p1])) (hCp : P.cellsOf e = 3)
    (pe0 : p0.type = tp) (pe1 : p1.type = ti) (po0 : p0.offset = 0) (po1 : p1.offset = 2) (cp : P.cellsOf tp = 2) (hp : P.underlying tp = some (.struct #[q0, q1]))
    (qe0 : q0.type = ti) (qe1 : q1.type = ti) (qo0 : q0.offset = 0) (qo1 : q1.offset = 1)
    (hv : Value.okWide P W r b0 ty v) (h : DataW.Trod enc P W 0 spare held ty v d ps) (hlt : ∀ x ∈ ps, x.block < W.heap.size) :
    ∃ (gv tv av : Value) (G : List (ByteArray × Int)) (T : List (ByteArray × List Int)) (sv : List Value) (zs : List ((Int × Int) × Int)) (z : Int), v = .agg #[gv, tv, av, .int .i64 z] ∧ RdY W 0 W.heap.size gv tv av G T sv zs ∧ (∀ g ∈ G, g.1.size ≤ maxLen) ∧ (∀ t ∈ T, t.1.size ≤ maxLen) ∧ -9223372036854775808 ≤ z ∧ z ≤ 9223372036854775807 := by
  obtain ⟨cs', rfl, _⟩ := okWide_struct hty hv
  obtain ⟨n, hn⟩ := h
  obtain ⟨x0, x1, x2, m, hx, hl, h0, h1, h2⟩ := trod_struct3 hty hn
  rw [hCy] at hl
  obtain ⟨l⟩ := cs'
  simp only [Value.cells] at hl h0 h1 h2
  match l, hl with
  | [a, b, c, z], _ =>
    rw [ye0, yo0, hC] at h0
    rw [ye1, yo1, hCa] at h1
    rw [ye2, yo2, ci] at h2
    have h0' : DataW.trod enc P W 0 spare held m ts [a, b] = some x0 := by simpa using h0
    have h1' : DataW.trod enc P W 0 spare held m tm [c] = some x1 := by simpa using h1
    have h2' : DataW.trod enc P W 0 spare held m ti [z] = some x2 := by simpa using h2
    have hps : ps = x0.2 ++ (x1.2 ++ x2.2) := congrArg (fun q => q.2) hx
    obtain ⟨u0, u1, m', hx', _, k0', k1'⟩ := trod_struct2 hts h0'
    rw [e0, o0, c0] at k0'
    rw [e1, o1, c1] at k1'
    have k0'' : DataW.trod enc P W 0 spare held m' tg [a] = some u0 := by simpa using k0'
    have k1'' : DataW.trod enc P W 0 spare held m' tt [b] = some u1 := by simpa using k1'
    have hp0 : x0.2 = u0.2 ++ u1.2 := by rw [hx']
    obtain ⟨G, r1, r2⟩ := open_glues hg heg hCg ge0 ge1 go0 go1 cn ci un ui k0'' (fun p hp => hlt p (by rw [hps, hp0]; exact List.mem_append_left _ (List.mem_append_left _ hp)))
    obtain ⟨T, sv, r3, r4⟩ := open_tiles ht het hCt ke0 ke1 ko0 ko1 cn cs un us ui ci k1'' (fun p hp => hlt p (by rw [hps, hp0]; exact List.mem_append_left _ (List.mem_append_right _ hp)))
    obtain ⟨v0, m2, hx2, _, j0⟩ := trod_struct1 hta h1'
    rw [ea, oa, ca] at j0
    have j0' : DataW.trod enc P W 0 spare held m2 t [c] = some v0 := by simpa using j0
    have hp1 : x1.2 = v0.2 := by rw [hx2]
    obtain ⟨zs, hr⟩ := open_pls_rd htp hep hCp pe0 pe1 po0 po1 cp ci hp qe0 qe1 qo0 qo1 ci ci ui ui ui j0' (fun p hp => hlt p (by rw [hps, hp1]; exact List.mem_append_right _ (List.mem_append_left _ hp)))
    obtain ⟨q, eq, hq⟩ := dec_int ui h2'
    simp at eq
    subst eq
    exact ⟨a, b, c, G, T, sv, zs, q, rfl, ⟨⟨r1, r3⟩, hr⟩, r2, r4, hq⟩
end
set_option maxHeartbeats 2000000 in
theorem c_szSystem (lo hi : Nat) (gv tv av : Value) (A : Nat) (B : Nat) (G : List (ByteArray × Int)) (T : List (ByteArray × List Int)) (sv : List Value) (zs : List ((Int × Int) × Int)) (t : Int) (l : Int) (w : World) (h : RdY w lo hi gv tv av G T sv zs) (hg : ∀ g ∈ G, g.1.size ≤ maxLen) (ht : ∀ t ∈ T, t.1.size ≤ maxLen) (h0 : 0 ≤ l) (h1 : l ≤ 1048576) :
    Calls Try.prog 8 #[.agg #[gv, tv, av, .int .i64 t], .int .i64 l] w fun e w' => e = .returned (.int .i64 (szY l G T zs.length)) ∧ New w w' := by
  have hm := h.asm.2.1
  obtain ⟨A, c, B, d, M, q, rfl, rfl, rfl⟩ := h.form
  have HH := Lib.hid h
  clear h
  have n0 : New w (w.alloc (.cells #[.slice A G.length c, .slice B T.length d, .slice M zs.length q, .int .i64 t] 30)) := (New.same w).box _
  have B0 : BoxV (w.alloc (.cells #[.slice A G.length c, .slice B T.length d, .slice M zs.length q, .int .i64 t] 30)) w.heap.size [.slice A G.length c, .slice B T.length d, .slice M zs.length q, .int .i64 t] := .four (by go_simp) (by go_simp) (by go_simp) (by go_simp) (by go_simp) (by go_simp) (by go_simp) (by go_simp) (by simp)
  have HZ := Lib.hid (c_szTileSet _ _ _ _ G T sv l _ (HH.out.set.new n0) hg ht h0 h1)
  by_cases hs : szS l G T < 0
  · have E := Lib.hid (show szY l G T zs.length = -1 by unfold szY; rw [if_pos hs])
    obtain ⟨Z, hZ⟩ : ∃ Z, szS l G T = Z := ⟨_, rfl⟩
    rw [hZ] at HZ hs
    go_enter Try.func8, Try.ntmps8
    go_wp2_with (go_at_call 13; refine HZ.out.mono ?_; rintro e w1 ⟨rfl, n1⟩)
    go_ret
    exact ⟨ret_int E.out.symm, n0.step n1⟩
  · have hb := szS_le (l := l) (G := G) (T := T) (by omega)
    have E := Lib.hid (show szY l G T zs.length = szL (szS l G T) zs.length by unfold szY; rw [if_neg hs])
    obtain ⟨Z, hZ⟩ : ∃ Z, szS l G T = Z := ⟨_, rfl⟩
    rw [hZ] at HZ hs E hb
    have hZ1 := hb.1
    clear hb hZ
    have hs2 : decide (Z < 0) = false := by simp; omega
    by_cases hq : Z - (zs.length : Int) < 0
    · have E2 := Lib.hid (show szL Z zs.length = -1 by unfold szL; rw [if_pos hq])
      go_enter Try.func8, Try.ntmps8
      go_wp2_with (first | (go_at_call 13; refine HZ.out.mono ?_; rintro e w1 ⟨rfl, n1⟩; have ⟨⟨x0, x1, x2, x3⟩, _, l0⟩ := (B0.new n1).at4) | (go_at_call 14; refine (c_szAssembly M zs.length q Z _ hm (by omega) (by omega)).mono ?_; rintro e w2 ⟨rfl, n2⟩; rw [E2.out]))
      go_ret
      exact ⟨ret_int (by rw [E.out, E2.out]), (n0.step n1).step n2⟩
    · have E2 := Lib.hid (show szL Z zs.length = Z - (zs.length : Int) by unfold szL; rw [if_neg hq])
      go_enter Try.func8, Try.ntmps8
      go_wp2_with (first | (go_at_call 13; refine HZ.out.mono ?_; rintro e w1 ⟨rfl, n1⟩; have ⟨⟨x0, x1, x2, x3⟩, _, l0⟩ := (B0.new n1).at4) | (go_at_call 14; refine (c_szAssembly M zs.length q Z _ hm (by omega) (by omega)).mono ?_; rintro e w2 ⟨rfl, n2⟩; rw [E2.out]))
      go_ret
      exact ⟨ret_int (by rw [E.out, E2.out]), (n0.step n1).step n2⟩
set_option maxHeartbeats 2000000 in
theorem c_eqSystem_self (lo hi lo' hi' : Nat) (gv tv av gu tu au : Value) (G : List (ByteArray × Int)) (T : List (ByteArray × List Int)) (sv sv' : List Value) (zs : List ((Int × Int) × Int)) (t : Int) (w : World) (h : RdY w lo hi gv tv av G T sv zs) (h' : RdY w lo' hi' gu tu au G T sv' zs) :
    Calls Try.prog 12 #[.agg #[gv, tv, av, .int .i64 t], .agg #[gu, tu, au, .int .i64 t]] w fun e w' => e = .returned (.bool true) ∧ New w w' := by
  obtain ⟨A, c, B, d, M, q, rfl, rfl, rfl⟩ := h.form
  obtain ⟨A', c', B', d', M', q', rfl, rfl, rfl⟩ := h'.form
  have HH := Lib.hid h
  have HK := Lib.hid h'
  clear h h'
  have n0 : New w ((w.alloc (.cells #[.slice A G.length c, .slice B T.length d, .slice M zs.length q, .int .i64 t] 41)).alloc (.cells #[.slice A' G.length c', .slice B' T.length d', .slice M' zs.length q', .int .i64 t] 41)) := ((New.same w).box _).box _
  have B0 : BoxV ((w.alloc (.cells #[.slice A G.length c, .slice B T.length d, .slice M zs.length q, .int .i64 t] 41)).alloc (.cells #[.slice A' G.length c', .slice B' T.length d', .slice M' zs.length q', .int .i64 t] 41)) w.heap.size [.slice A G.length c, .slice B T.length d, .slice M zs.length q, .int .i64 t] := .four (by go_simp) (by go_simp) (by go_simp) (by go_simp) (by go_simp) (by go_simp) (by go_simp) (by go_simp) (by simp <;> omega)
  have B1 : BoxV ((w.alloc (.cells #[.slice A G.length c, .slice B T.length d, .slice M zs.length q, .int .i64 t] 41)).alloc (.cells #[.slice A' G.length c', .slice B' T.length d', .slice M' zs.length q', .int .i64 t] 41)) (w.heap.size + 1) [.slice A' G.length c', .slice B' T.length d', .slice M' zs.length q', .int .i64 t] := .four (by go_simp) (by go_simp) (by go_simp) (by go_simp) (by go_simp) (by go_simp) (by go_simp) (by go_simp) (by simp <;> omega)
  have e3 : (t != t) = false := by simp
  go_enter Try.func12, Try.ntmps12
  go_wp2_with fail
  generalize ((w.alloc (.cells #[.slice A G.length c, .slice B T.length d, .slice M zs.length q, .int .i64 t] 41)).alloc (.cells #[.slice A' G.length c', .slice B' T.length d', .slice M' zs.length q', .int .i64 t] 41)) = W0 at *
  refine (c_eqTileSet_self _ _ _ _ _ _ _ _ G T _ _ _ (HH.out.set.new n0) (HK.out.set.new n0)).mono ?_
  rintro e w1 ⟨rfl, n1⟩
  have ⟨⟨x0, x1, x2, x3⟩, _, l0⟩ := (B0.new n1).at4
  have ⟨⟨y0, y1, y2, y3⟩, _, l1⟩ := (B1.new n1).at4
  go_wp2_with fail
  clear x0 x1 x2 x3 y0 y1 y2 y3
  refine (c_eqAssembly_self _ _ _ _ _ _ zs _ ((HH.out.asm.new n0).new n1) ((HK.out.asm.new n0).new n1)).mono ?_
  rintro e w2 ⟨rfl, n2⟩
  have ⟨⟨x0, x1, x2, x3⟩, _, l0⟩ := ((B0.new n1).new n2).at4
  have ⟨⟨y0, y1, y2, y3⟩, _, l1⟩ := ((B1.new n1).new n2).at4
  go_wp2
  go_ret
  exact ⟨rfl, (n0.step n1).step n2⟩
set_option maxHeartbeats 4000000 in
theorem c_l03Same2 (b0 b1 lo hi lo' hi' : Nat) (v u : Value) (xs ys : List ((Int × Int) × Int)) (w : World) (B0 : Cell2 w b0 v) (B1 : Cell2 w b1 u) (h : Rd w lo hi 3 v xs.length (xs.flatMap plCells)) (h' : Rd w lo' hi' 3 u ys.length (ys.flatMap plCells)) :
    Calls Try.prog 35 #[.pointer (some ⟨b0, 2, none⟩), .pointer (some ⟨b1, 2, none⟩)] w fun e w' => e = .returned (.bool (eqL xs ys)) ∧ New w w' := by
  have HR := Lib.hid h
  have HS := Lib.hid h'
  obtain ⟨_, hm, hh, A, c, rfl, hrd⟩ := h
  obtain ⟨_, hm', hh', A', c', rfl, hrd'⟩ := h'
  have ha : 0 < xs.length → ∃ b off, A = some ⟨b, off, none⟩ := fun h => by obtain ⟨b, off, e, _⟩ := hrd h; exact ⟨b, off, e⟩
  have HA := Lib.hid ha
  have ha' : 0 < ys.length → ∃ b off, A' = some ⟨b, off, none⟩ := fun h => by obtain ⟨b, off, e, _⟩ := hrd' h; exact ⟨b, off, e⟩
  have HA' := Lib.hid ha'
  clear hrd ha hh hrd' ha' hh'
  have ⟨bx0, _, bl0⟩ := B0.at1
  have ⟨by0, _, bl1⟩ := B1.at1
  have lb0 := Later.cell bx0 bl0
  have lb1 := Later.cell by0 bl1
  clear bx0 by0
  by_cases hl : xs.length = ys.length
  · have HL := Lib.hid hl
    have hl1 : xs.length ≤ ys.length := by omega
    have hl2 : ys.length ≤ xs.length := by omega
    have hl3 : ((xs.length : Int) != (ys.length : Int)) = false := by simp [hl]
    clear hl
    go_enter Try.func35, Try.ntmps35
    go_upto_region 1 with fail
    (refine wp_region_later (by kernel_rfl) (by kernel_rfl) ?_; (repeat (go_big_quiet_step (fail))); refine wpQuiet_nil ?_; intro wq hw'; obtain ⟨⟨wz, nq⟩, hwz⟩ := hw'; have hwz' : wq = wz := hwz; subst hwz'; clear hwz)
    clear lb0 lb1
    go_wp2_with fail
    go_loopw [5] (fun i wr => ∃ k : Nat, k ≤ xs.length ∧ i = .int .i64 k ∧ Hid (xs.take k = ys.take k) ∧ New w wr) (fun i _ => xs.length - (intOf i).toNat)
    case atStart => exact ⟨0, Nat.zero_le _, rfl, Lib.hid (by simp), nq⟩
    case round =>
      obtain ⟨k, hk, rfl, HT, hN⟩ := hrel
      have ⟨bx0, _, bl0⟩ := (B0.new hN).at1
      have ⟨by0, _, bl1⟩ := (B1.new hN).at1
      by_cases hlt : k < xs.length
      · obtain ⟨b, off, hAe⟩ := HA.out (by omega)
        subst hAe
        obtain ⟨b', off', hAe'⟩ := HA'.out (by omega)
        subst hAe'
        have hlt' : k < ys.length := by omega
        obtain ⟨⟨x0, x1, x2⟩, bw⟩ := rd_pl HR.out hN rfl hlt
        obtain ⟨⟨y0, y1, y2⟩, bw'⟩ := rd_pl HS.out hN rfl hlt'
        have p0 : (0 : Int) ≤ (k : Int) := by omega
        have p1 : (k : Int) < (xs.length : Int) := by omega
        have p2 : (k : Int) < (ys.length : Int) := by omega
        have lx0 := Later.cell x0 bw
        have lx1 := Later.cell x1 bw
        have lx2 := Later.cell x2 bw
        have ly0 := Later.cell y0 bw'
        have ly1 := Later.cell y1 bw'
        have ly2 := Later.cell y2 bw'
        have lb0 := Later.cell bx0 bl0
        have lb1 := Later.cell by0 bl1
        by_cases h0 : xs[k].1.1 = ys[k].1.1
        · have g0 : (xs[k].1.1 == ys[k].1.1) = true := by simpa using h0
          have G0 : (xs[k].1.1 != ys[k].1.1) = false := by simpa using h0
          by_cases h1 : xs[k].1.2 = ys[k].1.2
          · have g1 : (xs[k].1.2 == ys[k].1.2) = true := by simpa using h1
            have G1 : (xs[k].1.2 != ys[k].1.2) = false := by simpa using h1
            by_cases h2 : xs[k].2 = ys[k].2
            · have g2 : (xs[k].2 == ys[k].2) = true := by simpa using h2
              have G2 : (xs[k].2 != ys[k].2) = false := by simpa using h2
              have HT' := take_more HT.out hlt hlt' (show xs[k] = ys[k] from Prod.ext (Prod.ext h0 h1) h2)
              clear h0 h1 h2
              go_upto_region 6 with fail
              (refine wp_region_later (by kernel_rfl) (by kernel_rfl) ?_; (repeat (go_big_quiet_step (fail))); refine wpQuiet_nil ?_; intro wq hw'; obtain ⟨⟨wz, nq⟩, hwz⟩ := hw'; have hwz' : wq = wz := hwz; subst hwz'; clear hwz)
              clear lx0 lx1 lx2 ly0 ly1 ly2 lb0 lb1
              go_wp2
              go_roundw
              case rel => exact ⟨k + 1, by omega, by go_num, HT', hN.step nq⟩
              case measure => simp [intOf]; omega
            · have g2 : (xs[k].2 == ys[k].2) = false := by simpa using h2
              have G2 : (xs[k].2 != ys[k].2) = true := by simpa using h2
              have HE := Lib.hid (eqL_at hlt hlt' (fun e => h2 (by rw [e])))
              clear h0 h1 h2
              go_upto_region 6 with fail
              (refine wp_region_later (by kernel_rfl) (by kernel_rfl) ?_; (repeat (go_big_quiet_step (fail))); refine wpQuiet_nil ?_; intro wq hw'; obtain ⟨⟨wz, nq⟩, hwz⟩ := hw'; have hwz' : wq = wz := hwz; subst hwz'; clear hwz)
              clear lx0 lx1 lx2 ly0 ly1 ly2 lb0 lb1
              go_wp2
              go_ret
              exact ⟨ret_bool HE.out.symm, hN.step nq⟩
          · have g1 : (xs[k].1.2 == ys[k].1.2) = false := by simpa using h1
            have G1 : (xs[k].1.2 != ys[k].1.2) = true := by simpa using h1
            have HE := Lib.hid (eqL_at hlt hlt' (fun e => h1 (by rw [e])))
            clear h0 h1
            go_upto_region 6 with fail
            (refine wp_region_later (by kernel_rfl) (by kernel_rfl) ?_; (repeat (go_big_quiet_step (fail))); refine wpQuiet_nil ?_; intro wq hw'; obtain ⟨⟨wz, nq⟩, hwz⟩ := hw'; have hwz' : wq = wz := hwz; subst hwz'; clear hwz)
            clear lx0 lx1 lx2 ly0 ly1 ly2 lb0 lb1
            go_wp2
            go_ret
            exact ⟨ret_bool HE.out.symm, hN.step nq⟩
        · have g0 : (xs[k].1.1 == ys[k].1.1) = false := by simpa using h0
          have G0 : (xs[k].1.1 != ys[k].1.1) = true := by simpa using h0
          have HE := Lib.hid (eqL_at hlt hlt' (fun e => h0 (by rw [e])))
          clear h0
          go_upto_region 6 with fail
          (refine wp_region_later (by kernel_rfl) (by kernel_rfl) ?_; (repeat (go_big_quiet_step (fail))); refine wpQuiet_nil ?_; intro wq hw'; obtain ⟨⟨wz, nq⟩, hwz⟩ := hw'; have hwz' : wq = wz := hwz; subst hwz'; clear hwz)
          clear lx0 lx1 lx2 ly0 ly1 ly2 lb0 lb1
          go_wp2
          go_ret
          exact ⟨ret_bool HE.out.symm, hN.step nq⟩
      · have hk' : k = xs.length := by omega
        subst hk'
        go_wp2
        go_ret
        exact ⟨ret_bool (eqL_all HL.out HT.out).symm, hN⟩
  · have hl3 : ((xs.length : Int) != (ys.length : Int)) = true := by simp; omega
    have HE := Lib.hid (eqL_len hl)
    clear hl
    go_enter Try.func35, Try.ntmps35
    go_upto_region 1 with fail
    (refine wp_region_later (by kernel_rfl) (by kernel_rfl) ?_; (repeat (go_big_quiet_step (fail))); refine wpQuiet_nil ?_; intro wq hw'; obtain ⟨⟨wz, nq⟩, hwz⟩ := hw'; have hwz' : wq = wz := hwz; subst hwz'; clear hwz)
    clear lb0 lb1
    go_wp2
    go_ret
    exact ⟨ret_bool HE.out.symm, nq⟩
/-- two systems are one -/
def yEq (G G' : List (ByteArray × Int)) (T T' : List (ByteArray × List Int)) (xs ys : List ((Int × Int) × Int)) (t t' : Int) : Bool := (eqL G G' && eqL T T') && (eqL xs ys && decide (t = t'))
set_option maxHeartbeats 4000000 in
theorem c_implSameSystem (lo hi lo' hi' : Nat) (gv tv av gu tu au : Value) (G G' : List (ByteArray × Int)) (T T' : List (ByteArray × List Int)) (sv sv' : List Value) (xs ys : List ((Int × Int) × Int)) (t t' : Int) (w : World) (h : RdY w lo hi gv tv av G T sv xs) (h' : RdY w lo' hi' gu tu au G' T' sv' ys) :
    Calls Try.prog 11 #[.agg #[gv, tv, av, .int .i64 t], .agg #[gu, tu, au, .int .i64 t']] w fun e w' => e = .returned (.bool (yEq G G' T T' xs ys t t')) ∧ New w w' := by
  obtain ⟨A, c, B, d, M, q, rfl, rfl, rfl⟩ := h.form
  obtain ⟨A', c', B', d', M', q', rfl, rfl, rfl⟩ := h'.form
  have HH := Lib.hid h
  have HK := Lib.hid h'
  clear h h'
  have n0 : New w ((w.alloc (.cells #[.slice A G.length c, .slice B T.length d, .slice M xs.length q, .int .i64 t] 41)).alloc (.cells #[.slice A' G'.length c', .slice B' T'.length d', .slice M' ys.length q', .int .i64 t'] 41)) := ((New.same w).box _).box _
  have B0 : BoxV ((w.alloc (.cells #[.slice A G.length c, .slice B T.length d, .slice M xs.length q, .int .i64 t] 41)).alloc (.cells #[.slice A' G'.length c', .slice B' T'.length d', .slice M' ys.length q', .int .i64 t'] 41)) w.heap.size [.slice A G.length c, .slice B T.length d, .slice M xs.length q, .int .i64 t] := .four (by go_simp) (by go_simp) (by go_simp) (by go_simp) (by go_simp) (by go_simp) (by go_simp) (by go_simp) (by simp <;> omega)
  have B1 : BoxV ((w.alloc (.cells #[.slice A G.length c, .slice B T.length d, .slice M xs.length q, .int .i64 t] 41)).alloc (.cells #[.slice A' G'.length c', .slice B' T'.length d', .slice M' ys.length q', .int .i64 t'] 41)) (w.heap.size + 1) [.slice A' G'.length c', .slice B' T'.length d', .slice M' ys.length q', .int .i64 t'] := .four (by go_simp) (by go_simp) (by go_simp) (by go_simp) (by go_simp) (by go_simp) (by go_simp) (by go_simp) (by simp <;> omega)
  cases hs : (eqL G G' && eqL T T')
  · have E := Lib.hid (show yEq G G' T T' xs ys t t' = false by simp only [yEq, hs, Bool.false_and])
    have H1 := Lib.hid (c_implSameSet _ _ _ _ _ _ _ _ G G' T T' _ _ _ (HH.out.set.new n0) (HK.out.set.new n0))
    rw [hs] at H1
    clear hs
    go_enter Try.func11, Try.ntmps11
    go_wp2_with (go_at_call 36; refine H1.out.mono ?_; rintro e w1 ⟨rfl, n1⟩)
    go_ret
    exact ⟨ret_bool E.out.symm, n0.step n1⟩
  · cases ha : eqL xs ys
    all_goals
      have H1 := Lib.hid (c_implSameSet _ _ _ _ _ _ _ _ G G' T T' _ _ _ (HH.out.set.new n0) (HK.out.set.new n0))
      have H2 := Lib.hid (fun w1 (n1 : New _ w1) => c_implSameAssembly _ _ _ _ _ _ xs ys w1 ((HH.out.asm.new n0).new n1) ((HK.out.asm.new n0).new n1))
      rw [hs] at H1
      rw [ha] at H2
    · have E := Lib.hid (show yEq G G' T T' xs ys t t' = false by simp only [yEq, ha, Bool.false_and, Bool.and_false])
      clear hs ha
      go_enter Try.func11, Try.ntmps11
      go_wp2_with (first | (go_at_call 36; refine H1.out.mono ?_; rintro e w1 ⟨rfl, n1⟩; have ⟨⟨x0, x1, x2, x3⟩, _, l0⟩ := (B0.new n1).at4; have ⟨⟨y0, y1, y2, y3⟩, _, l1⟩ := (B1.new n1).at4) | (go_at_call 37; refine (H2.out _ n1).mono ?_; rintro e w2 ⟨rfl, n2⟩))
      go_ret
      exact ⟨ret_bool E.out.symm, (n0.step n1).step n2⟩
    · have E := Lib.hid (show yEq G G' T T' xs ys t t' = decide (t = t') by simp only [yEq, hs, ha, Bool.true_and])
      clear hs ha
      by_cases he : t = t'
      · have e1 : (t == t') = true := by simpa using he
        have E2 := Lib.hid (show decide (t = t') = true by simpa using he)
        clear he
        go_enter Try.func11, Try.ntmps11
        go_wp2_with (first | (go_at_call 36; refine H1.out.mono ?_; rintro e w1 ⟨rfl, n1⟩; have ⟨⟨x0, x1, x2, x3⟩, _, l0⟩ := (B0.new n1).at4; have ⟨⟨y0, y1, y2, y3⟩, _, l1⟩ := (B1.new n1).at4) | (go_at_call 37; refine (H2.out _ n1).mono ?_; rintro e w2 ⟨rfl, n2⟩; clear x0 x1 x2 x3 y0 y1 y2 y3; have ⟨⟨x0, x1, x2, x3⟩, _, l2⟩ := ((B0.new n1).new n2).at4; have ⟨⟨y0, y1, y2, y3⟩, _, l3⟩ := ((B1.new n1).new n2).at4))
        go_ret
        exact ⟨ret_bool (by rw [E.out, E2.out]), (n0.step n1).step n2⟩
      · have e1 : (t == t') = false := by simpa using he
        have E2 := Lib.hid (show decide (t = t') = false by simpa using he)
        clear he
        go_enter Try.func11, Try.ntmps11
        go_wp2_with (first | (go_at_call 36; refine H1.out.mono ?_; rintro e w1 ⟨rfl, n1⟩; have ⟨⟨x0, x1, x2, x3⟩, _, l0⟩ := (B0.new n1).at4; have ⟨⟨y0, y1, y2, y3⟩, _, l1⟩ := (B1.new n1).at4) | (go_at_call 37; refine (H2.out _ n1).mono ?_; rintro e w2 ⟨rfl, n2⟩; clear x0 x1 x2 x3 y0 y1 y2 y3; have ⟨⟨x0, x1, x2, x3⟩, _, l2⟩ := ((B0.new n1).new n2).at4; have ⟨⟨y0, y1, y2, y3⟩, _, l3⟩ := ((B1.new n1).new n2).at4))
        go_ret
        exact ⟨ret_bool (by rw [E.out, E2.out]), (n0.step n1).step n2⟩
set_option maxHeartbeats 4000000 in
theorem c_specSameSystem (lo hi lo' hi' : Nat) (gv tv av gu tu au : Value) (G G' : List (ByteArray × Int)) (T T' : List (ByteArray × List Int)) (sv sv' : List Value) (xs ys : List ((Int × Int) × Int)) (t t' : Int) (w : World) (h : RdY w lo hi gv tv av G T sv xs) (h' : RdY w lo' hi' gu tu au G' T' sv' ys) :
    Calls Try.prog 9 #[.agg #[gv, tv, av, .int .i64 t], .agg #[gu, tu, au, .int .i64 t']] w fun e w' => e = .returned (.bool (yEq G G' T T' xs ys t t')) ∧ New w w' := by
  obtain ⟨A, c, B, d, M, q, rfl, rfl, rfl⟩ := h.form
  obtain ⟨A', c', B', d', M', q', rfl, rfl, rfl⟩ := h'.form
  have HH := Lib.hid h
  have HK := Lib.hid h'
  clear h h'
  have n0 : New w ((w.alloc (.cells #[.slice A G.length c, .slice B T.length d, .slice M xs.length q, .int .i64 t] 41)).alloc (.cells #[.slice A' G'.length c', .slice B' T'.length d', .slice M' ys.length q', .int .i64 t'] 41)) := ((New.same w).box _).box _
  have B0 : BoxV ((w.alloc (.cells #[.slice A G.length c, .slice B T.length d, .slice M xs.length q, .int .i64 t] 41)).alloc (.cells #[.slice A' G'.length c', .slice B' T'.length d', .slice M' ys.length q', .int .i64 t'] 41)) w.heap.size [.slice A G.length c, .slice B T.length d, .slice M xs.length q, .int .i64 t] := .four (by go_simp) (by go_simp) (by go_simp) (by go_simp) (by go_simp) (by go_simp) (by go_simp) (by go_simp) (by simp <;> omega)
  have B1 : BoxV ((w.alloc (.cells #[.slice A G.length c, .slice B T.length d, .slice M xs.length q, .int .i64 t] 41)).alloc (.cells #[.slice A' G'.length c', .slice B' T'.length d', .slice M' ys.length q', .int .i64 t'] 41)) (w.heap.size + 1) [.slice A' G'.length c', .slice B' T'.length d', .slice M' ys.length q', .int .i64 t'] := .four (by go_simp) (by go_simp) (by go_simp) (by go_simp) (by go_simp) (by go_simp) (by go_simp) (by go_simp) (by simp <;> omega)
  cases hs : (eqL G G' && eqL T T')
  · have E := Lib.hid (show yEq G G' T T' xs ys t t' = false by simp only [yEq, hs, Bool.false_and])
    have H1 := Lib.hid (c_l02Same _ _ _ _ _ _ _ _ _ _ G G' T T' _ _ _ B0.low B1.low (HH.out.set.new n0) (HK.out.set.new n0))
    rw [hs] at H1
    clear hs
    go_enter Try.func9, Try.ntmps9
    go_wp2_with (go_at_call 34; refine H1.out.mono ?_; rintro e w1 ⟨rfl, n1⟩)
    go_ret
    exact ⟨ret_bool E.out.symm, n0.step n1⟩
  · cases ha : eqL xs ys
    all_goals
      have H1 := Lib.hid (c_l02Same _ _ _ _ _ _ _ _ _ _ G G' T T' _ _ _ B0.low B1.low (HH.out.set.new n0) (HK.out.set.new n0))
      have H2 := Lib.hid (fun w1 (n1 : New _ w1) => c_l03Same2 _ _ _ _ _ _ _ _ xs ys w1 (B0.new n1).c2 (B1.new n1).c2 ((HH.out.asm.new n0).new n1) ((HK.out.asm.new n0).new n1))
      rw [hs] at H1
      rw [ha] at H2
    · have E := Lib.hid (show yEq G G' T T' xs ys t t' = false by simp only [yEq, ha, Bool.false_and, Bool.and_false])
      clear hs ha
      go_enter Try.func9, Try.ntmps9
      go_wp2_with (first | (go_at_call 34; refine H1.out.mono ?_; rintro e w1 ⟨rfl, n1⟩; have ⟨⟨x0, x1, x2, x3⟩, _, l0⟩ := (B0.new n1).at4; have ⟨⟨y0, y1, y2, y3⟩, _, l1⟩ := (B1.new n1).at4) | (go_at_call 35; refine (H2.out _ n1).mono ?_; rintro e w2 ⟨rfl, n2⟩))
      go_ret
      exact ⟨ret_bool E.out.symm, (n0.step n1).step n2⟩
    · have E := Lib.hid (show yEq G G' T T' xs ys t t' = decide (t = t') by simp only [yEq, hs, ha, Bool.true_and])
      clear hs ha
      by_cases he : t = t'
      · have e1 : (t == t') = true := by simpa using he
        have E2 := Lib.hid (show decide (t = t') = true by simpa using he)
        clear he
        go_enter Try.func9, Try.ntmps9
        go_wp2_with (first | (go_at_call 34; refine H1.out.mono ?_; rintro e w1 ⟨rfl, n1⟩; have ⟨⟨x0, x1, x2, x3⟩, _, l0⟩ := (B0.new n1).at4; have ⟨⟨y0, y1, y2, y3⟩, _, l1⟩ := (B1.new n1).at4) | (go_at_call 35; refine (H2.out _ n1).mono ?_; rintro e w2 ⟨rfl, n2⟩; clear x0 x1 x2 x3 y0 y1 y2 y3; have ⟨⟨x0, x1, x2, x3⟩, _, l2⟩ := ((B0.new n1).new n2).at4; have ⟨⟨y0, y1, y2, y3⟩, _, l3⟩ := ((B1.new n1).new n2).at4))
        go_ret
        exact ⟨ret_bool (by rw [E.out, E2.out]), (n0.step n1).step n2⟩
      · have e1 : (t == t') = false := by simpa using he
        have E2 := Lib.hid (show decide (t = t') = false by simpa using he)
        clear he
        go_enter Try.func9, Try.ntmps9
        go_wp2_with (first | (go_at_call 34; refine H1.out.mono ?_; rintro e w1 ⟨rfl, n1⟩; have ⟨⟨x0, x1, x2, x3⟩, _, l0⟩ := (B0.new n1).at4; have ⟨⟨y0, y1, y2, y3⟩, _, l1⟩ := (B1.new n1).at4) | (go_at_call 35; refine (H2.out _ n1).mono ?_; rintro e w2 ⟨rfl, n2⟩; clear x0 x1 x2 x3 y0 y1 y2 y3; have ⟨⟨x0, x1, x2, x3⟩, _, l2⟩ := ((B0.new n1).new n2).at4; have ⟨⟨y0, y1, y2, y3⟩, _, l3⟩ := ((B1.new n1).new n2).at4))
        go_ret
        exact ⟨ret_bool (by rw [E.out, E2.out]), (n0.step n1).step n2⟩
set_option maxHeartbeats 4000000 in
theorem c_toSystem (lo hi : Nat) (gv tv av : Value) (A0 B0 : Nat) (G : List (ByteArray × Int)) (T : List (ByteArray × List Int)) (sv : List Value) (zs : List ((Int × Int) × Int)) (t : Int) (w : World) (h : RdY w lo hi gv tv av G T sv zs) (hn : G.length ≤ 1048576) (hn' : T.length ≤ 1048576) (hs : ∀ t ∈ T, t.2.length ≤ 1048576) (hz : zs.length ≤ 1048576) :
    Calls Try.prog 10 #[.agg #[gv, tv, av, .int .i64 t]] w fun e w' => ∃ gu tu su au, e = .returned (.agg #[gu, tu, au, .int .i64 t]) ∧ RdY w' 0 w'.heap.size gu tu au G T su zs ∧ New w w' := by
  obtain ⟨A, c, B, d, M, q, rfl, rfl, rfl⟩ := h.form
  have HH := Lib.hid h
  clear h
  have n0 : New w (((w.alloc (.cells #[.slice A G.length c, .slice B T.length d, .slice M zs.length q, .int .i64 t] 30)).alloc (.cells #[.slice none 0 0, .slice none 0 0, .slice none 0 0, .int .i64 0] 41)).alloc (.cells #[.slice none 0 0, .slice none 0 0, .slice none 0 0, .int .i64 0] 41)) := (((New.same w).box _).box _).box _
  have C0 : BoxV (((w.alloc (.cells #[.slice A G.length c, .slice B T.length d, .slice M zs.length q, .int .i64 t] 30)).alloc (.cells #[.slice none 0 0, .slice none 0 0, .slice none 0 0, .int .i64 0] 41)).alloc (.cells #[.slice none 0 0, .slice none 0 0, .slice none 0 0, .int .i64 0] 41)) w.heap.size [.slice A G.length c, .slice B T.length d, .slice M zs.length q, .int .i64 t] := .four (by go_simp) (by go_simp) (by go_simp) (by go_simp) (by go_simp) (by go_simp) (by go_simp) (by go_simp) (by simp <;> omega)
  have C1 : BoxV (((w.alloc (.cells #[.slice A G.length c, .slice B T.length d, .slice M zs.length q, .int .i64 t] 30)).alloc (.cells #[.slice none 0 0, .slice none 0 0, .slice none 0 0, .int .i64 0] 41)).alloc (.cells #[.slice none 0 0, .slice none 0 0, .slice none 0 0, .int .i64 0] 41)) (w.heap.size + 1) [.slice none 0 0, .slice none 0 0, .slice none 0 0, .int .i64 0] := .four (by go_simp) (by go_simp) (by go_simp) (by go_simp) (by go_simp) (by go_simp) (by go_simp) (by go_simp) (by simp <;> omega)
  have C2 : BoxV (((w.alloc (.cells #[.slice A G.length c, .slice B T.length d, .slice M zs.length q, .int .i64 t] 30)).alloc (.cells #[.slice none 0 0, .slice none 0 0, .slice none 0 0, .int .i64 0] 41)).alloc (.cells #[.slice none 0 0, .slice none 0 0, .slice none 0 0, .int .i64 0] 41)) (w.heap.size + 2) [.slice none 0 0, .slice none 0 0, .slice none 0 0, .int .i64 0] := .four (by go_simp) (by go_simp) (by go_simp) (by go_simp) (by go_simp) (by go_simp) (by go_simp) (by go_simp) (by simp <;> omega)
  have z3 : w.heap.size + 3 ≤ (((w.alloc (.cells #[.slice A G.length c, .slice B T.length d, .slice M zs.length q, .int .i64 t] 30)).alloc (.cells #[.slice none 0 0, .slice none 0 0, .slice none 0 0, .int .i64 0] 41)).alloc (.cells #[.slice none 0 0, .slice none 0 0, .slice none 0 0, .int .i64 0] 41)).heap.size := by simp
  go_enter Try.func10, Try.ntmps10
  go_wp2_with fail
  generalize (((w.alloc (.cells #[.slice A G.length c, .slice B T.length d, .slice M zs.length q, .int .i64 t] 30)).alloc (.cells #[.slice none 0 0, .slice none 0 0, .slice none 0 0, .int .i64 0] 41)).alloc (.cells #[.slice none 0 0, .slice none 0 0, .slice none 0 0, .int .i64 0] 41)) = W0 at *
  refine (c_toTileSet lo hi _ _ G T _ _ (HH.out.set.new n0) hn hn' hs).mono ?_
  rintro e w1 ⟨gu, tu, su, rfl, hO, n1⟩
  have hS := n1.size
  obtain ⟨A1, c1, B1, d1, rfl, rfl⟩ := hO.rd.form
  have F1 := ((Fr.refl (w.heap.size + 2) (w.heap.size + 3) w1).setCell (p := ⟨w.heap.size + 1 + 1, 0, none⟩) (by simp) (by simp <;> omega) (.slice A1 G.length c1)).setCell (p := ⟨w.heap.size + 1 + 1, 1, none⟩) (by simp) (by simp <;> omega) (.slice B1 T.length d1)
  have hO1 := hO.fr F1 (.inr (by omega))
  have N1 := (n0.step n1).fr F1 (by omega)
  have D0 := (C0.new n1).fr F1 (.inl (by omega))
  have D1 := (C1.new n1).fr F1 (.inl (by omega))
  have D2 : BoxV ((w1.setCell ⟨w.heap.size + 1 + 1, 0, none⟩ (.slice A1 G.length c1)).setCell ⟨w.heap.size + 1 + 1, 1, none⟩ (.slice B1 T.length d1)) (w.heap.size + 1 + 1) [.slice A1 G.length c1, .slice B1 T.length d1, .slice none 0 0, .int .i64 0] := (C2.new n1).put4a _ _
  have hz1 := F1.size
  obtain ⟨⟨x0, x1, x2, x3⟩, ⟨f0, f1, f2, f3⟩, l2⟩ := (C2.new n1).at4
  obtain ⟨⟨y0, y1, y2, y3⟩, _, l0⟩ := (C0.new n1).at4
  clear F1 hO C0 C1 C2
  go_wp2_with fail
  clear x0 x1 x2 x3 f0 f1 f2 f3 l2 y0 y1 y2 y3 l0
  generalize ((w1.setCell ⟨w.heap.size + 1 + 1, 0, none⟩ (.slice A1 G.length c1)).setCell ⟨w.heap.size + 1 + 1, 1, none⟩ (.slice B1 T.length d1)) = W1 at *
  refine (c_toAssembly lo hi _ zs _ (HH.out.asm.new N1) hz).mono ?_
  rintro e w2 ⟨au, rfl, hT, n2⟩
  obtain ⟨_, _, _, M1, q1, rfl, _⟩ := hT.rd
  obtain ⟨⟨x0, x1, x2, x3⟩, ⟨f0, f1, f2, f3⟩, l0⟩ := (D0.new n2).at4
  obtain ⟨⟨y0, y1, y2, y3⟩, ⟨g0, g1, g2, g3⟩, l1⟩ := (D1.new n2).at4
  obtain ⟨⟨v0, v1, v2, v3⟩, ⟨h0, h1, h2, h3⟩, l2⟩ := (D2.new n2).at4
  have hs2 := n2.size
  have NN := Lib.hid (N1.step n2)
  have HT := Lib.hid hT
  have HO := Lib.hid (hO1.new n2)
  clear hT hO1 D0 D1 D2 N1 n2 n1 n0
  go_wp2
  refine bodyPost_ret (v := .agg #[.slice A1 G.length c1, .slice B1 T.length d1, .slice M1 zs.length q1, .int .i64 t]) (by simp [results, Try.results10, go_sem, x0, x1, x2, x3, y0, y1, y2, y3, v0, v1, v2, v3]) rfl ?_
  have F := (((((((Fr.refl w.heap.size (w.heap.size + 3) w2).setCell (p := ⟨w.heap.size + 1 + 1, 2, none⟩) (by simp <;> omega) (by simp <;> omega) (.slice M1 zs.length q1)).setCell (p := ⟨w.heap.size + 1 + 1, 3, none⟩) (by simp <;> omega) (by simp <;> omega) (.int .i64 t)).setCell (p := ⟨w.heap.size + 1, 0, none⟩) (by simp <;> omega) (by simp <;> omega) (.slice A1 G.length c1)).setCell (p := ⟨w.heap.size + 1, 1, none⟩) (by simp <;> omega) (by simp <;> omega) (.slice B1 T.length d1)).setCell (p := ⟨w.heap.size + 1, 2, none⟩) (by simp <;> omega) (by simp <;> omega) (.slice M1 zs.length q1)).setCell (p := ⟨w.heap.size + 1, 3, none⟩) (by simp <;> omega) (by simp <;> omega) (.int .i64 t))
  have hf := F.size
  exact ⟨_, _, _, _, rfl, ⟨(HO.out.rd.fr F (.inr (by omega))).wide (Nat.zero_le _) (by omega) (Nat.le_refl _), (HT.out.rd.fr F (.inr (by omega))).wide (Nat.zero_le _) (by omega) (Nat.le_refl _)⟩, NN.out.fr F (Nat.le_refl _)⟩
end Go.Proofs.Ytcikfognbjbniaa
