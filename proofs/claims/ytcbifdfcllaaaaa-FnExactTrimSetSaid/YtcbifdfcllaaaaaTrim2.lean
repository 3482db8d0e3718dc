/- The contracts of what the program's TrimSet calls: slices.Contains, its two tests, translated. -/
import Derived.Test.YtcbifdfcllaaaaaTrim
namespace Go.Proofs.Ytcbifdfcllaaaaa
open Go.RowKit Go.Deep
set_option linter.unusedVariables false
set_option linter.unusedSimpArgs false

set_option maxHeartbeats 1000000 in
theorem c_index_int64 (lo hi : Nat) (v : Value) (zs : List Int) (g : Int) (w : World) (h : RdI w lo hi v zs) :
    Calls Try.prog 47 #[v, .int .i64 g] w fun e w' => e = .returned (.int .i64 (idxF (fun x => decide (x = g)) zs)) ∧ New w w' := by
  have HR := Lib.hid h
  obtain ⟨A, c, rfl, hm, ha⟩ := rd_form h
  have HA := Lib.hid ha
  clear ha h
  go_enter Try.func47, Try.ntmps47
  go_wp2
  go_loopw [5, 8] (fun _ i wr => ∃ k : Nat, k ≤ zs.length ∧ i = .int .i64 k ∧ Hid (∀ j (hj : j < zs.length), j < k → decide (zs[j] = g) = false) ∧ New w wr) (fun _ i _ => zs.length - (intOf i).toNat)
  case atStart => exact ⟨0, Nat.zero_le _, rfl, Lib.hid (fun j _ hj => absurd hj (Nat.not_lt_zero _)), New.same _⟩
  case round =>
    obtain ⟨k, hk, rfl, HJ, hN⟩ := hrel
    by_cases hlt : k < zs.length
    · obtain ⟨b, off, hAe⟩ := HA.out (by omega)
      subst hAe
      have p0 : (0 : Int) ≤ (k : Int) := by omega
      have p1 : (k : Int) < (zs.length : Int) := by omega
      obtain ⟨x0, bw⟩ := rd_i HR.out hN rfl hlt
      by_cases hp : zs[k] = g
      · have HP := Lib.hid (show idxF (fun x => decide (x = g)) zs = (k : Int) from idxF_hit _ zs k hlt HJ.out (by simpa using hp))
        have g2 : (g == zs[k]) = true := by simp [hp]
        clear hp
        go_wp2
        go_ret
        exact ⟨congrArg (fun q => Ending.returned (.int .i64 q)) HP.out.symm, hN⟩
      · have HP := Lib.hid (show decide (zs[k] = g) = false by simpa using hp)
        have g2 : (g == zs[k]) = false := by simp [Ne.symm hp]
        clear hp
        go_wp2
        go_roundw
        case rel =>
          refine ⟨k + 1, by omega, by go_num, Lib.hid (fun j hj hjk => ?_), hN⟩
          by_cases e : j = k
          · subst e; exact HP.out
          · exact HJ.out j hj (by omega)
        case measure => simp [intOf]; omega
    · have hk' : k = zs.length := by omega
      subst hk'
      have HP := Lib.hid (show idxF (fun x => decide (x = g)) zs = -1 from idxF_miss _ zs (fun j hj => HJ.out j hj hj))
      go_wp2
      go_ret
      exact ⟨congrArg (fun q => Ending.returned (.int .i64 q)) HP.out.symm, hN⟩
set_option maxHeartbeats 400000 in
theorem c_contains_int64 (lo hi : Nat) (v : Value) (zs : List Int) (g : Int) (w : World) (h : RdI w lo hi v zs) :
    Calls Try.prog 24 #[v, .int .i64 g] w fun e w' => e = .returned (.bool (zs.any fun x => decide (x = g))) ∧ New w w' := by
  rw [← idxF_any]
  have HR := Lib.hid h
  clear h
  go_enter Try.func24, Try.ntmps24
  go_wp2_with (go_at_call 47; refine (c_index_int64 lo hi v zs g w HR.out).mono ?_; rintro e w1 ⟨rfl, n1⟩)
  go_ret
  exact ⟨rfl, n1⟩

theorem enters_ts1 : EntersIt Try.prog 23 := enters_of Try.func23 (by kernel_rfl) rfl
set_option maxHeartbeats 1000000 in
theorem tests_ts1 (b6 lo hi : Nat) (v : Value) (n : Nat) (T : List (ByteArray × List Int)) (sv : List Value) (w : World) (h : RdT w lo hi v T sv) (hn : n ≤ 1048576)
    (c6 : w.cell? ⟨b6, 0, none⟩ = some (.int .i64 n)) (l6 : b6 < w.heap.size) :
    TestsT Try.prog 23 #[.pointer (some ⟨b6, 0, none⟩)] (fun t => t.2.any fun s => decide (s = (n : Int) + 1)) T sv w := by
  intro k hk u W eu hN
  have rx := (rd_tl_at h hk eu).new hN
  obtain ⟨A, m, rfl, _, _⟩ := rd_form rx
  show Calls _ _ #[.agg #[.string T[k].1, .slice A T[k].2.length m], .pointer (some ⟨b6, 0, none⟩)] W _
  have n7 : New W (W.alloc (.cells #[.string T[k].1, .slice A T[k].2.length m] 48)) := (New.same W).box _
  have k6 : (W.alloc (.cells #[.string T[k].1, .slice A T[k].2.length m] 48)).cell? ⟨b6, 0, none⟩ = some (.int .i64 n) := ((hN.step n7).cell (p := ⟨b6, 0, none⟩) l6).trans c6
  have l6' : b6 < (W.alloc (.cells #[.string T[k].1, .slice A T[k].2.length m] 48)).heap.size := Nat.lt_of_lt_of_le l6 (hN.step n7).size
  have hw : IntKind.i64.wrap ((n : Int) + 1) = (n : Int) + 1 := by rw [IntWalk.i64_in _ (by omega)]
  have CC := Lib.hid (c_contains_int64 lo hi _ T[k].2 ((n : Int) + 1) _ (rx.new n7))
  clear h rx c6 l6 hN
  go_enter Try.func23, Try.ntmps23
  go_wp2_with (go_at_call 24; refine (CC.out).mono ?_; rintro e w1 ⟨rfl, n1⟩)
  go_ret
  exact ⟨rfl, n7.step n1⟩

theorem enters_ts2 : EntersIt Try.prog 27 := enters_of Try.func27 (by kernel_rfl) rfl
set_option maxHeartbeats 1000000 in
theorem tests_ts2 (b6 lo hi lo' hi' : Nat) (v u0 : Value) (x : List Int) (T : List (ByteArray × List Int)) (sv : List Value) (w : World) (h : RdT w lo hi v T sv) (hx : RdI w lo' hi' u0 x)
    (c6 : w.cell? ⟨b6, 0, none⟩ = some u0) (l6 : b6 < w.heap.size) :
    TestsT Try.prog 27 #[.pointer (some ⟨b6, 0, none⟩)] (fun u : ByteArray × List Int => eqL u.2 x) T sv w := by
  intro k hk u W eu hN
  have rx := (rd_tl_at h hk eu).new hN
  obtain ⟨A, m, rfl, _, _⟩ := rd_form rx
  obtain ⟨A', m', rfl, _, _⟩ := rd_form hx
  show Calls _ _ #[.agg #[.string T[k].1, .slice A T[k].2.length m], .pointer (some ⟨b6, 0, none⟩)] W _
  have n7 : New W (W.alloc (.cells #[.string T[k].1, .slice A T[k].2.length m] 48)) := (New.same W).box _
  have k6 : (W.alloc (.cells #[.string T[k].1, .slice A T[k].2.length m] 48)).cell? ⟨b6, 0, none⟩ = some (.slice A' x.length m') := ((hN.step n7).cell (p := ⟨b6, 0, none⟩) l6).trans c6
  have l6' : b6 < (W.alloc (.cells #[.string T[k].1, .slice A T[k].2.length m] 48)).heap.size := Nat.lt_of_lt_of_le l6 (hN.step n7).size
  have CC := Lib.hid (c_equal_int64 lo hi lo' hi' _ _ T[k].2 x _ (rx.new n7) (hx.new (hN.step n7)))
  clear h rx c6 l6 hN hx
  go_enter Try.func27, Try.ntmps27
  go_wp2_with (go_at_call 28; refine (CC.out).mono ?_; rintro e w1 ⟨rfl, n1⟩)
  go_ret
  exact ⟨rfl, n7.step n1⟩

/-- the sides of a tile as they are when the first d have their new numbers -/
def trD (T : List (ByteArray × List Int)) (s : List Int) (d : Nat) : List Int := (List.range s.length).map fun j => if j < d then trV T (s.getD j 0) else 0
theorem trD_len (T : List (ByteArray × List Int)) (s : List Int) (d : Nat) : (trD T s d).length = s.length := by simp [trD]
theorem trD_get {T : List (ByteArray × List Int)} {s : List Int} {d j : Nat} (h : j < (trD T s d).length) : (trD T s d)[j] = if j < d then trV T (s.getD j 0) else 0 := by simp [trD]
theorem trD_zero (T : List (ByteArray × List Int)) (s : List Int) : trD T s 0 = List.replicate s.length 0 := by
  apply List.ext_getElem
  · simp [trD]
  · intro j h1 h2
    rw [trD_get, List.getElem_replicate, if_neg (by omega)]
theorem trD_set {T : List (ByteArray × List Int)} {s : List Int} {d : Nat} (h : d < s.length) : trD T s (d + 1) = (trD T s d).set d (trV T s[d]) := by
  apply List.ext_getElem
  · simp [trD]
  · intro j h1 h2
    rw [trD_get, List.getElem_set]
    by_cases e : d = j
    · subst e
      rw [if_pos rfl, if_pos (by omega)]
      simp [List.getD_eq_getElem?_getD, h]
    · rw [if_neg e, trD_get]
      by_cases c : j < d
      · rw [if_pos c, if_pos (by omega)]
      · rw [if_neg c, if_neg (by omega)]
theorem trD_same {T : List (ByteArray × List Int)} {s : List Int} {d : Nat} (h : d < s.length) (h0 : s[d] = 0) : trD T s (d + 1) = trD T s d := by
  apply List.ext_getElem
  · simp [trD]
  · intro j h1 h2
    rw [trD_get, trD_get]
    by_cases c : j < d
    · rw [if_pos c, if_pos (by omega)]
    · rw [if_neg c]
      by_cases e : j = d
      · subst e
        rw [if_pos (by omega)]
        simp [List.getD_eq_getElem?_getD, h, h0, trV]
      · rw [if_neg (by omega)]
theorem trD_all (T : List (ByteArray × List Int)) (s : List Int) : trD T s s.length = trS T s := by
  apply List.ext_getElem
  · simp [trD, trS]
  · intro j h1 h2
    rw [trD_get]
    have hj : j < s.length := by simpa [trD] using h1
    rw [if_pos hj]
    simp [trS, List.getD_eq_getElem?_getD, hj]

set_option maxRecDepth 20000 in
set_option maxHeartbeats 4000000 in
theorem c_translated (lo hi lo' hi' : Nat) (gv tv gu tu sl : Value) (G : List (ByteArray × Int)) (T T' : List (ByteArray × List Int)) (sv sv' : List Value) (k : Nat) (w : World) (h : RdS w lo hi gv tv G T sv) (h' : RdS w lo' hi' gu tu (oG G T G.length) T' sv')
    (hs : setB G T = true) (hk : k < T.length) (eu : sv[k]? = some sl) :
    Calls Try.prog 25 #[.agg #[gu, tu], .agg #[.string T[k].1, sl], .agg #[gv, tv]] w fun e w' => ∃ v, e = .returned v ∧ w'.ownsRow w.heap.size 2 1 v (trS T T[k].2).length ((trS T T[k].2).map (Value.int .i64)) ∧ New w w' := by
  have rx := rd_tl_at h.tiles hk eu
  obtain ⟨A, c, B, d0, rfl, rfl⟩ := h.form
  obtain ⟨A', c', B', d', rfl, rfl⟩ := h'.form
  have HH := Lib.hid h
  have HK := Lib.hid h'
  have HR := Lib.hid rx
  obtain ⟨As, ms, rfl, _, hAs⟩ := rd_form rx
  have ⟨i1, i2, i3, i4⟩ := set_in hs
  obtain ⟨h4, hsd⟩ := i4 k hk
  have H4 := Lib.hid h4
  have HD := Lib.hid hsd
  have HS := Lib.hid hs
  have HAs := Lib.hid hAs
  obtain ⟨A2, c2, e2, _, ha⟩ := rd_form h.glues
  obtain ⟨rfl, rfl⟩ : A = A2 ∧ c = c2 := by simpa using e2
  have HA := Lib.hid ha
  obtain ⟨i0, hi0, hz0, hzz1, hz2⟩ := info_parts info_int64
  clear h h' rx hAs i4 h4 hsd hs ha e2 eu
  have n0 : New w (((w.alloc (.cells #[.slice A' (oG G T G.length).length c', .slice B' T'.length d'] 30)).alloc (.cells #[.string T[k].1, .slice As T[k].2.length ms] 48)).alloc (.cells #[.slice A G.length c, .slice B T.length d0] 30)) := (((New.same w).box _).box _).box _
  have B0 : BoxV (((w.alloc (.cells #[.slice A' (oG G T G.length).length c', .slice B' T'.length d'] 30)).alloc (.cells #[.string T[k].1, .slice As T[k].2.length ms] 48)).alloc (.cells #[.slice A G.length c, .slice B T.length d0] 30)) w.heap.size [.slice A' (oG G T G.length).length c', .slice B' T'.length d'] := .two (by go_simp) (by go_simp) (by go_simp) (by go_simp) (by simp <;> omega)
  have B1 : BoxV (((w.alloc (.cells #[.slice A' (oG G T G.length).length c', .slice B' T'.length d'] 30)).alloc (.cells #[.string T[k].1, .slice As T[k].2.length ms] 48)).alloc (.cells #[.slice A G.length c, .slice B T.length d0] 30)) (w.heap.size + 1) [.string T[k].1, .slice As T[k].2.length ms] := .two (by go_simp) (by go_simp) (by go_simp) (by go_simp) (by simp <;> omega)
  have B2 : BoxV (((w.alloc (.cells #[.slice A' (oG G T G.length).length c', .slice B' T'.length d'] 30)).alloc (.cells #[.string T[k].1, .slice As T[k].2.length ms] 48)).alloc (.cells #[.slice A G.length c, .slice B T.length d0] 30)) (w.heap.size + 2) [.slice A G.length c, .slice B T.length d0] := .two (by go_simp) (by go_simp) (by go_simp) (by go_simp) (by simp)
  have hz : w.heap.size + 3 = (((w.alloc (.cells #[.slice A' (oG G T G.length).length c', .slice B' T'.length d'] 30)).alloc (.cells #[.string T[k].1, .slice As T[k].2.length ms] 48)).alloc (.cells #[.slice A G.length c, .slice B T.length d0] 30)).heap.size := by simp
  go_enter Try.func25, Try.ntmps25
  go_upto_region 1 with fail
  generalize (((w.alloc (.cells #[.slice A' (oG G T G.length).length c', .slice B' T'.length d'] 30)).alloc (.cells #[.string T[k].1, .slice As T[k].2.length ms] 48)).alloc (.cells #[.slice A G.length c, .slice B T.length d0] 30)) = W0 at *
  have ⟨⟨bx1, by1⟩, _, bl1⟩ := B1.at2
  go_upto_region 2 with (at_make; refine wpList_make_full _ rfl _ _ 31 rfl W0.heap.size 2 i0 (.int .i64 0) 1 Try.underlying31 hi0 hz0 hzz1 .i64 .i64 4 4 4 rfl rfl rfl rfl (by simp [hz2]) (by unfold maxLen; omega) (by omega) ?_; intro w2 hown hgrow)
  have M2 : New W0 w2 := (Below.refl W0.heap.size W0).grown hgrow (Nat.le_refl _) (fun k hk => by cases hk)
  have hown0 : w2.ownsRow W0.heap.size 2 1 (.slice (some ⟨W0.heap.size, 0, none⟩) 4 4) 4 ((trD T T[k].2 0).map (Value.int .i64)) := by
    rw [trD_zero, H4.out, ← made0]
    simpa using hown
  clear bx1 by1 bl1 hown hgrow
  have ⟨⟨bx1, by1⟩, _, bl1⟩ := (B1.new M2).at2
  go_wp2
  clear bx1 by1 bl1
  go_loopw [14] (fun i wr => ∃ d : Nat, d ≤ T[k].2.length ∧ i = .int .i64 d ∧ Hid (wr.ownsRow W0.heap.size 2 1 (.slice (some ⟨W0.heap.size, 0, none⟩) 4 4) 4 ((trD T T[k].2 d).map (Value.int .i64))) ∧ New W0 wr) (fun i _ => T[k].2.length - (intOf i).toNat)
  case atStart => exact ⟨0, Nat.zero_le _, rfl, Lib.hid hown0, M2⟩
  case round =>
    clear hown0 M2
    obtain ⟨d, hd, rfl, HO, hN⟩ := hrel
    have NW := n0.step hN
    by_cases hlt : d < T[k].2.length
    · have hd4 : d < 4 := by have := H4.out; omega
      obtain ⟨bs, os, hAe⟩ := HAs.out (by omega)
      subst hAe
      obtain ⟨x0, bw⟩ := rd_i HR.out NW rfl hlt
      have p0 : (0 : Int) ≤ (d : Int) := by omega
      have p1 : (d : Int) < (T[k].2.length : Int) := by omega
      have p4 : (d : Int) < 4 := by omega
      obtain ⟨s0, s1⟩ := HD.out d hlt
      by_cases hz0 : T[k].2[d] = 0
      · have g2 : decide (0 < T[k].2[d]) = false := by simp [hz0]
        have E := Lib.hid (trD_same (T := T) hlt hz0)
        clear hz0 s0 s1
        go_wp2
        go_roundw
        case rel => exact ⟨d + 1, by omega, by go_num, by rw [E.out]; exact HO, hN⟩
        case measure => simp [intOf]; omega
      · have g2 : decide (0 < T[k].2[d]) = true := by simp; omega
        obtain ⟨j, hj⟩ : ∃ j : Nat, T[k].2[d] = (j : Int) + 1 := ⟨(T[k].2[d] - 1).toNat, by omega⟩
        have hjl : j < G.length := by omega
        have EV := Lib.hid (named_side HS.out hk hlt hjl hj)
        have ES := Lib.hid (trD_set (T := T) hlt)
        have g3 : IntKind.i64.wrap (T[k].2[d] - 1) = (j : Int) := by rw [IntWalk.i64_in _ (by omega)]; omega
        have q0 : (0 : Int) ≤ (j : Int) := by omega
        have q1 : (j : Int) < (G.length : Int) := by omega
        obtain ⟨b, off, hAe⟩ := HA.out (by omega)
        subst hAe
        obtain ⟨⟨y0, y1⟩, yl⟩ := rd_gl HH.out.glues NW rfl hjl
        have ⟨⟨z0, z1⟩, _, zl⟩ := (B2.new hN).at2
        have ⟨⟨t0, t1⟩, _, tl⟩ := (B0.new hN).at2
        have hkl : (oG G T G.length).length ≤ 200 := by rw [oG_len]; have := kpN_le T G.length; omega
        have C1 := Lib.hid (fun (t : Later wr) => c_glueNamed _ _ _ _ (oG G T G.length) T' sv' G[j].1 t.w ((HK.out.new NW).new t.new) (by omega))
        clear hz0 hj s0 s1
        go_upto_region 6 with fail
        have l1 := Later.cell y0 yl
        have l2 := Later.cell z0 zl
        have l3 := Later.cell t0 tl
        have l4 := Later.cell t1 tl
        refine wp_region_later_tail [0, 1, 2, 3, 4, 5, 6, 7, 8, 9, 10, 11] 12 [] (by kernel_rfl) (by decide +kernel) ?_
        simp only [pickO, List.getElem?_cons_zero, List.getElem?_cons_succ]
        (repeat (go_big_quiet_step (first | (go_at_call 48; exact later_of (C1.out _)))))
        refine wpQuiet_nil ?_
        intro wq hw'
        obtain ⟨⟨wz, nq⟩, hwz⟩ := hw'
        have hwz' : wq = wz := hwz
        subst hwz'
        clear hwz l1 l2 l3 l4 x0 bw y0 y1 yl z0 z1 zl t0 t1 tl
        have ho := ownsRow_new HO.out nq
        have HP := Lib.hid (ho.stored d (.int .i64 (idxF (nmP G[j].1) (oG G T G.length) + 1))).1
        obtain ⟨u7, hu7⟩ : ∃ u, wq.cell? ⟨W0.heap.size, d, none⟩ = some u := ⟨_, by rw [ho.cellAt d (by omega), List.getElem?_eq_getElem (by rw [List.length_map, trD_len]; exact hlt)]⟩
        have hf7 := ho.frozenAt d
        have hl7 := (ho.lt _ rfl).2
        have NN := Lib.hid (Below.setCell (hN.step nq) (Nat.le_refl _) (.int .i64 (idxF (nmP G[j].1) (oG G T G.length) + 1)) : New W0 (wq.setCell ⟨W0.heap.size, d, none⟩ (.int .i64 (idxF (nmP G[j].1) (oG G T G.length) + 1))))
        clear ho
        go_wp2
        go_roundw
        case rel => exact ⟨d + 1, by omega, by go_num, Lib.hid (by rw [ES.out, List.map_set, ← EV.out]; exact HP.out), NN.out⟩
        case measure => simp [intOf]; omega
    · have ed : d = T[k].2.length := by omega
      subst ed
      have e4 : (trS T T[k].2).length = 4 := by simp [trS, H4.out]
      have HZ := Lib.hid (show wr.ownsRow w.heap.size 2 1 (.slice (some ⟨W0.heap.size, 0, none⟩) 4 4) (trS T T[k].2).length ((trS T T[k].2).map (Value.int .i64)) by rw [e4, ← trD_all]; exact ownsRow_wide HO.out (by omega))
      clear e4
      go_wp2
      go_ret
      exact ⟨_, rfl, HZ.out, NW⟩
end Go.Proofs.Ytcbifdfcllaaaaa
