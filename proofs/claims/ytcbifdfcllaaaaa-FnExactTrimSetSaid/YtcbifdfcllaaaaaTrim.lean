/- The contract of the reference's TrimSet. -/
import Derived.Test.YtcbifdfcllaaaaaUses
import Derived.Test.YtcbifdfcllaaaaaTight
import Derived.Test.YtcbifdfcllaaaaaLate
namespace Go.Proofs.Ytcbifdfcllaaaaa
open Go.RowKit Go.Deep
set_option linter.unusedVariables false
set_option linter.unusedSimpArgs false

/-- A call hands back a trimmed set, its numbers and a code, in new memory, no block twice. -/
def GivesTrim (w : World) (G : List (ByteArray × Int)) (T : List (ByteArray × List Int)) (A : List Int) (code : Int) (E : Ending) (w' : World) : Prop :=
  ∃ gv tv av sv, E = .returned (.tuple #[.agg #[gv, tv], av, .int .i64 code]) ∧ OwnTrim w' w.heap.size gv tv av G T A sv ∧ New w w'
theorem own_sl2 {w : World} {base C n : Nat} {e : TypeId} {v : Value} {xs : List Value} (h : w.ownsRow base e C v n xs) : ∃ A c, v = .slice A n c := by
  rcases h.2 with ⟨rfl, rfl⟩ | ⟨g, c, cur, rfl, _⟩
  · exact ⟨_, _, rfl⟩
  · exact ⟨_, _, rfl⟩
theorem ownsRow_at {w w' : World} {base C n g c : Nat} {e : TypeId} {xs : List Value} (h : w.ownsRow base e C (.slice (some ⟨g, 0, none⟩) n c) n xs) (hk : w'.heap[g]? = w.heap[g]?) : w'.ownsRow base e C (.slice (some ⟨g, 0, none⟩) n c) n xs := by
  refine ⟨h.1, ?_⟩
  rcases h.2 with ⟨hn, h0⟩ | ⟨g', cap, cur, hv, hb, hg, hr⟩
  · exact .inl ⟨hn, h0⟩
  · have e' : g' = g := by cases hv; rfl
    subst e'
    exact .inr ⟨g', cap, cur, hv, hb, hk.trans hg, hr⟩
theorem trim_none (w w' : World) (h : w.heap.size ≤ w'.heap.size) : OwnTrim w' w.heap.size (.slice none 0 0) (.slice none 0 0) (.slice none 0 0) [] [] [] [] :=
  OwnTrim.start (World.ownsRow_nil _ _ _ _) (World.ownsRow_nil _ _ _ _) (fun g hg => by cases hg)
theorem trim_no {G : List (ByteArray × Int)} {T : List (ByteArray × List Int)} (h : setB G T = false) : tmG G T = [] ∧ tmT G T = [] ∧ tmA G T = [] ∧ tmC G T = 1 := by simp [tmG, tmT, tmA, tmC, h]
theorem trim_yes {G : List (ByteArray × Int)} {T : List (ByteArray × List Int)} (h : setB G T = true) : tmG G T = oG G T G.length ∧ tmT G T = oT T T.length ∧ tmA G T = oA T T.length ∧ tmC G T = 0 := by simp [tmG, tmT, tmA, tmC, h]
theorem now_row {w : World} {base g m n : Nat} {T : List (ByteArray × List Int)} {k : Nat} (h : w.ownsRow base 2 1 (.slice (some ⟨g, 0, none⟩) n n) n ((nowL m T k).map (Value.int .i64))) {j : Nat} (hj : j < m + 1) (hn : n = m + 1) :
    w.cell? ⟨g, j, none⟩ = some (.int .i64 (nowF T k j)) ∧ w.frozen? ⟨g, j, none⟩ = false ∧ g < w.heap.size := by
  obtain ⟨x0, xl⟩ := rd_cell (Own.of h).rd (New.same w) rfl (by omega) (show ((nowL m T k).map (Value.int .i64))[j]? = some (.int .i64 (nowF T k j)) by simp [nowL, hj])
  rw [Nat.zero_add] at x0
  exact ⟨x0, h.frozenAt j, xl⟩

theorem ne_made {n g : Nat} (h : g < n) : (Value.slice (some ⟨n, 0, none⟩) 0 0).ownBlock ≠ some g := by
  intro q
  have : n = g := by simpa [Value.ownBlock] using q
  omega
theorem made0 (n : Nat) : (madeCells (Value.int IntKind.i64 0).cells n).toList = (List.replicate n (0 : Int)).map (Value.int .i64) := by
  simp only [madeCells, Value.cells]
  apply List.ext_getElem
  · simp
  · intro i h1 h2
    simp [Nat.mod_one]
set_option maxHeartbeats 1000000 in
theorem c_specTrim_no (lo hi : Nat) (gv tv : Value) (G : List (ByteArray × Int)) (T : List (ByteArray × List Int)) (sv : List Value) (w : World) (h : RdS w lo hi gv tv G T sv) (hg : ∀ g ∈ G, g.1.size ≤ maxLen) (ht : ∀ t ∈ T, t.1.size ≤ maxLen) (hs : setB G T = false) :
    Calls Try.prog 5 #[.agg #[gv, tv]] w (GivesTrim w (tmG G T) (tmT G T) (tmA G T) (tmC G T)) := by
  obtain ⟨A, c, B, d, rfl, rfl⟩ := h.form
  have HH := Lib.hid h
  clear h
  obtain ⟨e1, e2, e3, e4⟩ := trim_no hs
  rw [e1, e2, e3, e4]
  have n0 : New w ((w.alloc (.cells #[.slice A G.length c, .slice B T.length d] 30)).alloc (.cells #[.slice none 0 0, .slice none 0 0] 30)) := ((New.same w).box _).box _
  have B0 : BoxV ((w.alloc (.cells #[.slice A G.length c, .slice B T.length d] 30)).alloc (.cells #[.slice none 0 0, .slice none 0 0] 30)) w.heap.size [.slice A G.length c, .slice B T.length d] := .two (by go_simp) (by go_simp) (by go_simp) (by go_simp) (by simp; omega)
  have R0 : BoxV ((w.alloc (.cells #[.slice A G.length c, .slice B T.length d] 30)).alloc (.cells #[.slice none 0 0, .slice none 0 0] 30)) (w.heap.size + 1) [.slice none 0 0, .slice none 0 0] := .two (by go_simp) (by go_simp) (by go_simp) (by go_simp) (by simp)
  have HS := Lib.hid hs
  clear hs e1 e2 e3 e4
  go_enter Try.func5, Try.ntmps5
  go_wp2_with fail
  generalize ((w.alloc (.cells #[.slice A G.length c, .slice B T.length d] 30)).alloc (.cells #[.slice none 0 0, .slice none 0 0] 30)) = W0 at *
  refine (c_l02Ok _ _ _ _ _ G T sv _ B0 (HH.out.new n0) hg ht).mono ?_
  rintro e w1 ⟨rfl, n1⟩
  rw [HS.out]
  have hz1 := n0.step n1
  have ⟨⟨r0, r1⟩, ⟨f0, f1⟩, rl⟩ := (R0.new n1).at2
  have F1 := (Fr.refl (w.heap.size + 1) (w.heap.size + 2) w1).setCell (p := ⟨w.heap.size + 1, 0, none⟩) (by simp) (by simp) (.slice none 0 0)
  have F2 := F1.setCell (p := ⟨w.heap.size + 1, 1, none⟩) (by simp) (by simp) (.slice none 0 0)
  go_wp2
  refine bodyPost_ret (v := .tuple #[.agg #[.slice none 0 0, .slice none 0 0], .slice none 0 0, .int .i64 1]) (by simp [results, Try.results5, go_sem, *]) rfl ⟨_, _, _, _, rfl, trim_none w _ (Nat.le_trans hz1.size F2.size), New.fr hz1 F2 (by omega)⟩
set_option maxRecDepth 20000 in
set_option maxHeartbeats 8000000 in
theorem c_specTrim_yes (lo hi : Nat) (gv tv : Value) (G : List (ByteArray × Int)) (T : List (ByteArray × List Int)) (sv : List Value) (w : World) (h : RdS w lo hi gv tv G T sv) (hg : ∀ g ∈ G, g.1.size ≤ maxLen) (ht : ∀ t ∈ T, t.1.size ≤ maxLen) (hs : setB G T = true) :
    Calls Try.prog 5 #[.agg #[gv, tv]] w (GivesTrim w (tmG G T) (tmT G T) (tmA G T) (tmC G T)) := by
  obtain ⟨A, c, B, d, rfl, rfl⟩ := h.form
  have HH := Lib.hid h
  obtain ⟨A', c', e1, hm, ha⟩ := rd_form h.glues
  obtain ⟨B', d', e2, hm', hb⟩ := rd_form h.tiles.outer
  obtain ⟨rfl, rfl⟩ : A = A' ∧ c = c' := by simpa using e1
  obtain ⟨rfl, rfl⟩ : B = B' ∧ d = d' := by simpa using e2
  have HA := Lib.hid ha
  have HB := Lib.hid hb
  have ⟨i1, i2, i3, i4⟩ := set_in hs
  have HI := Lib.hid i4
  have H4 := Lib.hid (fun k (hk : k < T.length) => (i4 k hk).1)
  clear h e1 e2 ha hb i4
  obtain ⟨i0, hi0, hz0, hzz1, hz2⟩ := info_parts info_int64
  obtain ⟨e1, e2, e3, e4⟩ := trim_yes hs
  rw [e1, e2, e3, e4]
  have n0 : New w ((w.alloc (.cells #[.slice A G.length c, .slice B T.length d] 30)).alloc (.cells #[.slice none 0 0, .slice none 0 0] 30)) := ((New.same w).box _).box _
  have B0 : BoxV ((w.alloc (.cells #[.slice A G.length c, .slice B T.length d] 30)).alloc (.cells #[.slice none 0 0, .slice none 0 0] 30)) w.heap.size [.slice A G.length c, .slice B T.length d] := .two (by go_simp) (by go_simp) (by go_simp) (by go_simp) (by simp; omega)
  have R0 : BoxV ((w.alloc (.cells #[.slice A G.length c, .slice B T.length d] 30)).alloc (.cells #[.slice none 0 0, .slice none 0 0] 30)) (w.heap.size + 1) [.slice none 0 0, .slice none 0 0] := .two (by go_simp) (by go_simp) (by go_simp) (by go_simp) (by simp)
  have HS := Lib.hid hs
  clear hs e1 e2 e3 e4
  go_enter Try.func5, Try.ntmps5
  go_wp2_with fail
  generalize ((w.alloc (.cells #[.slice A G.length c, .slice B T.length d] 30)).alloc (.cells #[.slice none 0 0, .slice none 0 0] 30)) = W0 at *
  refine (c_l02Ok _ _ _ _ _ G T sv _ B0 (HH.out.new n0) hg ht).mono ?_
  rintro e w1 ⟨rfl, n1⟩
  rw [HS.out]
  have N1 := n0.step n1
  have B1 := B0.new n1
  have R1 := R0.new n1
  have ⟨⟨bx0, by0⟩, _, bl0⟩ := B1.at2
  have hbz : w.heap.size + 1 < w1.heap.size := R1.lt
  have hw9 : IntKind.i64.wrap ((G.length : Int) + 1) = ((G.length + 1 : Nat) : Int) := by rw [IntWalk.i64_in _ (by omega)]; omega
  have O1 : BoxV (w1.alloc (.cells #[.slice none 0 0, .slice none 0 0] 30)) w1.heap.size [.slice none 0 0, .slice none 0 0] := .two (by go_simp) (by go_simp) (by go_simp) (by go_simp) (by simp)
  have nA : New w1 (w1.alloc (.cells #[.slice none 0 0, .slice none 0 0] 30)) := (New.same w1).box _
  have hzA : (w1.alloc (.cells #[.slice none 0 0, .slice none 0 0] 30)).heap.size = w1.heap.size + 1 := by simp
  go_wp2_with (at_make; refine wpList_make_full _ rfl _ _ 31 rfl (w1.heap.size + 1) 2 i0 (.int .i64 0) 1 Try.underlying31 hi0 hz0 hzz1 .i64 .i64 (G.length + 1) (G.length + 1) (G.length + 1) rfl rfl rfl rfl (by rw [hz2]; omega) (by unfold maxLen; omega) (by simp) ?_; intro w2 hown hgrow)
  have hv2 := (Below.refl (w1.heap.size + 1) (w1.alloc (.cells #[.slice none 0 0, .slice none 0 0] 30))).grown hgrow (by omega) (fun k hk => by cases hk)
  have O2 := O1.below hv2 (by omega)
  have N2 : New w1 w2 := nA.trans (hv2.mono (by omega))
  rw [hzA] at hown
  have hnow : w2.ownsRow (w1.heap.size + 1) 2 1 (.slice (some ⟨w1.heap.size + 1, 0, none⟩) (G.length + 1) (G.length + 1)) (G.length + 1) ((nowL G.length T 0).map (Value.int .i64)) := by
    rw [nowL_zero, ← made0]
    simpa using hown
  have hz2' : w1.heap.size + 2 ≤ w2.heap.size := by
    have := (hnow.lt (w1.heap.size + 1) rfl).2
    omega
  clear hown hgrow O1 hv2 nA hzA bx0 by0 bl0
  go_loopw [7] (fun i wr => ∃ n : Nat, n ≤ G.length ∧ i = .int .i64 n ∧ ∃ gu, BoxV wr w1.heap.size [gu, .slice none 0 0] ∧ wr.ownsRow (w1.heap.size + 2) 46 2 gu (oG G T n).length ((oG G T n).flatMap glC) ∧ wr.ownsRow (w1.heap.size + 1) 2 1 (.slice (some ⟨w1.heap.size + 1, 0, none⟩) (G.length + 1) (G.length + 1)) (G.length + 1) ((nowL G.length T n).map (Value.int .i64)) ∧ New w1 wr ∧ w1.heap.size + 2 ≤ wr.heap.size) (fun i _ => G.length - (intOf i).toNat)
  case atStart => exact ⟨0, Nat.zero_le _, rfl, _, O2, World.ownsRow_nil _ _ _ _, hnow, N2, hz2'⟩
  case round =>
    clear O2 hnow N2 hz2'
    obtain ⟨n, hn, rfl, gu, O2, hgl, hnow, hN, hz2'⟩ := hrel
    have ⟨⟨bx0, by0⟩, _, bl0⟩ := (B1.new hN).at2
    by_cases hlt : n < G.length
    · obtain ⟨Ag, cg, rfl⟩ := own_sl2 hgl
      obtain ⟨b, off, hAe⟩ := HA.out (by omega)
      subst hAe
      have p0 : (0 : Int) ≤ (n : Int) := by omega
      have p1 : (n : Int) < (G.length : Int) := by omega
      have hw : IntKind.i64.wrap ((n : Int) + 1) = (n : Int) + 1 := by rw [IntWalk.i64_in _ (by omega)]
      have CU := Lib.hid (c_l02Uses _ _ _ _ _ G T sv ((n : Int) + 1) _ (B1.new hN) (HH.out.new (N1.step hN)) i3 H4.out)
      have hus := usC_us T n
      obtain ⟨X, hX⟩ : ∃ X : Nat, usC T ((n : Int) + 1) T.length = X := ⟨_, rfl⟩
      rw [hX] at hus CU
      clear hX
      cases hq : usB T n
      · have g2 : decide (0 < (X : Int)) = false := by rw [hus, hq]
        have g3 : X = 0 := by simp at g2; omega
        subst g3
        have E1 := Lib.hid (oG_no (G := G) hq)
        have E2 := Lib.hid (nowL_no (m := G.length) hq)
        clear hq hus
        go_wp2_with (go_at_call 17; refine (CU.out).mono ?_; rintro e w5 ⟨rfl, n5⟩)
        go_roundw
        case rel => exact ⟨n + 1, by omega, by go_num, _, O2.new n5, by rw [E1.out]; exact ownsRow_new hgl n5, by rw [E2.out]; exact ownsRow_new hnow n5, hN.step n5, Nat.le_trans hz2' n5.size⟩
        case measure => simp [intOf]; omega
      · have g2 : decide (0 < (X : Int)) = true := by rw [hus, hq]
        have g3 : 0 < X := by simpa using g2
        have E1 := Lib.hid (oG_yes (G := G) hq hlt)
        have E2 := Lib.hid (nowL_yes (m := G.length) hq hlt)
        have E3 := Lib.hid (show (kpN T (n + 1)).length = (oG G T n).length + 1 by rw [kpN_yes hq, oG_len]; simp)
        have E4 := Lib.hid (show (oG G T n).length ≤ 200 by rw [oG_len]; have := kpN_le T n; omega)
        clear hq hus
        go_wp2_with (go_at_call 17; refine (CU.out).mono ?_; rintro e w5 ⟨rfl, n5⟩)
        clear CU
        have hN5 := hN.step n5
        have O5 := O2.new n5
        have hgl5 := ownsRow_new hgl n5
        have hnow5 := ownsRow_new hnow n5
        have hz5 : w1.heap.size + 2 ≤ w5.heap.size := Nat.le_trans hz2' n5.size
        have ⟨⟨f1, _⟩, _, l1⟩ := O5.at2
        have ⟨⟨bx0, by0⟩, _, bl0⟩ := (B1.new hN5).at2
        obtain ⟨⟨x0, x1⟩, bw⟩ := rd_gl HH.out.glues (N1.step hN5) rfl hlt
        clear O2 hgl hnow hN n5 hz2'
        go_upto_region 9 with fail
        have lf := Later.cell f1 l1
        have lb := Later.cell bx0 bl0
        have lx0 := Later.cell x0 bw
        have lx1 := Later.cell x1 bw
        refine wp_region_later_late [0, 1] [2, 3, 4, 5, 6] 7 8 [9, 10] (by kernel_rfl) (by rfl) (by rfl) (by decide +kernel) ?_
        simp only [pickO, List.getElem?_cons_zero, List.getElem?_cons_succ]
        refine wpReads_cons (.pointer (some ⟨w1.heap.size, 0, none⟩)) (by rfl) (fun w' hw' => by go_simp) ?_
        simp only [Act.put, List.setIfInBounds_toArray, List.set_cons_zero, List.set_cons_succ]
        refine wpReads_cons (.slice Ag (oG G T n).length cg) (by rfl) (fun w' hw' => by obtain ⟨t, rfl⟩ := hw'; go_simp) ?_
        simp only [Act.put, List.setIfInBounds_toArray, List.set_cons_zero, List.set_cons_succ]
        simp only [wpReads]
        (repeat (go_big_quiet_step (fail)))
        refine wpQuiet_nil ?_
        intro wq hw'
        obtain ⟨⟨wz, nq⟩, hwz⟩ := hw'
        have hwz' : wq = wz := hwz
        subst hwz'
        clear hwz lf lb lx0 lx1
        have O6 := O5.new nq
        have hgl6 := ownsRow_new hgl5 nq
        have hnow6 := ownsRow_new hnow5 nq
        have hz6 : w1.heap.size + 2 ≤ wq.heap.size := Nat.le_trans hz5 nq.size
        clear x0 x1 bw bx0 by0 bl0 f1 l1 O5 hgl5 hnow5
        have hl4 := E4.out
        go_wp2_with (at_builtin; refine wpList_app1 rfl _ _ rfl row_Glue _ (w1.heap.size + 2) hgl6 rfl [.string G[n].1, .int .i64 G[n].2] rfl rfl (by simp [Value.oneCell']) (by unfold maxLen; omega) (by omega) hz6 ?_; intro v1 w3 hown1 hb3 _ _; obtain ⟨A1, cc, rfl⟩ := own_sl2 hown1; have G2 := O6.below hb3 (by omega); have ⟨⟨g1, g1'⟩, ⟨g2, _⟩, g3⟩ := G2.at2)
        have hnow7 : w3.ownsRow (w1.heap.size + 1) 2 1 (.slice (some ⟨w1.heap.size + 1, 0, none⟩) (G.length + 1) (G.length + 1)) (G.length + 1) ((nowL G.length T n).map (Value.int .i64)) := ownsRow_at hnow6 (hb3.block _ (by omega))
        have F3 := (Fr.refl w1.heap.size (w1.heap.size + 2) w3).setCell (p := ⟨w1.heap.size, 0, none⟩) (by simp) (by simp <;> omega) (.slice A1 ((oG G T n).length + 1) cc)
        have HQ := Lib.hid hnow7
        obtain ⟨y0, y1, y2⟩ := now_row hnow7 (j := n + 1) (by omega) rfl
        have F4 := Lib.hid (F3.setCell (p := ⟨w1.heap.size + 1, n + 1, none⟩) (by simp) (by simp) (.int .i64 (((oG G T n).length : Int) + 1)))
        have O7 := Lib.hid ((G2.put0 (.slice A1 ((oG G T n).length + 1) cc)).off (p := ⟨w1.heap.size + 1, n + 1, none⟩) (by simp) (.int .i64 (((oG G T n).length : Int) + 1)))
        have hgl7 := Lib.hid ((Own.of hown1).fr F4.out (.inr (Nat.le_refl _))).1
        have hnow8 := Lib.hid ((ownsRow_at (w' := w3.setCell ⟨w1.heap.size, 0, none⟩ (.slice A1 ((oG G T n).length + 1) cc)) hnow7 (Below.heap_setCell _ _ _ _ (by simp))).stored (n + 1) (.int .i64 (((oG G T n).length : Int) + 1))).1
        have E5 := Lib.hid (show ((kpN T (n + 1)).length : Int) = ((oG G T n).length : Int) + 1 by rw [E3.out]; rfl)
        have NN := Lib.hid (New.fr ((hN5.step nq).trans (hb3.mono (by omega))) F4.out (Nat.le_refl _))
        have hz8 := Lib.hid (Nat.le_trans hz6 (Nat.le_trans hb3.size F4.out.size))
        clear hnow7 hown1 F3 G2 O6 hgl6 hnow6
        refine NoPanic.normal ?_
        go_wp2
        go_roundw
        case rel =>
          refine ⟨n + 1, by omega, by go_num, _, O7.out, ?_, ?_, NN.out, hz8.out⟩
          · rw [E1.out, List.flatMap_append, List.length_append]
            exact hgl7.out
          · rw [E2.out, E5.out, List.map_set]
            exact hnow8.out
        case measure => simp [intOf]; omega
    · have en : n = G.length := by omega
      subst en
      obtain ⟨wo, hwo⟩ : ∃ wo, wo = wr := ⟨wr, rfl⟩
      subst hwo
      have hwo := (hgl.lt)
      have P0 : Hid (OwnTrim (wo.alloc (.cells #[] 2)) (w1.heap.size + 2) gu (.slice none 0 0) (.slice (some ⟨wo.heap.size, 0, none⟩) 0 0) (oG G T G.length) (oT T 0) (oA T 0) []) :=
        Lib.hid (OwnTrim.start (ownsRow_new hgl ((New.same _).box _)) (World.ownsRow_made wo #[] 0 hz2' (by omega) rfl) (fun g hg => ne_made (hwo g hg).2))
      have O3 := O2.new ((New.same _).box (.cells #[] 2))
      have Q0 := Lib.hid (ownsRow_new hnow ((New.same _).box (.cells #[] 2)))
      have N3 := hN.box (.cells #[] 2)
      have hz3 : w1.heap.size + 2 ≤ (wo.alloc (.cells #[] 2)).heap.size := by simp; omega
      clear hgl hnow O2 hN hz2' hwo
      go_wp2
      clear bx0 by0 bl0
      go_loopw [8, 9] (fun av i wr => ∃ n : Nat, n ≤ T.length ∧ i = .int .i64 n ∧ ∃ tu sv', BoxV wr w1.heap.size [gu, tu] ∧ Hid (OwnTrim wr (w1.heap.size + 2) gu tu av (oG G T G.length) (oT T n) (oA T n) sv') ∧ Hid (wr.ownsRow (w1.heap.size + 1) 2 1 (.slice (some ⟨w1.heap.size + 1, 0, none⟩) (G.length + 1) (G.length + 1)) (G.length + 1) ((nowL G.length T G.length).map (Value.int .i64))) ∧ New w1 wr ∧ w1.heap.size + 2 ≤ wr.heap.size) (fun _ i _ => T.length - (intOf i).toNat)
      case atStart => exact ⟨0, Nat.zero_le _, rfl, _, _, O3, P0, Q0, N3, hz3⟩
      case round =>
        clear O3 P0 Q0 N3 hz3
        obtain ⟨n, hn, rfl, tu, sv', O3, P3, Q3, hN, hz3⟩ := hrel
        have ⟨⟨bx0, by0⟩, _, bl0⟩ := (B1.new hN).at2
        by_cases hlt : n < T.length
        · obtain ⟨b, off, hBe⟩ := HB.out (by omega)
          subst hBe
          have p0 : (0 : Int) ≤ (n : Int) := by omega
          have p1 : (n : Int) < (T.length : Int) := by omega
          have H4n := Lib.hid (H4.out n hlt)
          have ol := (oT_le T n (by omega)).1
          obtain ⟨At, ct, rfl⟩ := own_sl2 P3.out.row
          obtain ⟨Ag, cg, rfl⟩ := own_sl2 P3.out.gl
          obtain ⟨wo, hwo⟩ : ∃ wo, wo = wr := ⟨wr, rfl⟩
          subst hwo
          have R0 : Hid ((wo.alloc (.cells #[] 2)).ownsRow wo.heap.size 2 1 (.slice (some ⟨wo.heap.size, 0, none⟩) 0 0) 0 (((trS T T[n].2).take 0).map (Value.int .i64))) := Lib.hid (World.ownsRow_made wo #[] 0 (Nat.le_refl _) (by omega) rfl)
          have M0 : New wo (wo.alloc (.cells #[] 2)) := (New.same _).box _
          go_wp2
          clear bx0 by0 bl0
          go_loopw [10, 11] (fun u i wr => ∃ k : Nat, k ≤ T[n].2.length ∧ i = .int .i64 k ∧ Hid (wr.ownsRow wo.heap.size 2 1 u k (((trS T T[n].2).take k).map (Value.int .i64))) ∧ New wo wr) (fun _ i _ => T[n].2.length - (intOf i).toNat)
          case atStart => exact ⟨0, by omega, rfl, R0, M0⟩
          case round =>
            clear R0 M0
            obtain ⟨k, hk, rfl, R0, M0⟩ := hrel
            have ⟨⟨bx0, by0⟩, _, bl0⟩ := (B1.new (hN.step M0)).at2
            by_cases hkl : k < T[n].2.length
            · have t0 : (k : Int) < 4 := by have := H4n.out; omega
              have hk4 : k < 4 := by omega
              have r2 : (0 : Int) ≤ (k : Int) := by omega
              have r4 : (k : Int) < (T[n].2.length : Int) := by omega
              obtain ⟨bs, os, m, ⟨z1, zl⟩, u0, ul⟩ := rd_side HH.out.tiles ((N1.step hN).step M0) rfl hlt hkl
              obtain ⟨s0, s1⟩ := (HI.out n hlt).2 k hkl
              obtain ⟨j, hj⟩ : ∃ j : Nat, T[n].2[k] = (j : Int) := ⟨T[n].2[k].toNat, by omega⟩
              have hjl : j < G.length + 1 := by omega
              have hv : Hid (nowF T G.length j = trV T T[n].2[k]) := by
                have h1 := now_side (m := G.length) hlt hkl s0 s1 (by rw [nowL_len]; omega)
                rw [nowL_get] at h1
                rw [← h1, hj]
                exact Lib.hid rfl
              rw [hj] at u0
              have j0 : (0 : Int) ≤ (j : Int) := by omega
              have j1 : (j : Int) < ((G.length + 1 : Nat) : Int) := by omega
              obtain ⟨y0, y1, y2⟩ := now_row (ownsRow_new Q3.out M0) (j := j) hjl rfl
              have HT := Lib.hid (show (trS T T[n].2).take (k + 1) = (trS T T[n].2).take k ++ [nowF T G.length j] by rw [List.take_succ_eq_append_getElem (by simp [trS, hkl]), hv.out]; simp [trS])
              have hz4 := M0.size
              clear s0 s1 hj
              go_wp2_with (at_builtin; refine wpList_app1 rfl _ _ rfl row_int64 _ wo.heap.size R0.out rfl [.int .i64 (nowF T G.length j)] rfl rfl (by simp [Value.oneCell']) (by unfold maxLen; omega) (by omega) hz4 ?_; intro v1 w3 hown1 hb3 _ _)
              go_roundw
              case rel => exact ⟨k + 1, by omega, by go_num, Lib.hid (by rw [HT.out, List.map_append]; exact hown1), M0.trans hb3⟩
              case measure => simp [intOf]; omega
            · have ek : k = T[n].2.length := by omega
              subst ek
              have t0 : ¬ ((T[n].2.length : Int) < 4) := by have := H4n.out; omega
              have HSL := Lib.hid (show (trS T T[n].2).length = T[n].2.length by simp [trS])
              have S0 : Hid (wr.ownsRow wo.heap.size 2 1 u10 (trS T T[n].2).length ((trS T T[n].2).map (Value.int .i64))) := Lib.hid (by have h := R0.out; rw [List.take_of_length_le (by have := HSL.out; omega)] at h; rw [HSL.out]; exact h)
              have hud : Hid (∀ g, u10.ownBlock = some g → ∀ v ∈ (Value.slice Ag (oG G T G.length).length cg) :: (Value.slice At (oT T n).length ct) :: u8 :: sv', v.ownBlock ≠ some g) := Lib.hid (fun g hg v hv hv' => by
                have h1 := (R0.out.lt g hg).1
                have h2 := (P3.out.blk v hv g hv').2
                omega)
              obtain ⟨As, cs, rfl⟩ := own_sl2 R0.out
              obtain ⟨wp, hwp⟩ : ∃ wp, wp = wr := ⟨wr, rfl⟩
              subst hwp
              have M1 := hN.step M0
              have O4 := O3.new M0
              have P4 := Lib.hid (P3.out.new M0)
              have Q4 := Lib.hid (ownsRow_new Q3.out M0)
              have hz5 := Nat.le_trans hz3 M0.size
              have hwb : w1.heap.size + 2 ≤ wo.heap.size := hz3
              clear hz3 O3 P3 Q3 R0 M0 hN
              go_wp2
              clear bx0 by0 bl0
              go_loopw [12, 13] (fun q i wr => ∃ (k : Nat) (z : Int), k ≤ (oT T n).length ∧ i = .int .i64 k ∧ q = .int .i64 z ∧ Hid ((z = -1 ∧ ∀ j (hj : j < (oT T n).length), j < k → eqL (oT T n)[j].2 (trS T T[n].2) = false) ∨ (z = lkF T n (trS T T[n].2) ∧ 0 ≤ z)) ∧ New wp wr) (fun _ i _ => (oT T n).length - (intOf i).toNat)
              case atStart => exact ⟨0, -1, Nat.zero_le _, rfl, rfl, Lib.hid (.inl ⟨rfl, fun j _ h => absurd h (Nat.not_lt_zero _)⟩), New.same _⟩
              case round =>
                obtain ⟨k, z, hk, rfl, rfl, HZ, M2⟩ := hrel
                have ⟨⟨f0, f1⟩, _, fl⟩ := (O4.new M2).at2
                by_cases hz0 : z < 0
                · have hz1 := HZ.out.resolve_right (by omega)
                  obtain ⟨rfl, hj⟩ := hz1
                  have HJ := Lib.hid hj
                  clear hj HZ
                  by_cases hk4 : k < (oT T n).length
                  · have d0 : (0 : Int) ≤ (k : Int) := by omega
                    have d1 : (k : Int) < ((oT T n).length : Int) := by omega
                    obtain ⟨gt, ctt, et, _, _⟩ := (Own.of P4.out.row).form (by omega)
                    obtain ⟨rfl, rfl⟩ : At = some ⟨gt, 0, none⟩ ∧ ct = ctt := by simpa using et
                    clear et
                    obtain ⟨A2, m2, ⟨x0, x1⟩, bw, rx, ex⟩ := rd_tl P4.out.rdS.tiles M2 rfl hk4
                    simp only [Nat.zero_add] at x0 x1
                    have C1 := c_l00Same _ _ _ _ _ _ (oT T n)[k].2 (trS T T[n].2) wr rx ((Own.of S0.out).rd.new M2)
                    cases hq : eqL (oT T n)[k].2 (trS T T[n].2)
                    · rw [hq] at C1
                      have HC := Lib.hid C1
                      have HQ := Lib.hid hq
                      clear C1 hq rx ex
                      go_wp2_with (go_at_call 18; refine (HC.out).mono ?_; rintro e w5 ⟨rfl, n5⟩)
                      go_roundw
                      case rel =>
                        refine ⟨k + 1, -1, by omega, by go_num, rfl, Lib.hid (.inl ⟨rfl, fun j hj hjk => ?_⟩), M2.step n5⟩
                        by_cases e : j = k
                        · subst e; exact HQ.out
                        · exact HJ.out j hj (by omega)
                      case measure => simp [intOf]; omega
                    · rw [hq] at C1
                      have HC := Lib.hid C1
                      have HK := Lib.hid (show lkF T n (trS T T[n].2) = (k : Int) from idxF_hit _ _ k hk4 HJ.out hq)
                      clear C1 hq rx ex
                      go_wp2_with (go_at_call 18; refine (HC.out).mono ?_; rintro e w5 ⟨rfl, n5⟩)
                      go_roundw
                      case rel => exact ⟨k + 1, k, by omega, by go_num, rfl, Lib.hid (.inr ⟨HK.out.symm, by omega⟩), M2.step n5⟩
                      case measure => simp [intOf]; omega
                  · have ek : k = (oT T n).length := by omega
                    have HK := Lib.hid (show lkF T n (trS T T[n].2) = -1 from idxF_miss _ _ (fun j hj => HJ.out j hj (by omega)))
                    have d1 : decide ((k : Int) < ((oT T n).length : Int)) = false := by simp; omega
                    clear HJ
                    have E1 := Lib.hid (o_new hlt (by rw [HK.out]; omega : lkF T n (trS T T[n].2) < 0))
                    have ol2 := (oT_le T n (by omega)).2
                    have OL := Lib.hid ol2
                    have O5 := O4.new M2
                    have P5 := Lib.hid (P4.out.new M2)
                    have Q5 := Lib.hid (ownsRow_new Q4.out M2)
                    have S5 := Lib.hid (ownsRow_new S0.out M2)
                    have M3 := M1.step M2
                    have ⟨⟨bx0, by0⟩, _, bl0⟩ := (B1.new M3).at2
                    obtain ⟨A2, m2, ⟨x0, x1⟩, bw, rx, ex⟩ := rd_tl HH.out.tiles (N1.step M3) rfl hlt
                    have hz6 := Nat.le_trans hz5 M2.size
                    clear rx ex ol2
                    go_upto_region 28 with fail
                    have lf := Later.cell f1 fl
                    have lb := Later.cell by0 bl0
                    have lx0 := Later.cell x0 bw
                    refine wp_region_later_late [0, 1] [2, 3, 4, 5, 6, 7, 8, 9] 10 11 [12, 13] (by kernel_rfl) (by rfl) (by rfl) (by decide +kernel) ?_
                    simp only [pickO, List.getElem?_cons_zero, List.getElem?_cons_succ]
                    refine wpReads_cons (.pointer (some ⟨w1.heap.size, 1, none⟩)) (by rfl) (fun w' hw' => by go_simp) ?_
                    simp only [Act.put, List.setIfInBounds_toArray, List.set_cons_zero, List.set_cons_succ]
                    refine wpReads_cons (.slice At (oT T n).length ct) (by rfl) (fun w' hw' => by obtain ⟨t, rfl⟩ := hw'; go_simp) ?_
                    simp only [Act.put, List.setIfInBounds_toArray, List.set_cons_zero, List.set_cons_succ]
                    simp only [wpReads]
                    (repeat (go_big_quiet_step (fail)))
                    refine wpQuiet_nil ?_
                    intro wq hw'
                    obtain ⟨⟨wz, nq⟩, hwz⟩ := hw'
                    have hwz' : wq = wz := hwz
                    subst hwz'
                    clear hwz lf lb lx0 x0 x1 bw bx0 by0 bl0 f0 f1 fl
                    have O6 := O5.new nq
                    have P6 := Lib.hid (P5.out.new nq)
                    have Q6 := Lib.hid (ownsRow_new Q5.out nq)
                    have S6 := Lib.hid (ownsRow_new S5.out nq)
                    have hz7 := Nat.le_trans hz6 nq.size
                    have M4 := M3.step nq
                    go_wp2_with (at_builtin; refine wpList_app1 rfl _ _ rfl row_Tile _ (w1.heap.size + 2) P6.out.row rfl [.string T[n].1, .slice As T[n].2.length cs] rfl rfl (by simp [Value.oneCell']) (by unfold maxLen; omega) (by omega) hz7 ?_; intro v1 w3 hown1 hb3 hgr3 hob3; obtain ⟨A1, cc, rfl⟩ := own_sl2 hown1; have G2 := O6.below hb3 (by omega); have ⟨⟨g1, g1'⟩, ⟨g2, g2'⟩, g3⟩ := G2.at2)
                    have hud6 : ∀ g, (Value.slice As T[n].2.length cs).ownBlock = some g → ∀ v ∈ (Value.slice Ag (oG G T G.length).length cg) :: (Value.slice At (oT T n).length ct) :: u8 :: sv', v.ownBlock ≠ some g := hud.out
                    have P7 := Lib.hid (P6.out.tile (ownsRow_wide S6.out hwb) hud6 hown1 hgr3 hob3 (Nat.le_succ _))
                    have Q7 := Lib.hid (ownsRow_at (w' := w3) Q6.out (hb3.block _ (by omega)))
                    have F3 := Lib.hid ((Fr.refl w1.heap.size (w1.heap.size + 1) w3).setCell (p := ⟨w1.heap.size, 1, none⟩) (by simp) (by simp) (.slice A1 ((oT T n).length + 1) cc))
                    have O8 := Lib.hid (G2.put2 (.slice A1 ((oT T n).length + 1) cc))
                    have P8 := Lib.hid (P7.out.fr F3.out (by omega))
                    have Q8 := Lib.hid (ownsRow_at (w' := w3.setCell ⟨w1.heap.size, 1, none⟩ (.slice A1 ((oT T n).length + 1) cc)) Q7.out (Below.heap_setCell _ _ _ _ (by simp)))
                    have M8 := Lib.hid (New.fr (M4.trans (hb3.mono (by omega))) F3.out (Nat.le_refl _))
                    have hz8 := Lib.hid (Nat.le_trans hz7 (Nat.le_trans hb3.size F3.out.size))
                    clear hown1 hb3 hgr3 hob3 G2 g1 g1' g2 g2' g3 O6 P6 Q6 S6 hz7 M4 P7 Q7 F3 O5 P5 Q5 S5 M3 hz6 nq hud6 M2
                    refine NoPanic.normal ?_
                    generalize (w3.setCell ⟨w1.heap.size, 1, none⟩ (.slice A1 ((oT T n).length + 1) cc)) = W8 at *
                    have hz9 := hz8.out
                    go_wp2_with (at_builtin; refine wpList_app1 rfl _ _ rfl row_int64 _ (w1.heap.size + 2) P8.out.at_ rfl [.int .i64 ((oT T n).length : Nat)] rfl rfl (by simp [Value.oneCell']) (by unfold maxLen; have := OL.out; omega) (by have := OL.out; omega) hz9 ?_; intro v2 w9 hown2 hb9 hgr9 hob9)
                    go_roundw
                    case rel =>
                      refine ⟨n + 1, by omega, by go_num, _, sv' ++ [.slice As T[n].2.length cs], O8.out.below hb9 (by omega), Lib.hid ?_, Lib.hid (ownsRow_at Q8.out (hb9.block _ (by omega))), M8.out.trans (hb9.mono (by omega)), Nat.le_trans hz9 hb9.size⟩
                      rw [E1.out.1, E1.out.2]
                      exact P8.out.num hown2 hgr9 hob9 (Nat.le_succ _)
                    case measure => simp [intOf]; omega
                · have hz1 : z = lkF T n (trS T T[n].2) := (HZ.out.resolve_left (by omega)).1
                  have E1 := Lib.hid (o_old hlt (by rw [← hz1]; exact hz0))
                  have HZE := Lib.hid hz1
                  have ol2 := (oT_le T n (by omega)).2
                  have OL := Lib.hid ol2
                  have O8 := O4.new M2
                  have P8 := Lib.hid (P4.out.new M2)
                  have Q8 := Lib.hid (ownsRow_new Q4.out M2)
                  have M8 := Lib.hid (M1.step M2)
                  have hz9 := Nat.le_trans hz5 M2.size
                  have d2 : decide (z < 0) = false := by simp; omega
                  clear hz1 HZ ol2
                  by_cases hk4 : k < (oT T n).length
                  · have d1 : decide ((k : Int) < ((oT T n).length : Int)) = true := by simp; omega
                    go_wp2_with (at_builtin; refine wpList_app1 rfl _ _ rfl row_int64 _ (w1.heap.size + 2) P8.out.at_ rfl [.int .i64 z] rfl rfl (by simp [Value.oneCell']) (by unfold maxLen; have := OL.out; omega) (by have := OL.out; omega) hz9 ?_; intro v2 w9 hown2 hb9 hgr9 hob9)
                    go_roundw
                    case rel =>
                      refine ⟨n + 1, by omega, by go_num, _, sv', O8.below hb9 (by omega), Lib.hid ?_, Lib.hid (ownsRow_at Q8.out (hb9.block _ (by omega))), M8.out.trans (hb9.mono (by omega)), Nat.le_trans hz9 hb9.size⟩
                      rw [E1.out.1, E1.out.2, ← HZE.out]
                      exact P8.out.num hown2 hgr9 hob9 (Nat.le_succ _)
                    case measure => simp [intOf]; omega
                  · have d1 : decide ((k : Int) < ((oT T n).length : Int)) = false := by simp; omega
                    go_wp2_with (at_builtin; refine wpList_app1 rfl _ _ rfl row_int64 _ (w1.heap.size + 2) P8.out.at_ rfl [.int .i64 z] rfl rfl (by simp [Value.oneCell']) (by unfold maxLen; have := OL.out; omega) (by have := OL.out; omega) hz9 ?_; intro v2 w9 hown2 hb9 hgr9 hob9)
                    go_roundw
                    case rel =>
                      refine ⟨n + 1, by omega, by go_num, _, sv', O8.below hb9 (by omega), Lib.hid ?_, Lib.hid (ownsRow_at Q8.out (hb9.block _ (by omega))), M8.out.trans (hb9.mono (by omega)), Nat.le_trans hz9 hb9.size⟩
                      rw [E1.out.1, E1.out.2, ← HZE.out]
                      exact P8.out.num hown2 hgr9 hob9 (Nat.le_succ _)
                    case measure => simp [intOf]; omega
        · have en : n = T.length := by omega
          subst en
          obtain ⟨At, ct, rfl⟩ := own_sl2 P3.out.row
          obtain ⟨Ag, cg, rfl⟩ := own_sl2 P3.out.gl
          have ⟨⟨f0, f1⟩, _, fl⟩ := O3.at2
          have ⟨⟨r0, r1⟩, ⟨q0, q1⟩, rl⟩ := (R1.new hN).at2
          have F := Lib.hid (((Fr.refl (w.heap.size + 1) (w.heap.size + 2) wr).setCell (p := ⟨w.heap.size + 1, 0, none⟩) (by simp) (by simp) (.slice Ag (oG G T G.length).length cg)).setCell (p := ⟨w.heap.size + 1, 1, none⟩) (by simp) (by simp) (.slice At (oT T T.length).length ct))
          have NN := N1.step hN
          go_wp2
          refine bodyPost_ret (v := .tuple #[.agg #[.slice Ag (oG G T G.length).length cg, .slice At (oT T T.length).length ct], u8, .int .i64 0]) (by simp [results, Try.results5, go_sem, *]) rfl ⟨_, _, _, _, rfl, (P3.out.fr F.out (by omega)).wide (by omega), New.fr NN F.out (by omega)⟩
end Go.Proofs.Ytcbifdfcllaaaaa
