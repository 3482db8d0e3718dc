/- The contract of the program's TrimSet. -/
import Derived.Test.YtcbifdfcllaaaaaTrim2
namespace Go.Proofs.Ytcbifdfcllaaaaa
open Go.RowKit Go.Deep
set_option linter.unusedVariables false
set_option linter.unusedSimpArgs false

set_option maxHeartbeats 1000000 in
theorem c_implTrim_no (lo hi : Nat) (gv tv : Value) (G : List (ByteArray × Int)) (T : List (ByteArray × List Int)) (sv : List Value) (w : World) (h : RdS w lo hi gv tv G T sv) (hg : ∀ g ∈ G, g.1.size ≤ maxLen) (ht : ∀ t ∈ T, t.1.size ≤ maxLen) (hs : setB G T = false) :
    Calls Try.prog 7 #[.agg #[gv, tv]] w (GivesTrim w (tmG G T) (tmT G T) (tmA G T) (tmC G T)) := by
  obtain ⟨A, c, B, d, rfl, rfl⟩ := h.form
  have HH := Lib.hid h
  clear h
  obtain ⟨e1, e2, e3, e4⟩ := trim_no hs
  rw [e1, e2, e3, e4]
  have n0 : New w ((w.alloc (.cells #[.slice A G.length c, .slice B T.length d] 30)).alloc (.cells #[.slice none 0 0, .slice none 0 0] 30)) := ((New.same w).box _).box _
  have B0 : BoxV ((w.alloc (.cells #[.slice A G.length c, .slice B T.length d] 30)).alloc (.cells #[.slice none 0 0, .slice none 0 0] 30)) w.heap.size [.slice A G.length c, .slice B T.length d] := .two (by go_simp) (by go_simp) (by go_simp) (by go_simp) (by simp; omega)
  have R0 : BoxV ((w.alloc (.cells #[.slice A G.length c, .slice B T.length d] 30)).alloc (.cells #[.slice none 0 0, .slice none 0 0] 30)) (w.heap.size + 1) [.slice none 0 0, .slice none 0 0] := .two (by go_simp) (by go_simp) (by go_simp) (by go_simp) (by simp)
  have HS := Lib.hid hs
  clear hs e1 e2 e3 e4
  go_enter Try.func7, Try.ntmps7
  go_wp2_with fail
  generalize ((w.alloc (.cells #[.slice A G.length c, .slice B T.length d] 30)).alloc (.cells #[.slice none 0 0, .slice none 0 0] 30)) = W0 at *
  refine (c_implValidSet _ _ _ _ G T sv _ (HH.out.new n0) hg ht).mono ?_
  rintro e w1 ⟨rfl, n1⟩
  rw [HS.out]
  have hz1 := n0.step n1
  have ⟨⟨r0, r1⟩, ⟨f0, f1⟩, rl⟩ := (R0.new n1).at2
  have F1 := (Fr.refl (w.heap.size + 1) (w.heap.size + 2) w1).setCell (p := ⟨w.heap.size + 1, 0, none⟩) (by simp) (by simp) (.slice none 0 0)
  have F2 := F1.setCell (p := ⟨w.heap.size + 1, 1, none⟩) (by simp) (by simp) (.slice none 0 0)
  go_wp2
  refine bodyPost_ret (v := .tuple #[.agg #[.slice none 0 0, .slice none 0 0], .slice none 0 0, .int .i64 1]) (by simp [results, Try.results7, go_sem, *]) rfl ⟨_, _, _, _, rfl, trim_none w _ (Nat.le_trans hz1.size F2.size), New.fr hz1 F2 (by omega)⟩
set_option maxRecDepth 20000 in
set_option maxHeartbeats 8000000 in
theorem c_implTrim_yes (lo hi : Nat) (gv tv : Value) (G : List (ByteArray × Int)) (T : List (ByteArray × List Int)) (sv : List Value) (w : World) (h : RdS w lo hi gv tv G T sv) (hg : ∀ g ∈ G, g.1.size ≤ maxLen) (ht : ∀ t ∈ T, t.1.size ≤ maxLen) (hs : setB G T = true) :
    Calls Try.prog 7 #[.agg #[gv, tv]] w (GivesTrim w (tmG G T) (tmT G T) (tmA G T) (tmC G T)) := by
  obtain ⟨A, c, B, d, rfl, rfl⟩ := h.form
  have HH := Lib.hid h
  obtain ⟨A', c', e1, hm, ha⟩ := rd_form h.glues
  obtain ⟨B', d', e2, hm', hb⟩ := rd_form h.tiles.outer
  obtain ⟨rfl, rfl⟩ : A = A' ∧ c = c' := by simpa using e1
  obtain ⟨rfl, rfl⟩ : B = B' ∧ d = d' := by simpa using e2
  have HA := Lib.hid ha
  have HB := Lib.hid hb
  have ⟨i1, i2, i3, i4⟩ := set_in hs
  have H4 := Lib.hid (fun k (hk : k < T.length) => (i4 k hk).1)
  clear h e1 e2 ha hb i4
  obtain ⟨e1, e2, e3, e4⟩ := trim_yes hs
  rw [e1, e2, e3, e4]
  have n0 : New w ((w.alloc (.cells #[.slice A G.length c, .slice B T.length d] 30)).alloc (.cells #[.slice none 0 0, .slice none 0 0] 30)) := ((New.same w).box _).box _
  have B0 : BoxV ((w.alloc (.cells #[.slice A G.length c, .slice B T.length d] 30)).alloc (.cells #[.slice none 0 0, .slice none 0 0] 30)) w.heap.size [.slice A G.length c, .slice B T.length d] := .two (by go_simp) (by go_simp) (by go_simp) (by go_simp) (by simp; omega)
  have R0 : BoxV ((w.alloc (.cells #[.slice A G.length c, .slice B T.length d] 30)).alloc (.cells #[.slice none 0 0, .slice none 0 0] 30)) (w.heap.size + 1) [.slice none 0 0, .slice none 0 0] := .two (by go_simp) (by go_simp) (by go_simp) (by go_simp) (by simp)
  have HS := Lib.hid hs
  clear hs e1 e2 e3 e4
  go_enter Try.func7, Try.ntmps7
  go_wp2_with fail
  generalize ((w.alloc (.cells #[.slice A G.length c, .slice B T.length d] 30)).alloc (.cells #[.slice none 0 0, .slice none 0 0] 30)) = W0 at *
  refine (c_implValidSet _ _ _ _ G T sv _ (HH.out.new n0) hg ht).mono ?_
  rintro e w1 ⟨rfl, n1⟩
  rw [HS.out]
  have N1 := n0.step n1
  have B1 := B0.new n1
  have R1 := R0.new n1
  have ⟨⟨bx0, by0⟩, _, bl0⟩ := B1.at2
  have hbz : w.heap.size + 1 < w1.heap.size := R1.lt
  have O2 : BoxV (w1.alloc (.cells #[.slice none 0 0, .slice none 0 0] 30)) w1.heap.size [.slice none 0 0, .slice none 0 0] := .two (by go_simp) (by go_simp) (by go_simp) (by go_simp) (by simp)
  have N2 : New w1 (w1.alloc (.cells #[.slice none 0 0, .slice none 0 0] 30)) := (New.same w1).box _
  have hz2 : w1.heap.size + 1 ≤ (w1.alloc (.cells #[.slice none 0 0, .slice none 0 0] 30)).heap.size := by simp
  go_wp2
  clear bx0 by0 bl0
  go_loopw [20] (fun i wr => ∃ n : Nat, n ≤ G.length ∧ i = .int .i64 n ∧ ∃ gu, BoxV wr w1.heap.size [gu, .slice none 0 0] ∧ wr.ownsRow (w1.heap.size + 1) 46 2 gu (oG G T n).length ((oG G T n).flatMap glC) ∧ New w1 wr ∧ w1.heap.size + 1 ≤ wr.heap.size) (fun i _ => G.length - (intOf i).toNat)
  case atStart => exact ⟨0, Nat.zero_le _, rfl, _, O2, World.ownsRow_nil _ _ _ _, N2, hz2⟩
  case round =>
    clear O2 N2 hz2
    obtain ⟨n, hn, rfl, gu, O2, hgl, hN, hz2⟩ := hrel
    obtain ⟨Ag, cg, rfl⟩ := own_sl2 hgl
    by_cases hlt : n < G.length
    · obtain ⟨b, off, hAe⟩ := HA.out (by omega)
      subst hAe
      have p0 : (0 : Int) ≤ (n : Int) := by omega
      have p1 : (n : Int) < (G.length : Int) := by omega
      obtain ⟨⟨x0, x1⟩, bw⟩ := rd_gl HH.out.glues (N1.step hN) rfl hlt
      have n8 : New wr ((wr.alloc (.cells #[.int .i64 n] 3)).alloc (.cells #[.string G[n].1, .int .i64 G[n].2] 46)) := ((New.same wr).box _).box _
      have c6 : ((wr.alloc (.cells #[.int .i64 n] 3)).alloc (.cells #[.string G[n].1, .int .i64 G[n].2] 46)).cell? ⟨wr.heap.size, 0, none⟩ = some (.int .i64 n) := by go_simp
      have D7 : BoxV ((wr.alloc (.cells #[.int .i64 n] 3)).alloc (.cells #[.string G[n].1, .int .i64 G[n].2] 46)) (wr.heap.size + 1) [.string G[n].1, .int .i64 G[n].2] := .two (by go_simp) (by go_simp) (by go_simp) (by go_simp) (by simp)
      have l6 : wr.heap.size < ((wr.alloc (.cells #[.int .i64 n] 3)).alloc (.cells #[.string G[n].1, .int .i64 G[n].2] 46)).heap.size := by simp; omega
      have NX := (N1.step hN).step n8
      have HT := Lib.hid (tests_ts1 wr.heap.size lo hi _ n T sv _ (HH.out.tiles.new NX) (by omega) c6 l6)
      have HC := Lib.hid (c_containsFunc_Tile _ _ _ enters_ts1 _ _ _ T sv _ (HH.out.tiles.new NX) HT.out)
      have hmet : (T.any fun t => t.2.any fun s => decide (s = (n : Int) + 1)) = usB T n := rfl
      have hz3 : wr.heap.size + 1 < ((wr.alloc (.cells #[.int .i64 n] 3)).alloc (.cells #[.string G[n].1, .int .i64 G[n].2] 46)).heap.size := by simp
      clear HT c6 l6
      go_upto_region 7 with fail
      clear x0 x1 bw
      generalize ((wr.alloc (.cells #[.int .i64 n] 3)).alloc (.cells #[.string G[n].1, .int .i64 G[n].2] 46)) = W8 at *
      have hM := hN.step n8
      have ⟨⟨bx0, by0⟩, _, bl0⟩ := (B1.new hM).at2
      rw [hmet] at HC
      cases hq : usB T n
      · rw [hq] at HC
        have E1 := Lib.hid (oG_no (G := G) hq)
        clear hq hmet
        go_wp2_with (go_at_call 22; refine (HC.out).mono ?_; rintro e w9 ⟨rfl, n9⟩)
        go_roundw
        case rel => exact ⟨n + 1, by omega, by go_num, _, (O2.new n8).new n9, by rw [E1.out]; exact ownsRow_new (ownsRow_new hgl n8) n9, hM.step n9, Nat.le_trans hz2 (n8.step n9).size⟩
        case measure => simp [intOf]; omega
      · rw [hq] at HC
        have E1 := Lib.hid (oG_yes (G := G) hq hlt)
        have E4 := Lib.hid (show (oG G T n).length ≤ 200 by rw [oG_len]; have := kpN_le T n; omega)
        clear hq hmet
        go_upto_region 8 with (go_at_call 22; refine (HC.out).mono ?_; rintro e w9 ⟨rfl, n9⟩)
        have hl4 := E4.out
        have O9 := (O2.new n8).new n9
        have hgl9 := ownsRow_new (ownsRow_new hgl n8) n9
        have M9 := hM.step n9
        have hz9 : w1.heap.size + 1 ≤ w9.heap.size := Nat.le_trans hz2 (n8.step n9).size
        have ⟨⟨g0, g1⟩, _, gl⟩ := (D7.new n9).at2
        have ⟨⟨f0, f1⟩, ⟨k0, k1⟩, fl⟩ := O9.at2
        clear O2 hgl hN hz2 n8 D7 NX HC hz3 hM bx0 by0 bl0 n9
        go_wp2_with (at_builtin; refine wpList_app1 rfl _ _ rfl row_Glue _ (w1.heap.size + 1) hgl9 rfl [.string G[n].1, .int .i64 G[n].2] rfl rfl (by simp [Value.oneCell']) (by unfold maxLen; omega) (by omega) hz9 ?_; intro v1 w3 hown1 hb3 _ _; obtain ⟨A1, cc, rfl⟩ := own_sl2 hown1; have G2 := Lib.hid (O9.below hb3 (by omega)); have ⟨⟨q1, q1'⟩, ⟨q2, q2'⟩, q3⟩ := G2.out.at2)
        have F3 := Lib.hid ((Fr.refl w1.heap.size (w1.heap.size + 1) w3).setCell (p := ⟨w1.heap.size, 0, none⟩) (by simp) (by simp) (.slice A1 ((oG G T n).length + 1) cc))
        go_roundw
        case rel =>
          refine ⟨n + 1, by omega, by go_num, _, G2.out.put0 _, ?_, New.fr (M9.trans (hb3.mono (by omega))) F3.out (Nat.le_refl _), Nat.le_trans hz9 (Nat.le_trans hb3.size F3.out.size)⟩
          rw [E1.out, List.flatMap_append, List.length_append]
          exact ((Own.of hown1).fr F3.out (.inr (Nat.le_refl _))).1
        case measure => simp [intOf]; omega
    · have en : n = G.length := by omega
      subst en
      have ⟨⟨bx0, by0⟩, _, bl0⟩ := (B1.new hN).at2
      obtain ⟨wo, hwo⟩ : ∃ wo, wo = wr := ⟨wr, rfl⟩
      subst hwo
      have P0 : Hid (OwnTrim wo (w1.heap.size + 1) (.slice Ag (oG G T G.length).length cg) (.slice none 0 0) (.slice none 0 0) (oG G T G.length) (oT T 0) (oA T 0) []) :=
        Lib.hid (OwnTrim.start hgl (World.ownsRow_nil _ _ _ _) (fun g _ q => by cases q))
      clear hgl
      go_wp2
      clear bx0 by0 bl0
      go_loopw [8, 39] (fun av i wr => ∃ n : Nat, n ≤ T.length ∧ i = .int .i64 n ∧ ∃ tu sv', BoxV wr w1.heap.size [.slice Ag (oG G T G.length).length cg, tu] ∧ Hid (OwnTrim wr (w1.heap.size + 1) (.slice Ag (oG G T G.length).length cg) tu av (oG G T G.length) (oT T n) (oA T n) sv') ∧ New w1 wr ∧ w1.heap.size + 1 ≤ wr.heap.size) (fun _ i _ => T.length - (intOf i).toNat)
      case atStart => exact ⟨0, Nat.zero_le _, rfl, _, _, O2, P0, hN, hz2⟩
      case round =>
        clear O2 P0 hN hz2
        obtain ⟨n, hn, rfl, tu, sv', O2, P2, hN, hz2⟩ := hrel
        obtain ⟨At, ct, rfl⟩ := own_sl2 P2.out.row
        by_cases hlt : n < T.length
        · obtain ⟨b, off, hBe⟩ := HB.out (by omega)
          subst hBe
          have p0 : (0 : Int) ≤ (n : Int) := by omega
          have p1 : (n : Int) < (T.length : Int) := by omega
          have H4n := Lib.hid (H4.out n hlt)
          have ol := (oT_le T n (by omega)).1
          obtain ⟨As, ms, ⟨x0, x1⟩, bw, rx, ex⟩ := rd_tl HH.out.tiles (N1.step hN) rfl hlt
          have HX := Lib.hid ex
          have n8 : New wr (wr.alloc (.cells #[.string T[n].1, .slice As T[n].2.length ms] 48)) := (New.same wr).box _
          have D8 : BoxV (wr.alloc (.cells #[.string T[n].1, .slice As T[n].2.length ms] 48)) wr.heap.size [.string T[n].1, .slice As T[n].2.length ms] := .two (by go_simp) (by go_simp) (by go_simp) (by go_simp) (by simp)
          clear rx ex
          go_upto_region 14 with fail
          clear x0 x1 bw
          generalize (wr.alloc (.cells #[.string T[n].1, .slice As T[n].2.length ms] 48)) = W8 at *
          have M8 := hN.step n8
          have ⟨⟨bx0, by0⟩, _, bl0⟩ := (B1.new M8).at2
          have ⟨⟨f0, f1⟩, _, fl⟩ := (O2.new n8).at2
          have ⟨⟨d0, d1⟩, _, dl⟩ := D8.at2
          have hz8 := n8.size
          have P8 := Lib.hid (P2.out.new n8)
          go_wp2_with fail
          refine (c_translated lo hi _ _ _ _ _ _ _ G T (oT T n) sv sv' n _ (HH.out.new (N1.step M8)) P8.out.rdS HS.out hlt HX.out).mono ?_
          rintro e w3 ⟨us, rfl, hus, n3⟩
          have HU := Lib.hid hus
          obtain ⟨Au, cu, rfl⟩ := own_sl2 hus
          have hud : Hid (∀ g, (Value.slice Au (trS T T[n].2).length cu).ownBlock = some g → ∀ v ∈ (Value.slice Ag (oG G T G.length).length cg) :: (Value.slice At (oT T n).length ct) :: u8 :: sv', v.ownBlock ≠ some g) := Lib.hid (fun g hg v hv hv' => by
            have h1 := (HU.out.lt g hg).1
            have h2 := (P8.out.blk v hv g hv').2
            omega)
          have n4 : New w3 (w3.alloc (.cells #[.slice Au (trS T T[n].2).length cu] 31)) := (New.same w3).box _
          have c4 : (w3.alloc (.cells #[.slice Au (trS T T[n].2).length cu] 31)).cell? ⟨w3.heap.size, 0, none⟩ = some (.slice Au (trS T T[n].2).length cu) := by go_simp
          have l4 : w3.heap.size < (w3.alloc (.cells #[.slice Au (trS T T[n].2).length cu] 31)).heap.size := by simp
          clear hus bx0 by0 bl0 f0 f1 fl d0 d1 dl
          go_upto_region 15 with fail
          generalize (w3.alloc (.cells #[.slice Au (trS T T[n].2).length cu] 31)) = W4 at *
          have M4 := (M8.step n3).step n4
          have n84 := n3.step n4
          have P4 := Lib.hid (P8.out.new n84)
          have O4 := (O2.new n8).new n84
          have U4 := Lib.hid (ownsRow_new HU.out n4)
          have HT := Lib.hid (tests_ts2 w3.heap.size _ _ _ _ _ _ (trS T T[n].2) (oT T n) sv' _ P4.out.rdS.tiles (Own.of U4.out).rd c4 l4)
          have HC := Lib.hid (c_indexFunc_Tile _ _ _ enters_ts2 _ _ _ (oT T n) sv' _ P4.out.rdS.tiles HT.out)
          have hmet : idxF (fun u : ByteArray × List Int => eqL u.2 (trS T T[n].2)) (oT T n) = lkF T n (trS T T[n].2) := rfl
          have ⟨⟨f0, f1⟩, _, fl⟩ := O4.at2
          have hz4 : w1.heap.size + 1 ≤ W4.heap.size := Nat.le_trans hz2 (n8.step n84).size
          rw [hmet] at HC
          have hbd := idxF_bd (fun u : ByteArray × List Int => eqL u.2 (trS T T[n].2)) (oT T n)
          rw [hmet] at hbd
          clear hmet HT
          obtain ⟨z, hzz⟩ : ∃ z, lkF T n (trS T T[n].2) = z := ⟨_, rfl⟩
          have HZ := Lib.hid hzz
          rw [hzz] at HC hbd
          clear hzz
          go_upto_region 16 with (go_at_call 26; refine (HC.out).mono ?_; rintro e w5 ⟨rfl, n5⟩)
          have O5 := O4.new n5
          have P5 := Lib.hid (P4.out.new n5)
          have U5 := Lib.hid (ownsRow_new U4.out n5)
          have M5 := M4.step n5
          have ⟨⟨d0, d1⟩, _, dl⟩ := (D8.new n84).new n5 |>.at2
          have c5 := (n5.cell (p := ⟨w3.heap.size, 0, none⟩) l4).trans c4
          have l5 := Nat.lt_of_lt_of_le l4 n5.size
          have hz5 : w1.heap.size + 1 ≤ w5.heap.size := Nat.le_trans hz4 n5.size
          have ol2 := (oT_le T n (by omega)).2
          have OL := Lib.hid ol2
          have hwb : w1.heap.size + 1 ≤ W8.heap.size := Nat.le_trans hz2 n8.size
          clear f0 f1 fl c4 l4 P4 O4 U4 P8 O2 P2 D8 M8 M4 HC hN n84 n4 n3 n5 n8 hz4 hz2 HU ol2
          have ⟨⟨f0, f1⟩, ⟨k0, k1⟩, fl⟩ := O5.at2
          by_cases hz0 : z < 0
          · have d2 : decide (z < 0) = true := by simp; omega
            have E1 := Lib.hid (o_new hlt (by rw [HZ.out]; exact hz0))
            go_upto_region 19 with (at_builtin; refine wpList_app1 rfl _ _ rfl row_Tile _ (w1.heap.size + 1) P5.out.row rfl [.string T[n].1, .slice Au (trS T T[n].2).length cu] rfl rfl (by simp [Value.oneCell']) (by unfold maxLen; omega) (by omega) hz5 ?_; intro v1 w6 hown1 hb3 hgr3 hob3; obtain ⟨A1, cc, rfl⟩ := own_sl2 hown1; have G2 := Lib.hid (O5.below hb3 (by omega)); have ⟨⟨q1, q1'⟩, ⟨q2, q2'⟩, q3⟩ := G2.out.at2)
            have P7 := Lib.hid (P5.out.tile (ownsRow_wide U5.out (by omega)) hud.out hown1 hgr3 hob3 (Nat.le_succ _))
            have F3 := Lib.hid ((Fr.refl w1.heap.size (w1.heap.size + 1) w6).setCell (p := ⟨w1.heap.size, 1, none⟩) (by simp) (by simp) (.slice A1 ((oT T n).length + 1) cc))
            have O8 := Lib.hid (G2.out.put2 (.slice A1 ((oT T n).length + 1) cc))
            have P8 := Lib.hid (P7.out.fr F3.out (by omega))
            have M8 := Lib.hid (New.fr (M5.trans (hb3.mono (by omega))) F3.out (Nat.le_refl _))
            have hz8 := Lib.hid (Nat.le_trans hz5 (Nat.le_trans hb3.size F3.out.size))
            clear hown1 hb3 hgr3 hob3 G2 q1 q1' q2 q2' q3 O5 P5 U5 P7 F3 hz5 M5 f0 f1 k0 k1 fl d0 d1 dl c5 l5
            generalize (w6.setCell ⟨w1.heap.size, 1, none⟩ (.slice A1 ((oT T n).length + 1) cc)) = W9 at *
            have hz9 := hz8.out
            go_wp2_with (at_builtin; refine wpList_app1 rfl _ _ rfl row_int64 _ (w1.heap.size + 1) P8.out.at_ rfl [.int .i64 ((oT T n).length : Nat)] rfl rfl (by simp [Value.oneCell']) (by unfold maxLen; have := OL.out; omega) (by have := OL.out; omega) hz9 ?_; intro v2 w9 hown2 hb9 hgr9 hob9)
            go_roundw
            case rel =>
              refine ⟨n + 1, by omega, by go_num, _, sv' ++ [.slice Au (trS T T[n].2).length cu], O8.out.below hb9 (by omega), Lib.hid ?_, M8.out.trans (hb9.mono (by omega)), Nat.le_trans hz9 hb9.size⟩
              rw [E1.out.1, E1.out.2]
              exact P8.out.num hown2 hgr9 hob9 (Nat.le_succ _)
            case measure => simp [intOf]; omega
          · have d2 : decide (z < 0) = false := by simp; omega
            have E1 := Lib.hid (o_old hlt (by rw [HZ.out]; exact hz0))
            go_wp2_with (at_builtin; refine wpList_app1 rfl _ _ rfl row_int64 _ (w1.heap.size + 1) P5.out.at_ rfl [.int .i64 z] rfl rfl (by simp [Value.oneCell']) (by unfold maxLen; have := OL.out; omega) (by have := OL.out; omega) hz5 ?_; intro v2 w9 hown2 hb9 hgr9 hob9)
            go_roundw
            case rel =>
              refine ⟨n + 1, by omega, by go_num, _, sv', O5.below hb9 (by omega), Lib.hid ?_, M5.trans (hb9.mono (by omega)), Nat.le_trans hz5 hb9.size⟩
              rw [E1.out.1, E1.out.2, HZ.out]
              exact P5.out.num hown2 hgr9 hob9 (Nat.le_succ _)
            case measure => simp [intOf]; omega
        · have en : n = T.length := by omega
          subst en
          have ⟨⟨f0, f1⟩, _, fl⟩ := O2.at2
          have ⟨⟨r0, r1⟩, ⟨q0, q1⟩, rl⟩ := (R1.new hN).at2
          have F := Lib.hid (((Fr.refl (w.heap.size + 1) (w.heap.size + 2) wr).setCell (p := ⟨w.heap.size + 1, 0, none⟩) (by simp) (by simp) (.slice Ag (oG G T G.length).length cg)).setCell (p := ⟨w.heap.size + 1, 1, none⟩) (by simp) (by simp) (.slice At (oT T T.length).length ct))
          have NN := N1.step hN
          go_wp2
          refine bodyPost_ret (v := .tuple #[.agg #[.slice Ag (oG G T G.length).length cg, .slice At (oT T T.length).length ct], u8, .int .i64 0]) (by simp [results, Try.results7, go_sem, *]) rfl ⟨_, _, _, _, rfl, (P2.out.fr F.out (by omega)).wide (by omega), New.fr NN F.out (by omega)⟩

theorem c_implTrimSet (lo hi : Nat) (gv tv : Value) (G : List (ByteArray × Int)) (T : List (ByteArray × List Int)) (sv : List Value) (w : World) (h : RdS w lo hi gv tv G T sv) (hg : ∀ g ∈ G, g.1.size ≤ maxLen) (ht : ∀ t ∈ T, t.1.size ≤ maxLen) :
    Calls Try.prog 7 #[.agg #[gv, tv]] w (GivesTrim w (tmG G T) (tmT G T) (tmA G T) (tmC G T)) := by
  cases hs : setB G T
  · exact c_implTrim_no lo hi gv tv G T sv w h hg ht hs
  · exact c_implTrim_yes lo hi gv tv G T sv w h hg ht hs
theorem c_specTrimSet (lo hi : Nat) (gv tv : Value) (G : List (ByteArray × Int)) (T : List (ByteArray × List Int)) (sv : List Value) (w : World) (h : RdS w lo hi gv tv G T sv) (hg : ∀ g ∈ G, g.1.size ≤ maxLen) (ht : ∀ t ∈ T, t.1.size ≤ maxLen) :
    Calls Try.prog 5 #[.agg #[gv, tv]] w (GivesTrim w (tmG G T) (tmT G T) (tmA G T) (tmC G T)) := by
  cases hs : setB G T
  · exact c_specTrim_no lo hi gv tv G T sv w h hg ht hs
  · exact c_specTrim_yes lo hi gv tv G T sv w h hg ht hs
end Go.Proofs.Ytcbifdfcllaaaaa
