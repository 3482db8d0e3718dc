/- The contract of the program's test of a set. -/
import Derived.Test.YtcbifdfcllaaaaaSeen
namespace Go.Proofs.Ytcbifdfcllaaaaa
open Go.RowKit Go.Deep
set_option linter.unusedVariables false
set_option linter.unusedSimpArgs false

theorem enters_vs1 : EntersIt Try.prog 46 := enters_of Try.func46 (by kernel_rfl) rfl

set_option maxHeartbeats 400000 in
theorem tests_vs1 (b0 : Nat) (A : Option Addr) (n c : Nat) (tv : Value) (zs : List Int) (w : World) (B0 : BoxV w b0 [.slice A n c, tv]) : Tests Try.prog 46 #[.pointer (some ⟨b0, 0, none⟩)] (Value.int .i64) (fun g => !inB g 0 n) zs w := by
  intro x W _ hN
  have ⟨⟨bx0, _⟩, _, bl0⟩ := (B0.new hN).at2
  show Calls _ _ #[.int .i64 x, .pointer (some ⟨b0, 0, none⟩)] W _
  go_enter Try.func46, Try.ntmps46
  go_wp2_with (go_at_call 43; refine (c_within _ _ _ _).mono ?_; rintro e w' ⟨rfl, rfl⟩)
  go_ret
  exact ⟨rfl, New.same _⟩

theorem any_all (zs : List Int) (n : Nat) : (zs.any fun g => !inB g 0 n) = !(zs.all fun g => inB g 0 n) := by
  induction zs with
  | nil => rfl
  | cons x r ih => simp [ih]

set_option maxRecDepth 20000 in
set_option maxHeartbeats 8000000 in
theorem c_implValidSet (lo hi : Nat) (gv tv : Value) (G : List (ByteArray × Int)) (T : List (ByteArray × List Int)) (sv : List Value) (w : World) (h : RdS w lo hi gv tv G T sv) (hg : ∀ g ∈ G, g.1.size ≤ maxLen) (ht : ∀ t ∈ T, t.1.size ≤ maxLen) :
    Calls Try.prog 21 #[.agg #[gv, tv]] w fun e w' => e = .returned (.bool (setB G T)) ∧ New w w' := by
  have HH := Lib.hid h
  have HG := Lib.hid hg
  have HT := Lib.hid ht
  obtain ⟨A, c, B, d, rfl, rfl⟩ := h.form
  obtain ⟨A', c', e1, hm, ha⟩ := rd_form h.glues
  obtain ⟨B', d', e2, hm', hb⟩ := rd_form h.tiles.outer
  obtain ⟨rfl, rfl⟩ : A = A' ∧ c = c' := by simpa using e1
  obtain ⟨rfl, rfl⟩ : B = B' ∧ d = d' := by simpa using e2
  have HA := Lib.hid ha
  have HC := Lib.hid hb
  have N0 : New w (w.alloc (.cells #[.slice A G.length c, .slice B T.length d] 30)) := (New.same w).box _
  have B0 : BoxV (w.alloc (.cells #[.slice A G.length c, .slice B T.length d] 30)) w.heap.size [.slice A G.length c, .slice B T.length d] := .two (by go_simp) (by go_simp) (by go_simp) (by go_simp) (by simp)
  have Z0 : w.heap.size + 1 ≤ (w.alloc (.cells #[.slice A G.length c, .slice B T.length d] 30)).heap.size := by simp
  have hmm := @run_makeMap Try.prog
  clear ha hb e1 e2 h hg ht
  by_cases l1 : 200 < G.length
  · have HS := Lib.hid (set_big (G := G) (T := T) (by simp <;> omega))
    have b1 : decide ((200 : Int) < (G.length : Int)) = true := by simp <;> omega
    go_enter Try.func21, Try.ntmps21
    go_wp2
    go_ret
    exact ⟨ret_bool HS.out.symm, N0⟩
  have b1 : decide ((200 : Int) < (G.length : Int)) = false := by simp <;> omega
  cases l2 : inB T.length 1 160
  · have HS := Lib.hid (set_big (G := G) (T := T) (by rw [l2]; simp))
    have L2 := Lib.hid l2
    clear l2
    go_enter Try.func21, Try.ntmps21
    go_wp2_with (go_at_call 43; refine (c_within _ _ _ _).mono ?_; rintro e w' ⟨rfl, rfl⟩; rw [L2.out])
    go_ret
    exact ⟨ret_bool HS.out.symm, N0⟩
  have L2 := Lib.hid l2
  have HY := Lib.hid (show (decide (G.length ≤ 200) && inB T.length 1 160) = true by rw [l2]; simp <;> omega)
  obtain ⟨l3, l4⟩ := inB_iff.1 l2
  clear l2
  have M0 : New w ((w.alloc (.cells #[.slice A G.length c, .slice B T.length d] 30)).alloc (.map #[] 0)) := N0.box _
  have B1 := B0.new ((New.same (w.alloc (.cells #[.slice A G.length c, .slice B T.length d] 30))).box (.map #[] 0))
  have S0 : Seen ((w.alloc (.cells #[.slice A G.length c, .slice B T.length d] 30)).alloc (.map #[] 0)) (w.heap.size + 1) [] := by
    have := Seen.made (w.alloc (.cells #[.slice A G.length c, .slice B T.length d] 30))
    simpa using this
  have Z1 : w.heap.size + 2 ≤ ((w.alloc (.cells #[.slice A G.length c, .slice B T.length d] 30)).alloc (.map #[] 0)).heap.size := by simp
  go_enter Try.func21, Try.ntmps21
  go_wp2_with (go_at_call 43; refine (c_within _ _ _ _).mono ?_; rintro e w' ⟨rfl, rfl⟩; rw [L2.out])
  generalize ((w.alloc (.cells #[.slice A G.length c, .slice B T.length d] 30)).alloc (.map #[] 0)) = W0 at *
  clear b1 B0 N0 Z0
  go_loopw [5, 24] (fun _ i wr => ∃ k : Nat, k ≤ G.length ∧ i = .int .i64 k ∧ Hid (∀ j, j < k → gOk G j = true) ∧ Seen wr (w.heap.size + 1) ((G.take k).map Prod.fst) ∧ BoxV wr w.heap.size [.slice A G.length c, .slice B T.length d] ∧ New w wr) (fun _ i _ => G.length - (intOf i).toNat)
  case atStart => exact ⟨0, Nat.zero_le _, rfl, Lib.hid (fun j hj => absurd hj (Nat.not_lt_zero _)), S0, B1, M0⟩
  case round =>
    obtain ⟨k, hk, rfl, HJ, hS, D0, hN⟩ := hrel
    clear S0 B1 M0
    by_cases hlt : k < G.length
    · obtain ⟨b, off, hAe⟩ := HA.out (by omega)
      subst hAe
      have p0 : (0 : Int) ≤ (k : Int) := by omega
      have p1 : (k : Int) < (G.length : Int) := by omega
      obtain ⟨⟨x0, x1⟩, bw⟩ := rd_gl HH.out.glues hN rfl hlt
      have hsz := HG.out G[k] (List.getElem_mem hlt)
      have HO := Lib.hid (gOk_at hlt)
      have HI := Lib.hid (newAt_seen G k G[k].1)
      have N1 : New wr (wr.alloc (.cells #[.string G[k].1, .int .i64 G[k].2] 46)) := (New.same wr).box _
      have D7 : BoxV (wr.alloc (.cells #[.string G[k].1, .int .i64 G[k].2] 46)) wr.heap.size [.string G[k].1, .int .i64 G[k].2] := .two (by go_simp) (by go_simp) (by go_simp) (by go_simp) (by simp)
      have D1 := D0.new N1
      have hS1 := hS.new N1
      have hN1 := hN.step N1
      have hsl := hS.lt
      go_upto_region 7 with fail
      generalize (wr.alloc (.cells #[.string G[k].1, .int .i64 G[k].2] 46)) = W7 at *
      clear x0 x1 bw D0 hS hN
      have ⟨⟨y0, y1⟩, _, yl⟩ := D7.at2
      have hlk := hS1.look hsz
      have C1 := Lib.hid (fun (w : World) => c_implIsName G[k].1 w hsz)
      have C2 := Lib.hid (fun (w : World) => c_within G[k].2 1 4 w)
      cases q1 : nameB G[k].1
      · have HS := Lib.hid (set_g (T := T) hlt (by rw [HO.out, q1]; rfl))
        have Q1 := Lib.hid q1
        clear q1
        go_wp2_with (go_at_call 44; refine (C1.out _).mono ?_; rintro e w1 ⟨rfl, rfl⟩; rw [Q1.out])
        go_ret
        exact ⟨ret_bool HS.out.symm, hN1⟩
      · have Q1 := Lib.hid q1
        cases q3 : seenB ((G.take k).map Prod.fst) G[k].1
        · cases q2 : inB G[k].2 1 4
          · have HS := Lib.hid (set_g (T := T) hlt (by rw [HO.out, q1, q2]; rfl))
            have Q2 := Lib.hid q2
            rw [q3] at hlk
            clear q1 q2 q3
            go_wp2_with (first | (go_at_call 44; refine (C1.out _).mono ?_; rintro e w1 ⟨rfl, rfl⟩; rw [Q1.out]) | (go_at_call 43; refine (C2.out _).mono ?_; rintro e w1 ⟨rfl, rfl⟩; rw [Q2.out]))
            go_ret
            exact ⟨ret_bool HS.out.symm, hN1⟩
          · have HP := Lib.hid (more_ HJ.out (by rw [HO.out, q1, q2, HI.out, q3]; rfl))
            have Q2 := Lib.hid q2
            rw [q3] at hlk
            clear q1 q2 q3
            go_wp2_with (first | (go_at_call 44; refine (C1.out _).mono ?_; rintro e w1 ⟨rfl, rfl⟩; rw [Q1.out]) | (go_at_call 43; refine (C2.out _).mono ?_; rintro e w1 ⟨rfl, rfl⟩; rw [Q2.out]) | (at_mapUpdate; refine wpList_mapUpdate_own _ rfl _ _ _ 70 rfl 9 4 keys_seen und_seen _ (w.heap.size + 1) _ _ rfl hS1 (by unfold maxLen; simp; omega) _ _ _ rfl rfl (key_seen hsz) _ [] (plainElem_bool Try.underlying4 true) ?_; intro w8 hown8 hgrow8))
            have hz7 := hS1.lt
            have hS8 := Seen.put hown8
            have NB : Below (w.heap.size + 1) W7 w8 := (Below.refl _ W7).grown hgrow8 (by omega) (fun k e => by cases e; exact Nat.le_refl _)
            have D8 := D1.below NB (Nat.lt_succ_self _)
            have hN8 : New w w8 := hN1.trans (NB.mono (by omega))
            have HS8 := Lib.hid (show Seen w8 (w.heap.size + 1) ((G.take (k + 1)).map Prod.fst) by rw [List.take_succ_eq_append_getElem hlt, List.map_append]; exact hS8)
            clear hown8 hgrow8 NB hS8 hlk hS1 D1 hN1 y0 y1 yl D7
            go_wp2
            go_roundw
            case rel => exact ⟨k + 1, by omega, by go_num, HP, HS8.out, D8, hN8⟩
            case measure => simp [intOf]; omega
        · have HS := Lib.hid (set_g (T := T) hlt (by rw [HO.out, HI.out, q3]; simp))
          rw [q3] at hlk
          clear q1 q3
          go_wp2_with (first | (go_at_call 44; refine (C1.out _).mono ?_; rintro e w1 ⟨rfl, rfl⟩; rw [Q1.out]))
          go_ret
          exact ⟨ret_bool HS.out.symm, hN1⟩
    · have hk' : k = G.length := by omega
      subst hk'
      have HX := Lib.hid HJ.out
      clear HJ
      have hsl := hS.lt
      have M0 : New w (wr.alloc (.map #[] 0)) := hN.box _
      have B1 := D0.new ((New.same wr).box (.map #[] 0))
      have S0 := Seen.made wr
      have ⟨⟨bx0, by0⟩, _, bl0⟩ := D0.at2
      go_wp2
      clear bx0 by0 bl0
      generalize (wr.alloc (.map #[] 0)) = W1 at *
      generalize hbm : wr.heap.size = bm at *
      clear hS D0 hN
      go_loopw [8, 52] (fun _ i wr => ∃ k : Nat, k ≤ T.length ∧ i = .int .i64 k ∧ Hid (∀ j, j < k → tOk G.length T j = true) ∧ Seen wr bm ((T.take k).map Prod.fst) ∧ BoxV wr w.heap.size [.slice A G.length c, .slice B T.length d] ∧ New w wr) (fun _ i _ => T.length - (intOf i).toNat)
      case atStart => exact ⟨0, Nat.zero_le _, rfl, Lib.hid (fun j hj => absurd hj (Nat.not_lt_zero _)), S0, B1, M0⟩
      case round =>
        obtain ⟨k, hk, rfl, HJ, hS, D0, hN⟩ := hrel
        clear S0 B1 M0
        by_cases hlt : k < T.length
        · obtain ⟨b, off, hAe⟩ := HC.out (by omega)
          subst hAe
          have p0 : (0 : Int) ≤ (k : Int) := by omega
          have p1 : (k : Int) < (T.length : Int) := by omega
          obtain ⟨Ax, mx, ⟨x0, x1⟩, bw, rx, ex⟩ := rd_tl HH.out.tiles hN rfl hlt
          have HR := Lib.hid (rd_tl_at HH.out.tiles hlt ex)
          clear ex
          have hsz := HT.out T[k] (List.getElem_mem hlt)
          have HO := Lib.hid (tOk_at (n := G.length) hlt)
          have HI := Lib.hid (newAt_seen T k T[k].1)
          have N1 : New wr (wr.alloc (.cells #[.string T[k].1, .slice Ax T[k].2.length mx] 48)) := (New.same wr).box _
          have D7 : BoxV (wr.alloc (.cells #[.string T[k].1, .slice Ax T[k].2.length mx] 48)) wr.heap.size [.string T[k].1, .slice Ax T[k].2.length mx] := .two (by go_simp) (by go_simp) (by go_simp) (by go_simp) (by simp)
          have D1 := D0.new N1
          have hS1 := hS.new N1
          have hN1 := hN.step N1
          have hr1 := rx.new N1
          have hsl := hS.lt
          go_upto_region 15 with fail
          generalize (wr.alloc (.cells #[.string T[k].1, .slice Ax T[k].2.length mx] 48)) = W7 at *
          generalize hbt : wr.heap.size = bt at *
          clear x0 x1 bw D0 hS hN rx
          have ⟨⟨y0, y1⟩, _, yl⟩ := D7.at2
          have hlk := hS1.look hsz
          have C1 := Lib.hid (fun (w : World) => c_implIsName T[k].1 w hsz)
          cases q1 : nameB T[k].1
          · have HS := Lib.hid (set_t hlt (by rw [HO.out, q1]; rfl))
            have Q1 := Lib.hid q1
            clear q1
            go_wp2_with (go_at_call 44; refine (C1.out _).mono ?_; rintro e w1 ⟨rfl, rfl⟩; rw [Q1.out])
            go_ret
            exact ⟨ret_bool HS.out.symm, hN1⟩
          · have Q1 := Lib.hid q1
            cases q3 : seenB ((T.take k).map Prod.fst) T[k].1
            · by_cases q2 : T[k].2.length = 4
              · have b4 : ((T[k].2.length : Int) != 4) = false := by simp <;> omega
                have HO2 := Lib.hid (show tOk G.length T k = T[k].2.all fun g => inB g 0 G.length by rw [HO.out, q1, HI.out, q3, decide_eq_true q2]; rfl)
                rw [q3] at hlk
                clear q1 q2 q3
                go_wp2_with (first | (go_at_call 44; refine (C1.out _).mono ?_; rintro e w1 ⟨rfl, rfl⟩; rw [Q1.out]) | (at_mapUpdate; refine wpList_mapUpdate_own _ rfl _ _ _ 70 rfl 9 4 keys_seen und_seen _ bm _ _ rfl hS1 (by unfold maxLen; simp; omega) _ _ _ rfl rfl (key_seen hsz) _ [] (plainElem_bool Try.underlying4 true) ?_; intro w8 hown8 hgrow8; have NB : Below bm W7 w8 := (Below.refl _ W7).grown hgrow8 (by omega) (fun k e => by cases e; exact Nat.le_refl _); have NT : Fr bm (bm + 1) W7 w8 := ⟨hgrow8.os, hgrow8.tape, hgrow8.output, hgrow8.size, fun k hk hne => hgrow8.block k hk (fun e => by cases e; omega)⟩; have D9 := D7.fr NT (.inr (by omega)); have D8 := D1.below NB (by omega); clear y0 y1 yl; have ⟨⟨y0, y1⟩, _, yl⟩ := D9.at2))
                have hS8 := Seen.put hown8
                have hN8 : New w w8 := hN1.trans (NB.mono (by omega))
                have HS8 := Lib.hid (show Seen w8 bm ((T.take (k + 1)).map Prod.fst) by rw [List.take_succ_eq_append_getElem hlt, List.map_append]; exact hS8)
                have hr8 := HR.out.new hN8
                have HC1 := Lib.hid (c_containsFunc_int64 _ _ _ enters_vs1 _ _ _ T[k].2 w8 hr8 (tests_vs1 w.heap.size A G.length c _ _ w8 D8))
                clear hown8 hgrow8 NB NT hS8 hS1 hlk hr8 hr1 D1 hN1 D7
                refine (HC1.out).mono ?_
                rintro e w9 ⟨rfl, n9⟩
                rw [any_all]
                cases q5 : T[k].2.all fun g => inB g 0 G.length
                · have HS := Lib.hid (set_t hlt (by rw [HO2.out, q5]))
                  clear q5
                  go_wp2
                  go_ret
                  exact ⟨ret_bool HS.out.symm, hN8.step n9⟩
                · have HP := Lib.hid (more_ HJ.out (by rw [HO2.out, q5]))
                  have hS9 := HS8.out.new n9
                  have D10 := D8.new n9
                  clear q5 HC1 y0 y1 yl D9
                  go_wp2
                  go_roundw
                  case rel => exact ⟨k + 1, by omega, by go_num, HP, hS9, D10, hN8.step n9⟩
                  case measure => simp [intOf]; omega
              · have HS := Lib.hid (set_t hlt (by rw [HO.out, decide_eq_false q2]; simp))
                have b4 : ((T[k].2.length : Int) != 4) = true := by simp <;> omega
                rw [q3] at hlk
                clear q1 q2 q3
                go_wp2_with (go_at_call 44; refine (C1.out _).mono ?_; rintro e w1 ⟨rfl, rfl⟩; rw [Q1.out])
                go_ret
                exact ⟨ret_bool HS.out.symm, hN1⟩
            · have HS := Lib.hid (set_t hlt (by rw [HO.out, HI.out, q3]; simp))
              rw [q3] at hlk
              clear q1 q3
              go_wp2_with (go_at_call 44; refine (C1.out _).mono ?_; rintro e w1 ⟨rfl, rfl⟩; rw [Q1.out])
              go_ret
              exact ⟨ret_bool HS.out.symm, hN1⟩
        · have hk' : k = T.length := by omega
          subst hk'
          have HS := Lib.hid (set_yes HY.out HX.out HJ.out)
          go_wp2
          go_ret
          exact ⟨ret_bool HS.out.symm, hN⟩
end Go.Proofs.Ytcbifdfcllaaaaa
