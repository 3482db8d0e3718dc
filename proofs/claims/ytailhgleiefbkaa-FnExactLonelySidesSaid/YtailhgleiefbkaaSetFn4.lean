/- Contracts of the functions on sets: lonely sides, the program's. -/
import Derived.Test.YtailhgleiefbkaaSetFn3
namespace Go.Proofs.Ytailhgleiefbkaa
open Go.RowKit Go.Deep
set_option linter.unusedVariables false
set_option linter.unusedSimpArgs false

theorem enters_ls1 : EntersIt Try.prog 72 := enters_of Try.func72 (by kernel_rfl) rfl
set_option maxHeartbeats 2000000 in
theorem tests_ls1 (b7 b8 lo hi : Nat) (v : Value) (d : Nat) (g : Int) (T : List (ByteArray × List Int)) (sv : List Value) (w : World) (h : RdT w lo hi v T sv) (hd : d < 4) (h4 : ∀ k (hk : k < T.length), T[k].2.length = 4)
    (c7 : w.cell? ⟨b7, 0, none⟩ = some (.int .i64 d)) (c8 : w.cell? ⟨b8, 0, none⟩ = some (.int .i64 g)) (l7 : b7 < w.heap.size) (l8 : b8 < w.heap.size) :
    TestsT Try.prog 72 #[.pointer (some ⟨b7, 0, none⟩), .pointer (some ⟨b8, 0, none⟩)] (fun u => decide (u.2.getD (opN d) 0 = g)) T sv w := by
  intro k hk u W eu hN
  have rx := (rd_tl_at h hk eu).new hN
  have ho : opN d < 4 := Nat.mod_lt _ (by omega)
  have hol : opN d < T[k].2.length := by rw [h4 k hk]; exact ho
  obtain ⟨A, m, rfl, _, hA⟩ := rd_form rx
  obtain ⟨bs, os, rfl⟩ := hA (by omega)
  obtain ⟨y0, yl⟩ := rd_i rx (New.same _) rfl hol
  have E := Lib.hid (show (T[k].2.getD (opN d) 0) = T[k].2[opN d] by simp [List.getD_eq_getElem?_getD, hol])
  show Calls _ _ #[.agg #[.string T[k].1, .slice (some ⟨bs, os, none⟩) T[k].2.length m], .pointer (some ⟨b7, 0, none⟩), .pointer (some ⟨b8, 0, none⟩)] W _
  have n7 : New W (W.alloc (.cells #[.string T[k].1, .slice (some ⟨bs, os, none⟩) T[k].2.length m] 78)) := (New.same W).box _
  have D7 : BoxV (W.alloc (.cells #[.string T[k].1, .slice (some ⟨bs, os, none⟩) T[k].2.length m] 78)) W.heap.size [.string T[k].1, .slice (some ⟨bs, os, none⟩) T[k].2.length m] := .two (by go_simp) (by go_simp) (by go_simp) (by go_simp) (by simp)
  have p0 : (0 : Int) ≤ (opN d : Int) := by omega
  have p1 : (opN d : Int) < (T[k].2.length : Int) := by omega
  have hs1 := hN.size
  have hs2 := n7.size
  have k7 : (W.alloc (.cells #[.string T[k].1, .slice (some ⟨bs, os, none⟩) T[k].2.length m] 78)).cell? ⟨b7, 0, none⟩ = some (.int .i64 d) := ((hN.step n7).cell (p := ⟨b7, 0, none⟩) l7).trans c7
  have k8 : (W.alloc (.cells #[.string T[k].1, .slice (some ⟨bs, os, none⟩) T[k].2.length m] 78)).cell? ⟨b8, 0, none⟩ = some (.int .i64 g) := ((hN.step n7).cell (p := ⟨b8, 0, none⟩) l8).trans c8
  have k9 := (n7.cell (p := ⟨bs, os + opN d, none⟩) yl).trans y0
  clear h rx y0 c7 c8 h4
  go_enter Try.func72, Try.ntmps72
  go_upto_region 1 with fail
  generalize (W.alloc (.cells #[.string T[k].1, .slice (some ⟨bs, os, none⟩) T[k].2.length m] 78)) = W7 at *
  have ⟨⟨t0, t1⟩, _, tl⟩ := D7.at2
  have l1 := Later.cell t1 tl
  have l2 := Later.cell k7 (by simp; omega)
  have l3 := Later.cell k8 (by simp; omega)
  have l4 := Later.cell k9 (by simp; omega)
  have C1 := Lib.hid (fun (w : World) => c_opposite d hd w)
  (refine wp_region_later (by kernel_rfl) (by kernel_rfl) ?_; (repeat (go_big_quiet_step ((first | (go_at_call 73; exact later_same (C1.out _)))))); refine wpQuiet_nil ?_; intro wq hw'; obtain ⟨⟨wz, nq⟩, hwz⟩ := hw'; have hwz' : wq = wz := hwz; subst hwz'; clear hwz)
  go_wp2
  go_ret
  refine ⟨ret_bool ?_, n7.step nq⟩
  rw [E.out]
  rfl

set_option maxRecDepth 20000 in
set_option maxHeartbeats 8000000 in
theorem c_implLonelySides (lo hi : Nat) (gv tv : Value) (G : List (ByteArray × Int)) (T : List (ByteArray × List Int)) (sv : List Value) (w : World) (h : RdS w lo hi gv tv G T sv) (hg : ∀ g ∈ G, g.1.size ≤ maxLen) (ht : ∀ t ∈ T, t.1.size ≤ maxLen) :
    Calls Try.prog 27 #[.agg #[gv, tv]] w fun e w' => e = .returned (ncV (loV G T)) ∧ New w w' := by
  obtain ⟨A, c, B, d0, rfl, rfl⟩ := h.form
  have HH := Lib.hid h
  obtain ⟨A', c', e1, hm, ha⟩ := rd_form h.glues
  obtain ⟨B', d', e2, hm', hb⟩ := rd_form h.tiles.outer
  obtain ⟨rfl, rfl⟩ : A = A' ∧ c = c' := by simpa using e1
  obtain ⟨rfl, rfl⟩ : B = B' ∧ d0 = d' := by simpa using e2
  have HB := Lib.hid hb
  clear e1 e2 h ha hb
  have n0 : New w (w.alloc (.cells #[.slice A G.length c, .slice B T.length d0] 31)) := (New.same w).box _
  have B0 : BoxV (w.alloc (.cells #[.slice A G.length c, .slice B T.length d0] 31)) w.heap.size [.slice A G.length c, .slice B T.length d0] := .two (by go_simp) (by go_simp) (by go_simp) (by go_simp) (by simp)
  have hz : w.heap.size + 1 ≤ (w.alloc (.cells #[.slice A G.length c, .slice B T.length d0] 31)).heap.size := by simp
  cases hs : setB G T
  · have E := Lib.hid (show loV G T = (0, 1) by simp [loV, hs])
    have HS := Lib.hid hs
    clear hs
    go_enter Try.func27, Try.ntmps27
    go_wp2_with fail
    generalize (w.alloc (.cells #[.slice A G.length c, .slice B T.length d0] 31)) = W0 at *
    refine (c_implValidSet _ _ _ _ G T sv _ (HH.out.new n0) hg ht).mono ?_
    rintro e w1 ⟨rfl, n1⟩
    rw [HS.out]
    go_wp2
    go_ret2
    exact ⟨by rw [E.out]; rfl, n0.step n1⟩
  have E := Lib.hid (show loV G T = ((lonN T (4 * T.length) : Int), 0) by simp [loV, hs])
  have HS := Lib.hid hs
  have ⟨i1, i2, i3, i4⟩ := set_in hs
  have HI := Lib.hid i4
  have H4 := Lib.hid (fun k (hk : k < T.length) => (i4 k hk).1)
  clear hs i4
  go_enter Try.func27, Try.ntmps27
  go_wp2_with fail
  generalize (w.alloc (.cells #[.slice A G.length c, .slice B T.length d0] 31)) = W0 at *
  refine (c_implValidSet _ _ _ _ G T sv _ (HH.out.new n0) hg ht).mono ?_
  rintro e w1 ⟨rfl, n1⟩
  rw [HS.out]
  have N1 := n0.step n1
  have B1 := B0.new n1
  have ⟨⟨bx0, by0⟩, _, bl0⟩ := B1.at2
  clear B0 n0 n1
  go_wp2
  clear bx0 by0 bl0
  go_loopw [4, 16] (fun c i wr => ∃ k : Nat, k ≤ T.length ∧ i = .int .i64 k ∧ c = .int .i64 (lonN T (4 * k) : Nat) ∧ New w1 wr) (fun _ i _ => T.length - (intOf i).toNat)
  case atStart => exact ⟨0, Nat.zero_le _, rfl, rfl, New.same _⟩
  case round =>
    obtain ⟨k, hk, rfl, rfl, hN⟩ := hrel
    have ⟨⟨bx0, by0⟩, _, bl0⟩ := (B1.new hN).at2
    by_cases hlt : k < T.length
    · have p0 : (0 : Int) ≤ (k : Int) := by omega
      have p1 : (k : Int) < (T.length : Int) := by omega
      obtain ⟨b, off, hAe⟩ := HB.out (by omega)
      subst hAe
      obtain ⟨At, mt, ⟨z0, z1⟩, bw, rx, ex⟩ := rd_tl HH.out.tiles (N1.step hN) rfl hlt
      have H4k := Lib.hid (HI.out k hlt).1
      obtain ⟨bs, os, hAt⟩ : ∃ b off, At = some ⟨b, off, none⟩ := by
        obtain ⟨_, _, e, _, hs⟩ := rd_form rx
        obtain ⟨b, off, hb⟩ := hs (by have := H4k.out; omega)
        exact ⟨b, off, by cases e; exact hb⟩
      subst hAt
      have n7 : New wr (wr.alloc (.cells #[.string T[k].1, .slice (some ⟨bs, os, none⟩) T[k].2.length mt] 78)) := (New.same wr).box _
      have D7 : BoxV (wr.alloc (.cells #[.string T[k].1, .slice (some ⟨bs, os, none⟩) T[k].2.length mt] 78)) wr.heap.size [.string T[k].1, .slice (some ⟨bs, os, none⟩) T[k].2.length mt] := .two (by go_simp) (by go_simp) (by go_simp) (by go_simp) (by simp)
      have rx7 := rx.new n7
      have hN7 := hN.step n7
      have HR := Lib.hid rx7
      go_wp2
      clear bx0 by0 bl0 z0 z1 bw rx ex D7 rx7
      generalize hW7 : (wr.alloc (.cells #[.string T[k].1, .slice (some ⟨bs, os, none⟩) T[k].2.length mt] 78)) = W7 at *
      clear hW7
      go_loopw [4, 23] (fun c i wr => ∃ d : Nat, d ≤ T[k].2.length ∧ i = .int .i64 d ∧ c = .int .i64 (lonN T (4 * k + d) : Nat) ∧ New W7 wr) (fun _ i _ => T[k].2.length - (intOf i).toNat)
      case atStart => exact ⟨0, by omega, rfl, rfl, New.same _⟩
      case round =>
        obtain ⟨d, hd, rfl, rfl, hM⟩ := hrel
        have ⟨⟨bx0, by0⟩, _, bl0⟩ := (B1.new (hN7.step hM)).at2
        by_cases hd4 : d < T[k].2.length
        · have hdl : d < 4 := by have := H4k.out; omega
          have r2 : (0 : Int) ≤ (d : Int) := by omega
          have r4 : (d : Int) < (T[k].2.length : Int) := by omega
          have HL := Lib.hid (lonB_at hdl hlt hd4)
          obtain ⟨u0, ul⟩ := rd_i HR.out hM rfl hd4
          have n8 : New wr ((wr.alloc (.cells #[.int .i64 d] 3)).alloc (.cells #[.int .i64 T[k].2[d]] 2)) := ((New.same wr).box _).box _
          have c7 : ((wr.alloc (.cells #[.int .i64 d] 3)).alloc (.cells #[.int .i64 T[k].2[d]] 2)).cell? ⟨wr.heap.size, 0, none⟩ = some (.int .i64 d) := by go_simp
          have c8 : ((wr.alloc (.cells #[.int .i64 d] 3)).alloc (.cells #[.int .i64 T[k].2[d]] 2)).cell? ⟨wr.heap.size + 1, 0, none⟩ = some (.int .i64 T[k].2[d]) := by go_simp
          have l8 : wr.heap.size + 1 < ((wr.alloc (.cells #[.int .i64 d] 3)).alloc (.cells #[.int .i64 T[k].2[d]] 2)).heap.size := by simp
          have NX := ((N1.step hN7).step hM).step n8
          have HT := Lib.hid (tests_ls1 wr.heap.size (wr.heap.size + 1) lo hi _ d T[k].2[d] T sv _ (HH.out.tiles.new NX) hdl H4.out c7 c8 (by omega) l8)
          have HC := Lib.hid (c_containsFunc_Tile _ _ _ enters_ls1 _ _ _ T sv _ (HH.out.tiles.new NX) HT.out)
          have k8 := c8
          have k9 : wr.heap.size + 1 < ((wr.alloc (.cells #[.int .i64 d] 3)).alloc (.cells #[.int .i64 T[k].2[d]] 2)).heap.size := l8
          clear HT c7
          have hmet : (T.any fun u => decide (u.2.getD (opN d) 0 = T[k].2[d])) = metB T d T[k].2[d] := rfl
          have hsg := (HI.out k hlt).2 d hd4
          have hc := lonN_le T (4 * k + d)
          go_upto_region 10 with fail
          generalize ((wr.alloc (.cells #[.int .i64 d] 3)).alloc (.cells #[.int .i64 T[k].2[d]] 2)) = W8 at *
          have ⟨⟨gx0, gy0⟩, _, gl0⟩ := (B1.new ((hN7.step hM).step n8)).at2
          clear bx0 by0 bl0 u0
          go_wp2_with fail
          refine (HC.out).mono ?_
          rintro e w9 ⟨rfl, n9⟩
          rw [hmet]
          have c9 := (n9.cell (p := ⟨wr.heap.size + 1, 0, none⟩) k9).trans k8
          have l9 := Nat.lt_of_lt_of_le k9 n9.size
          have hM9 := (hM.step n8).step n9
          clear gx0 gy0 gl0 c8 k8 HC n8 n9 NX
          by_cases hz0 : T[k].2[d] = 0
          · have g2 : decide (0 < T[k].2[d]) = false := by simp [hz0]
            have HP := Lib.hid (lonN_no (T := T) (m := 4 * k + d) (by rw [HL.out]; simp [hz0]))
            clear hz0
            go_wp2
            go_roundw
            case rel => exact ⟨d + 1, by omega, by go_num, by rw [show 4 * k + (d + 1) = 4 * k + d + 1 by omega, HP.out], hM9⟩
            case measure => simp [intOf]; omega
          · have g2 : decide (0 < T[k].2[d]) = true := by simp; omega
            cases hq : metB T d T[k].2[d]
            · have HP := Lib.hid (lonN_yes (T := T) (m := 4 * k + d) (by rw [HL.out, hq]; simp [hz0]))
              clear hz0 hq
              go_wp2
              go_roundw
              case rel => exact ⟨d + 1, by omega, by go_num, by rw [show 4 * k + (d + 1) = 4 * k + d + 1 by omega, HP.out]; go_num, hM9⟩
              case measure => simp [intOf]; omega
            · have HP := Lib.hid (lonN_no (T := T) (m := 4 * k + d) (by rw [HL.out, hq]; simp))
              clear hz0 hq
              go_wp2
              go_roundw
              case rel => exact ⟨d + 1, by omega, by go_num, by rw [show 4 * k + (d + 1) = 4 * k + d + 1 by omega, HP.out], hM9⟩
              case measure => simp [intOf]; omega
        · have hd' : d = 4 := by have := H4k.out; omega
          subst hd'
          go_wp2
          go_roundw
          case rel => exact ⟨k + 1, by omega, by go_num, by rw [show 4 * (k + 1) = 4 * k + 4 by omega], hN7.step hM⟩
          case measure => simp [intOf]; omega
    · have hk' : k = T.length := by omega
      subst hk'
      go_wp2
      go_ret2
      exact ⟨by rw [E.out]; rfl, N1.step hN⟩
end Go.Proofs.Ytailhgleiefbkaa
