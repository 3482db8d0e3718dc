/- Contract of the program's function that writes a valid assembly. -/
import Derived.Test.YtfnihmmkbnkmnaaDoorAsmTx
namespace Go.Proofs.YtfnihmmkbnkmnaaDoor
open Go.RowKit Go.Deep
set_option linter.unusedVariables false
set_option linter.unusedSimpArgs false

set_option maxRecDepth 20000 in
set_option maxHeartbeats 8000000 in
theorem c_assemblyText (lo hi lo' hi' : Nat) (gv tv v : Value) (G : List (ByteArray × Int)) (T : List (ByteArray × List Int)) (sv : List Value) (zs : List ((Int × Int) × Int)) (w : World) (h : RdS w lo hi gv tv G T sv) (hz : Rd w lo' hi' 3 v zs.length (zs.flatMap plCells)) (hs : setB G T = true) (ha : asmOk T.length zs = true) (hb : ∀ z ∈ zs, pB z) (hTw : TabW w) :
    Calls Tryd.prog 44 #[.agg #[gv, tv], .agg #[v]] w fun e w' => e = .returned (.string ⟨(aL T zs zs.length).toArray⟩) ∧ New w w' := by
  obtain ⟨A, c, B, d0, rfl, rfl⟩ := h.form
  have HH := Lib.hid h
  have HZ := Lib.hid hz
  obtain ⟨A', c', e1, hm, hza⟩ := rd_form hz
  subst e1
  obtain ⟨B', d', e2, hm', hbb⟩ := rd_form h.tiles.outer
  obtain ⟨rfl, rfl⟩ : B = B' ∧ d0 = d' := by simpa using e2
  have ⟨i1, i2, i3, i4⟩ := set_in hs
  have ⟨z1, z2⟩ := asm_in ha
  have HZA := Lib.hid hza
  have HB := Lib.hid hbb
  have HT := Lib.hid (set_names hs).2
  have HI := Lib.hid z2
  have HPB := Lib.hid hb
  have HTW := Lib.hid hTw
  have HPS := Lib.hid (plS_all hs ha hb)
  have HAL := Lib.hid (fun n hn => aL_len (plS_all hs ha hb) n hn)
  clear e2 h hz hza hbb i4 z2 hb ha hTw
  have n0 : New w (((w.alloc (.cells #[.slice A G.length c, .slice B T.length d0] 37)).alloc (.cells #[.slice A' zs.length c'] 48)).alloc (.cells #[.pointer none, .slice none 0 0] 87)) := (((New.same w).box _).box _).box _
  have B0 : BoxV (((w.alloc (.cells #[.slice A G.length c, .slice B T.length d0] 37)).alloc (.cells #[.slice A' zs.length c'] 48)).alloc (.cells #[.pointer none, .slice none 0 0] 87)) w.heap.size [.slice A G.length c, .slice B T.length d0] := .two (by go_simp) (by go_simp) (by go_simp) (by go_simp) (by simp <;> omega)
  have B1 : BoxV (((w.alloc (.cells #[.slice A G.length c, .slice B T.length d0] 37)).alloc (.cells #[.slice A' zs.length c'] 48)).alloc (.cells #[.pointer none, .slice none 0 0] 87)) (w.heap.size + 1) [.slice A' zs.length c'] := .one (by go_simp) (by go_simp) (by simp <;> omega)
  have BL := bldK_new ((w.alloc (.cells #[.slice A G.length c, .slice B T.length d0] 37)).alloc (.cells #[.slice A' zs.length c'] 48))
  have hb1 : ((w.alloc (.cells #[.slice A G.length c, .slice B T.length d0] 37)).alloc (.cells #[.slice A' zs.length c'] 48)).heap.size = w.heap.size + 2 := by simp
  have hzz : (((w.alloc (.cells #[.slice A G.length c, .slice B T.length d0] 37)).alloc (.cells #[.slice A' zs.length c'] 48)).alloc (.cells #[.pointer none, .slice none 0 0] 87)).heap.size = w.heap.size + 3 := by simp
  rw [hb1] at BL
  go_enter Tryd.func44, Tryd.ntmps44
  go_upto_region 2 with fail
  generalize (((w.alloc (.cells #[.slice A G.length c, .slice B T.length d0] 37)).alloc (.cells #[.slice A' zs.length c'] 48)).alloc (.cells #[.pointer none, .slice none 0 0] 87)) = W at *
  clear hb1
  have ⟨bx0, _, bl0⟩ := B1.at1
  go_wp2
  clear bx0 bl0
  go_loopw [11] (fun i wr => ∃ k : Nat, k ≤ zs.length ∧ i = .int .i64 k ∧ BldK (w.heap.size + 2) (aL T zs k) wr ∧ Below (w.heap.size + 2) W wr) (fun i _ => zs.length - (intOf i).toNat)
  case atStart => exact ⟨0, Nat.zero_le _, rfl, BL, Below.refl _ _⟩
  case round =>
    clear BL
    obtain ⟨k, hk, rfl, BL, hW⟩ := hrel
    have hzr := hW.size
    have hN : New w wr := n0.trans (hW.mono (by omega))
    have hBr := B0.below hW (by omega)
    by_cases hlt : k < zs.length
    · obtain ⟨bz, oz, hAe⟩ := HZA.out (by omega)
      subst hAe
      obtain ⟨bt, ot, hBe⟩ := HB.out (by omega)
      subst hBe
      have p0 : (0 : Int) ≤ (k : Int) := by omega
      have p1 : (k : Int) < (zs.length : Int) := by omega
      obtain ⟨⟨x0, x1, x2⟩, bw⟩ := rd_pl HZ.out hN rfl hlt
      obtain ⟨t0, t1⟩ := HI.out k hlt
      obtain ⟨j, hj⟩ : ∃ j : Nat, zs[k].2 = (j : Int) := ⟨zs[k].2.toNat, by omega⟩
      have hjl : j < T.length := by omega
      have p2 : (0 : Int) ≤ (j : Int) := by omega
      have p3 : (j : Int) < (T.length : Int) := by omega
      obtain ⟨bx, by_⟩ := HPB.out zs[k] (List.getElem_mem hlt)
      have q1 := (HT.out j hjl).2
      have q4 := ptT_size zs[k].1.1 zs[k].1.2 bx by_
      obtain ⟨X, hX⟩ : ∃ X, ptT zs[k].1.1 zs[k].1.2 = X := ⟨_, rfl⟩
      rw [hX] at q4
      have a2 : (⟨#[32]⟩ : ByteArray).size = 1 := rfl
      have a3 : (⟨#[10]⟩ : ByteArray).size = 1 := rfl
      have s1 : ¬ (9223372036854775807 < T[j].1.size + (⟨#[32]⟩ : ByteArray).size) := by omega
      have s2 : ¬ (9223372036854775807 < (T[j].1 ++ ⟨#[32]⟩).size + X.size) := by rw [ByteArray.size_append]; omega
      have s3 : ¬ (9223372036854775807 < (T[j].1 ++ ⟨#[32]⟩ ++ X).size + (⟨#[10]⟩ : ByteArray).size) := by rw [ByteArray.size_append, ByteArray.size_append]; omega
      obtain ⟨Y, hY⟩ : ∃ Y, T[j].1 ++ ⟨#[32]⟩ ++ X ++ ⟨#[10]⟩ = Y := ⟨_, rfl⟩
      have hps := plS_at hjl hj
      rw [hX, hY] at hps
      have S := Lib.hid (show aL T zs (k + 1) = aL T zs k ++ bL Y by rw [aL_succ hlt, hps])
      have SZ := Lib.hid (show (aL T zs k).length + Y.size ≤ 28557 by rw [← hps]; have := HPS.out k hlt; have := HAL.out k hk; omega)
      have HXE := Lib.hid hX
      have HY := Lib.hid hY
      clear hps hX hY q4
      have HBX := Lib.hid (And.intro bx by_)
      rw [hj] at x2
      clear bx by_ t0 t1 hj
      have N1 : New wr (wr.alloc (.cells #[.int .i64 zs[k].1.1, .int .i64 zs[k].1.2, .int .i64 j] 117)) := (New.same wr).box _
      have D7 : BoxV (wr.alloc (.cells #[.int .i64 zs[k].1.1, .int .i64 zs[k].1.2, .int .i64 j] 117)) wr.heap.size [.int .i64 zs[k].1.1, .int .i64 zs[k].1.2, .int .i64 j] := .three (by go_simp) (by go_simp) (by go_simp) (by go_simp) (by go_simp) (by go_simp) (by simp)
      go_upto_region 5 with fail
      generalize (wr.alloc (.cells #[.int .i64 zs[k].1.1, .int .i64 zs[k].1.2, .int .i64 j] 117)) = W7 at *
      have ⟨⟨d1, d2, d3⟩, _, dl⟩ := D7.at3
      obtain ⟨At, mt, ⟨y0, y1⟩, yw, _, _⟩ := rd_tl HH.out.tiles (hN.step N1) rfl hjl
      have ⟨⟨bx0, by0⟩, _, bl0⟩ := (hBr.new N1).at2
      have HT7 := tab_new HTW.out (hN.step N1)
      have l1 := Later.cell by0 bl0
      have l3 := Later.cell d1 dl
      have l4 := Later.cell d2 dl
      have l5 := Later.cell d3 dl
      have l6 := Later.cell y0 yw
      have C1 : Hid (∀ t : Later W7, Calls Tryd.prog 84 #[.agg #[.int .i64 zs[k].1.1, .int .i64 zs[k].1.2]] t.w fun e w' => e = .returned (.string X) ∧ New t.w w') := Lib.hid (fun t => by rw [← HXE.out]; exact c_implPointText zs[k].1.1 zs[k].1.2 t.w HBX.out.1 HBX.out.2 (tab_new HT7 t.new))
      refine wp_region_later_tail [0, 1, 2, 3, 4, 5, 6, 7, 8, 9, 10, 11, 12] 13 [] (by kernel_rfl) (by decide +kernel) ?_
      simp only [pickO, List.getElem?_cons_zero, List.getElem?_cons_succ]
      (repeat (go_big_quiet_step (first | (go_at_call 84; with_reducible exact later_of (C1.out _)))))
      refine wpQuiet_nil ?_
      intro wq hw'
      obtain ⟨⟨wz, nq⟩, hwz⟩ := hw'
      have hwz' : wq = wz := hwz
      subst hwz'
      clear hwz l1 l3 l4 l5 l6 x0 x1 x2 bw d1 d2 d3 dl bx0 by0 bl0 y0 y1 yw s1 s2 s3
      have BL7 := Lib.hid ((BL.new N1).new nq)
      have hW7 := (hW.trans (N1.mono (by omega))).trans (nq.mono (by have := N1.size; omega))
      have hz7 := hW7.size
      clear BL
      rw [HY.out]
      go_wp2_with (go_at_call 72; refine (c_WrS (w.heap.size + 2) (aL T zs k) _ Y _ BL7.out (by have := SZ.out; omega) (by omega) S.out).mono ?_; rintro e w6 ⟨rfl, BL6, hb6, _⟩)
      go_roundw
      case rel => exact ⟨k + 1, by omega, by go_num, BL6, hW7.trans hb6⟩
      case measure => simp [intOf]; omega
    · have hk' : k = zs.length := by omega
      subst hk'
      go_wp2_with fail
      refine (c_BStrK (w.heap.size + 2) _ _ BL (by omega)).mono ?_
      rintro e w9 ⟨rfl, hb9⟩
      go_wp2
      go_ret
      exact ⟨rfl, n0.trans ((hW.trans hb9).mono (by omega))⟩
end Go.Proofs.YtfnihmmkbnkmnaaDoor
