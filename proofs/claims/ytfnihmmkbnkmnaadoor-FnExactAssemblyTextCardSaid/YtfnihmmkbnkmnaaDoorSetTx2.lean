/- Contracts of the functions that write a set: the program's, and the two that ask whether the set is valid. -/
import Derived.Test.YtfnihmmkbnkmnaaDoorSetTx
import Derived.Shelf.Strings.BuilderK
namespace Go.Proofs.YtfnihmmkbnkmnaaDoor
open Go.RowKit Go.Deep
set_option linter.unusedVariables false
set_option linter.unusedSimpArgs false

/-- a builder in block b that holds the bytes l, read or not -/
def BldK (b : Nat) (l : List UInt8) (w : World) : Prop := Lib.IsBuilderF 87 5 b b (Lib.byteCells l) w
theorem bldK_new (w : World) : BldK w.heap.size [] (w.alloc (.cells #[.pointer none, .slice none 0 0] 87)) := Lib.IsBuilderF.of (bld_new w)
theorem BldK.new {b : Nat} {l : List UInt8} {w w' : World} (h : BldK b l w) (n : New w w') : BldK b l w' := by
  have key : ∀ p, Lib.BuilderAtF 87 5 b b p (Lib.byteCells l) w → Lib.BuilderAtF 87 5 b b p (Lib.byteCells l) w' := by
    intro p h
    have hlt := h.lt
    obtain ⟨hB, v, hv, hown, hne⟩ := h
    exact ⟨hB, v, (n.block b hlt).trans hv, hown.kept (row := none) ⟨n.os, n.tape, n.output, n.size, fun k hk _ => n.block k hk⟩ (Classical.em _), hne⟩
  exact h.elim (fun x => .inl (key _ x)) (fun x => .inr (key _ x))
/-- blocks of other things than bytes stand as they stood -/
def Oth (b : Nat) (w w' : World) : Prop := Lib.OthersKept 5 (some b) w w'
theorem Oth.box {b k : Nat} {w w' : World} {cs : Array Value} {t : TypeId} (h : Oth b w w') (hk : w.heap[k]? = some (.cells cs t (0, 0))) (ht : t ≠ 5) (hb : k ≠ b) : w'.heap[k]? = some (.cells cs t (0, 0)) :=
  h k _ hk (fun e => hb (by cases e; rfl)) (fun c fz e => by cases e; exact ht rfl)
theorem box_two {w : World} {k : Nat} {x y : Value} {t : TypeId} (hk : w.heap[k]? = some (.cells #[x, y] t (0, 0))) : BoxV w k [x, y] := by
  have hl : k < w.heap.size := (Array.getElem?_eq_some_iff.1 hk).1
  exact .two (by simp [World.cell?, hk]) (by simp [World.cell?, hk]) (by simp [World.frozen?, hk]) (by simp [World.frozen?, hk]) hl
theorem c_WrS (b : Nat) (l l' : List UInt8) (s : ByteArray) (w : World) (h : BldK b l w) (hl : l.length + s.size ≤ 140737488355328) (hb : b ≤ w.heap.size) (e' : l' = l ++ bL s) :
    Calls Tryd.prog 72 #[.pointer (some ⟨b, 0, none⟩), .string s] w fun e w' => e = .returned (.tuple #[.int .i64 s.size, .nilIface]) ∧ BldK b l' w' ∧ Below b w w' ∧ Oth b w w' := by
  subst e'
  refine Calls.mono (P := Tryd.prog) (f := 72) (Any.Builder_WriteString_k Tryd.lays166 bx166 b b (Lib.byteCells l) s w h (by rw [Lib.byteCells_length]; exact hl) hb) ?_
  rintro e w' ⟨rfl, h1, h2, h3⟩
  refine ⟨rfl, .inr ?_, h2, h3⟩
  rw [bL_cells]
  exact h1
theorem c_BStrK (b : Nat) (l : List UInt8) (w : World) (h : BldK b l w) (hb : b ≤ w.heap.size) :
    Calls Tryd.prog 57 #[.pointer (some ⟨b, 0, none⟩)] w fun e w' => e = .returned (.string ⟨l.toArray⟩) ∧ Below b w w' :=
  Calls.mono (P := Tryd.prog) (f := 57) (Any.Builder_String_any_k Tryd.lays169 bx169 b b l w h hb) (fun _ _ h => ⟨h.1, h.2.2.1⟩)
set_option maxRecDepth 20000 in
set_option maxHeartbeats 8000000 in
theorem c_setText (lo hi : Nat) (gv tv : Value) (G : List (ByteArray × Int)) (T : List (ByteArray × List Int)) (sv : List Value) (w : World) (h : RdS w lo hi gv tv G T sv) (hs : setB G T = true) (hT : TabW w) :
    Calls Tryd.prog 36 #[.agg #[gv, tv]] w fun e w' => e = .returned (.string ⟨(xL G T T.length).toArray⟩) ∧ New w w' := by
  obtain ⟨A, c, B, d0, rfl, rfl⟩ := h.form
  have HH := Lib.hid h
  obtain ⟨A', c', e1, hm, ha⟩ := rd_form h.glues
  obtain ⟨B', d', e2, hm', hb⟩ := rd_form h.tiles.outer
  obtain ⟨rfl, rfl⟩ : A = A' ∧ c = c' := by simpa using e1
  obtain ⟨rfl, rfl⟩ : B = B' ∧ d0 = d' := by simpa using e2
  have ⟨i1, i2, i3, i4⟩ := set_in hs
  have hnm := set_names hs
  have HA := Lib.hid ha
  have HB := Lib.hid hb
  have HG := Lib.hid hnm.1
  have HT := Lib.hid hnm.2
  have HI := Lib.hid i4
  have HTW := Lib.hid hT
  have HGL := Lib.hid (fun n hn => gLx_len hnm.1 (G := G) n hn)
  have HXL := Lib.hid (fun n hn => xL_len hs n hn)
  clear e1 e2 h ha hb hnm i4 hT
  have n0 : New w ((w.alloc (.cells #[.slice A G.length c, .slice B T.length d0] 37)).alloc (.cells #[.pointer none, .slice none 0 0] 87)) := ((New.same w).box _).box _
  have B0 : BoxV ((w.alloc (.cells #[.slice A G.length c, .slice B T.length d0] 37)).alloc (.cells #[.pointer none, .slice none 0 0] 87)) w.heap.size [.slice A G.length c, .slice B T.length d0] := .two (by go_simp) (by go_simp) (by go_simp) (by go_simp) (by simp; omega)
  have BL := bldK_new (w.alloc (.cells #[.slice A G.length c, .slice B T.length d0] 37))
  have hb1 : (w.alloc (.cells #[.slice A G.length c, .slice B T.length d0] 37)).heap.size = w.heap.size + 1 := by simp
  have hzz : ((w.alloc (.cells #[.slice A G.length c, .slice B T.length d0] 37)).alloc (.cells #[.pointer none, .slice none 0 0] 87)).heap.size = w.heap.size + 2 := by simp
  rw [hb1] at BL
  go_enter Tryd.func36, Tryd.ntmps36
  go_upto_region 2 with fail
  generalize ((w.alloc (.cells #[.slice A G.length c, .slice B T.length d0] 37)).alloc (.cells #[.pointer none, .slice none 0 0] 87)) = W at *
  clear hb1
  have ⟨⟨bx0, by0⟩, _, bl0⟩ := B0.at2
  go_wp2
  clear bx0 by0 bl0
  go_loopw [13] (fun i wr => ∃ k : Nat, k ≤ G.length ∧ i = .int .i64 k ∧ BldK (w.heap.size + 1) (gLx G k) wr ∧ Below (w.heap.size + 1) W wr) (fun i _ => G.length - (intOf i).toNat)
  case atStart => exact ⟨0, Nat.zero_le _, rfl, BL, Below.refl _ _⟩
  case round =>
    clear BL
    obtain ⟨k, hk, rfl, BL, hW⟩ := hrel
    have hzr := hW.size
    have hN : New w wr := n0.trans (hW.mono (Nat.le_succ _))
    have hBr := B0.below hW (Nat.lt_succ_self _)
    by_cases hlt : k < G.length
    · obtain ⟨b, off, hAe⟩ := HA.out (by omega)
      subst hAe
      have p0 : (0 : Int) ≤ (k : Int) := by omega
      have p1 : (k : Int) < (G.length : Int) := by omega
      obtain ⟨⟨x0, x1⟩, bw⟩ := rd_gl HH.out.glues hN rfl hlt
      obtain ⟨⟨q0, q1⟩, q2, q3⟩ := HG.out k hlt
      have q4 := decT_size G[k].2 (by omega) (by omega)
      have a1 : (⟨#[103, 108, 117, 101, 32]⟩ : ByteArray).size = 5 := rfl
      have a2 : (⟨#[32]⟩ : ByteArray).size = 1 := rfl
      have a3 : (⟨#[10]⟩ : ByteArray).size = 1 := rfl
      have s1 : ¬ (9223372036854775807 < (⟨#[103, 108, 117, 101, 32]⟩ : ByteArray).size + G[k].1.size) := by omega
      have s2 : ¬ (9223372036854775807 < ((⟨#[103, 108, 117, 101, 32]⟩ : ByteArray) ++ G[k].1).size + (⟨#[32]⟩ : ByteArray).size) := by rw [ByteArray.size_append]; omega
      have s3 : ¬ (9223372036854775807 < ((⟨#[103, 108, 117, 101, 32]⟩ : ByteArray) ++ G[k].1 ++ ⟨#[32]⟩).size + (decT G[k].2).size) := by rw [ByteArray.size_append, ByteArray.size_append]; omega
      have s4 : ¬ (9223372036854775807 < ((⟨#[103, 108, 117, 101, 32]⟩ : ByteArray) ++ G[k].1 ++ ⟨#[32]⟩ ++ decT G[k].2).size + (⟨#[10]⟩ : ByteArray).size) := by rw [ByteArray.size_append, ByteArray.size_append, ByteArray.size_append]; omega
      have S := Lib.hid (gLx_succ hlt)
      have hgz := glS_size q1 q2 q3
      have hgl := HGL.out k hk
      have SZ := Lib.hid (show (gLx G k).length + (glS G[k]).size ≤ 8040 by omega)
      have N1 : New wr (wr.alloc (.cells #[.string G[k].1, .int .i64 G[k].2] 100)) := (New.same wr).box _
      have D7 : BoxV (wr.alloc (.cells #[.string G[k].1, .int .i64 G[k].2] 100)) wr.heap.size [.string G[k].1, .int .i64 G[k].2] := .two (by go_simp) (by go_simp) (by go_simp) (by go_simp) (by simp)
      clear hgz hgl
      go_upto_region 5 with fail
      generalize (wr.alloc (.cells #[.string G[k].1, .int .i64 G[k].2] 100)) = W7 at *
      have ⟨⟨y0, y1⟩, _, yl⟩ := D7.at2
      have HT7 := tab_new HTW.out (hN.step N1)
      have l2 := Later.cell y0 yl
      have l3 := Later.cell y1 yl
      have C1 := Lib.hid (fun (t : Later W7) => c_implDecimal G[k].2 t.w (by omega) (by omega) (tab_new HT7 t.new))
      refine wp_region_later_tail [0, 1, 2, 3, 4, 5, 6, 7, 8] 9 [] (by kernel_rfl) (by decide +kernel) ?_
      simp only [pickO, List.getElem?_cons_zero, List.getElem?_cons_succ]
      (repeat (go_big_quiet_step (first | (go_at_call 73; with_reducible exact later_of (C1.out _)))))
      refine wpQuiet_nil ?_
      intro wq hw'
      obtain ⟨⟨wz, nq⟩, hwz⟩ := hw'
      have hwz' : wq = wz := hwz
      subst hwz'
      clear hwz l2 l3 x0 x1 bw y0 y1 yl s1 s2 s3 s4
      have BL7 := Lib.hid ((BL.new N1).new nq)
      have hW7 := (hW.trans (N1.mono (by omega))).trans (nq.mono (by have := N1.size; omega))
      have hz7 := hW7.size
      clear BL
      go_wp2_with (go_at_call 72; refine (c_WrS (w.heap.size + 1) (gLx G k) _ (glS G[k]) _ BL7.out (by have := SZ.out; omega) (by omega) S.out).mono ?_; rintro e w6 ⟨rfl, BL6, hb6, _⟩)
      go_roundw
      case rel => exact ⟨k + 1, by omega, by go_num, BL6, hW7.trans hb6⟩
      case measure => simp [intOf]; omega
    · have hk' : k = G.length := by omega
      subst hk'
      have X0 := xL_zero G T
      rw [← X0] at BL
      clear X0
      obtain ⟨w0, hw0⟩ : ∃ w0, w0 = wr := ⟨wr, rfl⟩
      subst hw0
      have ⟨⟨bx0, by0⟩, _, bl0⟩ := hBr.at2
      go_wp2
      clear bx0 by0 bl0
      go_loopw [31] (fun i wr => ∃ k : Nat, k ≤ T.length ∧ i = .int .i64 k ∧ BldK (w.heap.size + 1) (xL G T k) wr ∧ Below (w.heap.size + 1) W wr) (fun i _ => T.length - (intOf i).toNat)
      case atStart => exact ⟨0, Nat.zero_le _, rfl, BL, hW⟩
      case round =>
        clear BL hN hW hBr hzr
        obtain ⟨k, hk, rfl, BL, hW⟩ := hrel
        have hzr := hW.size
        have hN : New w wr := n0.trans (hW.mono (Nat.le_succ _))
        by_cases hlt : k < T.length
        · obtain ⟨b, off, hAe⟩ := HB.out (by omega)
          subst hAe
          have p0 : (0 : Int) ≤ (k : Int) := by omega
          have p1 : (k : Int) < (T.length : Int) := by omega
          obtain ⟨At, mt, ⟨x0, x1⟩, bw, rx, ex⟩ := rd_tl HH.out.tiles hN rfl hlt
          obtain ⟨q1, q2⟩ := HT.out k hlt
          obtain ⟨h4, hsd⟩ := HI.out k hlt
          obtain ⟨bs, os, hAt⟩ : ∃ b off, At = some ⟨b, off, none⟩ := by
            obtain ⟨_, _, e, _, hs⟩ := rd_form rx
            obtain ⟨b, off, hb⟩ := hs (by omega)
            exact ⟨b, off, by cases e; exact hb⟩
          subst hAt
          have HR := Lib.hid (rd_tl_at HH.out.tiles hlt ex)
          have HSD := Lib.hid hsd
          have H4 := Lib.hid h4
          have a1 : (⟨#[116, 105, 108, 101, 32]⟩ : ByteArray).size = 5 := rfl
          have s1 : ¬ (9223372036854775807 < (⟨#[116, 105, 108, 101, 32]⟩ : ByteArray).size + T[k].1.size) := by omega
          have S := Lib.hid (show xL G T k ++ tiL G T[k] 0 = xL G T k ++ bL (tlS T[k]) by rw [tiL_zero])
          have SZ := Lib.hid (show (xL G T k).length + (tlS T[k]).size ≤ 19217 by have := HXL.out k hk; have := tlS_size q2; omega)
          have SI := Lib.hid (fun d hd => tiL_len HG.out q2 hsd d hd)
          have SX := Lib.hid (show (xL G T k).length ≤ 19200 by have := HXL.out k hk; omega)
          have SE := Lib.hid (xL_succ (G := G) hlt)
          have N1 : New wr (wr.alloc (.cells #[.string T[k].1, .slice (some ⟨bs, os, none⟩) T[k].2.length mt] 102)) := (New.same wr).box _
          have D7 : (wr.alloc (.cells #[.string T[k].1, .slice (some ⟨bs, os, none⟩) T[k].2.length mt] 102)).heap[wr.heap.size]? = some (.cells #[.string T[k].1, .slice (some ⟨bs, os, none⟩) T[k].2.length mt] 102 (0, 0)) := heap_alloc_new wr _
          have BL7 := BL.new N1
          have hW7 := hW.trans (N1.mono (by omega))
          have hz7 := hW7.size
          obtain ⟨wo, hwo⟩ : ∃ wo, wo = wr := ⟨wr, rfl⟩
          subst hwo
          clear hsd ex BL h4
          go_upto_region 10 with fail
          generalize hWd : (wo.alloc (.cells #[.string T[k].1, .slice (some ⟨bs, os, none⟩) T[k].2.length mt] 102)) = W7 at *
          clear hWd
          have ⟨⟨y0, y1⟩, _, yl⟩ := (box_two D7).at2
          go_wp2_with fail
          refine (c_WrS (w.heap.size + 1) (xL G T k) _ (tlS T[k]) _ BL7 (by have := SZ.out; omega) (by omega) S.out).mono ?_
          rintro e w8 ⟨rfl, BL8, hb8, ho8⟩
          have D8 := ho8.box D7 (by decide) (by omega)
          have hW8 := hW7.trans hb8
          clear y0 y1 yl x0 x1 bw rx D7 BL7
          have ⟨⟨y0, y1⟩, _, yl⟩ := (box_two D8).at2
          have hq8 := hW8.size
          go_wp2
          clear y0 y1 yl
          go_loopw [42] (fun i wq => ∃ d : Nat, d ≤ T[k].2.length ∧ i = .int .i64 d ∧ BldK (w.heap.size + 1) (xL G T k ++ tiL G T[k] d) wq ∧ Below (w.heap.size + 1) W wq) (fun i _ => T[k].2.length - (intOf i).toNat)
          case atStart => exact ⟨0, Nat.zero_le _, rfl, BL8, hW8⟩
          case round =>
            clear BL8 hW8 hb8 ho8 D8 hq8 hz7 hW7 N1 hN hW
            obtain ⟨d, hd, rfl, BL, hW⟩ := hrel
            have hzr := hW.size
            have hN := n0.trans (hW.mono (Nat.le_succ _))
            by_cases hd4 : d < T[k].2.length
            · have r2 : (0 : Int) ≤ (d : Int) := by omega
              have r4 : (d : Int) < (T[k].2.length : Int) := by omega
              obtain ⟨u0, ul⟩ := rd_i HR.out hN rfl hd4
              have hdb : d < 4 := by have := H4.out; omega
              obtain ⟨g0, g1⟩ := HSD.out d hd4
              have s5 := sdS_size HG.out g0 g1
              have s6 := SI.out d hd
              have s7 := SX.out
              have SZ2 := Lib.hid (show (xL G T k ++ tiL G T[k] d).length + (sdS G T[k].2[d]).size ≤ 19300 by rw [List.length_append]; have := H4.out; omega)
              have S2 := Lib.hid (show xL G T k ++ tiL G T[k] (d + 1) = (xL G T k ++ tiL G T[k] d) ++ bL (sdS G T[k].2[d]) by rw [tiL_succ G hd4, List.append_assoc])
              clear s5 s6 s7
              by_cases hz : T[k].2[d] = 0
              · have E := sdS_zero G hz
                rw [E] at S2 SZ2
                have g2 : (T[k].2[d] == 0) = true := by simp [hz]
                clear E hz
                go_wp2_with (go_at_call 72; refine (c_WrS (w.heap.size + 1) _ _ ⟨#[32, 45]⟩ _ BL (by have := SZ2.out; omega) (by omega) S2.out).mono ?_; rintro e w9 ⟨rfl, BL9, hb9, _⟩)
                go_roundw
                case rel => exact ⟨d + 1, by omega, by go_num, BL9, hW.trans hb9⟩
                case measure => simp [intOf]; omega
              · obtain ⟨j, hj⟩ : ∃ j : Nat, T[k].2[d] - 1 = (j : Int) := ⟨(T[k].2[d] - 1).toNat, by omega⟩
                have hjl : j < G.length := by omega
                have E := sdS_pos G hz hjl hj
                rw [E] at S2 SZ2
                have g2 : (T[k].2[d] == 0) = false := by simpa using hz
                have g3 : IntKind.i64.wrap (T[k].2[d] - 1) = (j : Int) := by rw [IntWalk.i64_in _ (by omega)]; omega
                obtain ⟨bg, og, hAe⟩ := HA.out (by omega)
                subst hAe
                have p2 : (0 : Int) ≤ (j : Int) := by omega
                have p3 : (j : Int) < (G.length : Int) := by omega
                obtain ⟨⟨v0, _⟩, vl⟩ := rd_gl HH.out.glues hN rfl hjl
                have ⟨⟨bx0, by0⟩, _, bl0⟩ := (B0.below hW (Nat.lt_succ_self _)).at2
                have q5 := (HG.out j hjl).1.2
                have a2 : (⟨#[32]⟩ : ByteArray).size = 1 := rfl
                have s2 : ¬ (9223372036854775807 < (⟨#[32]⟩ : ByteArray).size + G[j].1.size) := by omega
                clear E hz hj g0 g1
                go_wp2_with (go_at_call 72; refine (c_WrS (w.heap.size + 1) _ _ ((⟨#[32]⟩ : ByteArray) ++ G[j].1) _ BL (by have := SZ2.out; omega) (by omega) S2.out).mono ?_; rintro e w9 ⟨rfl, BL9, hb9, _⟩)
                go_roundw
                case rel => exact ⟨d + 1, by omega, by go_num, BL9, hW.trans hb9⟩
                case measure => simp [intOf]; omega
            · have ed : d = T[k].2.length := by omega
              subst ed
              have SL := Lib.hid (show (xL G T k ++ tiL G T[k] T[k].2.length).length ≤ 19300 by rw [List.length_append]; have := SI.out T[k].2.length (Nat.le_refl _); have := SX.out; have := H4.out; omega)
              have S2 := Lib.hid (show xL G T (k + 1) = (xL G T k ++ tiL G T[k] T[k].2.length) ++ bL ⟨#[10]⟩ from SE.out)
              have a3 : (⟨#[10]⟩ : ByteArray).size = 1 := rfl
              go_wp2_with (go_at_call 72; refine (c_WrS (w.heap.size + 1) _ _ ⟨#[10]⟩ _ BL (by have := SL.out; omega) (by omega) S2.out).mono ?_; rintro e w9 ⟨rfl, BL9, hb9, _⟩)
              go_roundw
              case rel => exact ⟨k + 1, by omega, by go_num, BL9, hW.trans hb9⟩
              case measure => simp [intOf]; omega
        · have hk' : k = T.length := by omega
          subst hk'
          go_wp2_with fail
          refine (c_BStrK (w.heap.size + 1) _ _ BL (by omega)).mono ?_
          rintro e w9 ⟨rfl, hb9⟩
          go_wp2
          go_ret
          exact ⟨rfl, n0.trans ((hW.trans hb9).mono (Nat.le_succ _))⟩
set_option maxHeartbeats 1000000 in
theorem c_specSetText (lo hi : Nat) (gv tv : Value) (G : List (ByteArray × Int)) (T : List (ByteArray × List Int)) (sv : List Value) (w : World) (h : RdS w lo hi gv tv G T sv) (hg : ∀ g ∈ G, g.1.size ≤ maxLen) (ht : ∀ t ∈ T, t.1.size ≤ maxLen) :
    Calls Tryd.prog 12 #[.agg #[gv, tv]] w fun e w' => e = .returned (.string (setT G T)) ∧ New w w' := by
  obtain ⟨A, c, B, d, rfl, rfl⟩ := h.form
  have HH := Lib.hid h
  clear h
  have n0 : New w (w.alloc (.cells #[.slice A G.length c, .slice B T.length d] 37)) := (New.same w).box _
  have B0 : BoxV (w.alloc (.cells #[.slice A G.length c, .slice B T.length d] 37)) w.heap.size [.slice A G.length c, .slice B T.length d] := .two (by go_simp) (by go_simp) (by go_simp) (by go_simp) (by simp)
  cases hs : setB G T
  · have E := Lib.hid (show setT G T = ⟨#[]⟩ by simp [setT, hs])
    rw [E.out]
    have HS := Lib.hid hs
    clear hs
    go_enter Tryd.func12, Tryd.ntmps12
    go_wp2_with fail
    generalize (w.alloc (.cells #[.slice A G.length c, .slice B T.length d] 37)) = W0 at *
    refine (c_l02Ok _ _ _ _ _ G T sv _ B0 (HH.out.new n0) hg ht).mono ?_
    rintro e w1 ⟨rfl, n1⟩
    rw [HS.out]
    go_wp2
    go_ret
    exact ⟨rfl, n0.step n1⟩
  · have E := Lib.hid (show setT G T = ⟨(xL G T T.length).toArray⟩ by simp [setT, hs])
    rw [E.out]
    have HS := Lib.hid hs
    clear hs
    go_enter Tryd.func12, Tryd.ntmps12
    go_wp2_with fail
    generalize (w.alloc (.cells #[.slice A G.length c, .slice B T.length d] 37)) = W0 at *
    refine (c_l02Ok _ _ _ _ _ G T sv _ B0 (HH.out.new n0) hg ht).mono ?_
    rintro e w1 ⟨rfl, n1⟩
    rw [HS.out]
    have B1 := B0.new n1
    go_wp2_with fail
    refine (c_l05Set _ _ _ _ _ G T sv _ B1 ((HH.out.new n0).new n1) HS.out).mono ?_
    rintro e w2 ⟨rfl, n2⟩
    go_wp2
    go_ret
    exact ⟨rfl, (n0.step n1).step n2⟩
set_option maxHeartbeats 1000000 in
theorem c_implSetText (lo hi : Nat) (gv tv : Value) (G : List (ByteArray × Int)) (T : List (ByteArray × List Int)) (sv : List Value) (w : World) (h : RdS w lo hi gv tv G T sv) (hg : ∀ g ∈ G, g.1.size ≤ maxLen) (ht : ∀ t ∈ T, t.1.size ≤ maxLen) (hT : TabW w) :
    Calls Tryd.prog 14 #[.agg #[gv, tv]] w fun e w' => e = .returned (.string (setT G T)) ∧ New w w' := by
  obtain ⟨A, c, B, d, rfl, rfl⟩ := h.form
  have HH := Lib.hid h
  clear h
  have n0 : New w (w.alloc (.cells #[.slice A G.length c, .slice B T.length d] 37)) := (New.same w).box _
  have B0 : BoxV (w.alloc (.cells #[.slice A G.length c, .slice B T.length d] 37)) w.heap.size [.slice A G.length c, .slice B T.length d] := .two (by go_simp) (by go_simp) (by go_simp) (by go_simp) (by simp)
  cases hs : setB G T
  · have E := Lib.hid (show setT G T = ⟨#[]⟩ by simp [setT, hs])
    rw [E.out]
    have HS := Lib.hid hs
    clear hs
    go_enter Tryd.func14, Tryd.ntmps14
    go_wp2_with fail
    generalize (w.alloc (.cells #[.slice A G.length c, .slice B T.length d] 37)) = W0 at *
    refine (c_implValidSet _ _ _ _ G T sv _ (HH.out.new n0) hg ht).mono ?_
    rintro e w1 ⟨rfl, n1⟩
    rw [HS.out]
    go_wp2
    go_ret
    exact ⟨rfl, n0.step n1⟩
  · have E := Lib.hid (show setT G T = ⟨(xL G T T.length).toArray⟩ by simp [setT, hs])
    rw [E.out]
    have HS := Lib.hid hs
    clear hs
    go_enter Tryd.func14, Tryd.ntmps14
    go_wp2_with fail
    generalize (w.alloc (.cells #[.slice A G.length c, .slice B T.length d] 37)) = W0 at *
    refine (c_implValidSet _ _ _ _ G T sv _ (HH.out.new n0) hg ht).mono ?_
    rintro e w1 ⟨rfl, n1⟩
    rw [HS.out]
    have ⟨⟨bx0, by0⟩, _, bl0⟩ := (B0.new n1).at2
    go_wp2_with fail
    refine (c_setText _ _ _ _ G T sv _ ((HH.out.new n0).new n1) HS.out (tab_new hT (n0.step n1))).mono ?_
    rintro e w2 ⟨rfl, n2⟩
    go_wp2
    go_ret
    exact ⟨rfl, (n0.step n1).step n2⟩
end Go.Proofs.YtfnihmmkbnkmnaaDoor
