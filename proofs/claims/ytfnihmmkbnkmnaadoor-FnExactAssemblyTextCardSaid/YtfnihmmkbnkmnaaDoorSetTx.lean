/- Contracts of the functions that write a set: the reference's. -/
import Derived.Test.YtfnihmmkbnkmnaaDoorTxP
import Derived.Test.YtfnihmmkbnkmnaaDoorBytes
import Derived.Test.YtfnihmmkbnkmnaaDoorSetOk2
import Derived.Test.YtfnihmmkbnkmnaaDoorQTail
import Derived.Test.YtfnihmmkbnkmnaaDoorStrO
import Derived.Lib.AppendStr
namespace Go.Proofs.YtfnihmmkbnkmnaaDoor
open Go.RowKit Go.Deep
set_option linter.unusedVariables false
set_option linter.unusedSimpArgs false

/-- a side of a tile that is read -/
theorem rd_sideX {w wr : World} {lo hi : Nat} {v : Value} {T : List (ByteArray × List Int)} {sv : List Value} (h : RdT w lo hi v T sv) (n : New w wr) {b off c : Nat} (hv : v = .slice (some ⟨b, off, none⟩) T.length c) {k : Nat} (hk : k < T.length) {d : Nat} (hd : d < T[k].2.length) :
    ∃ bs os m, (wr.cell? ⟨b, off + k * 2 + 1, none⟩ = some (.slice (some ⟨bs, os, none⟩) T[k].2.length m) ∧ b < wr.heap.size) ∧ wr.cell? ⟨bs, os + d, none⟩ = some (.int .i64 T[k].2[d]) ∧ bs < wr.heap.size := by
  obtain ⟨A, m, ⟨_, x1⟩, hb, rx, _⟩ := rd_tl h n hv hk
  obtain ⟨_, _, e, _, hs⟩ := rd_form rx
  obtain ⟨bs, os, hA⟩ := hs (by omega)
  have hA' : A = some ⟨bs, os, none⟩ := by cases e; exact hA
  subst hA'
  obtain ⟨y0, yl⟩ := rd_i rx (New.same _) rfl hd
  exact ⟨bs, os, m, ⟨x1, hb⟩, y0, yl⟩
/-- append of a string to bytes that the call owns -/
theorem wpList_appS {ops : Array Oper} {rest : List Oper} {o : Oper} {a : Act} {Q : Exit → Act → World → Prop} (hgd : o.guard = none) (sl x : Operand)
    (ho : o.op = .call { callee := .builtin .append, args := #[sl, x], argTypes := #[81, 9] }) (w : World) (base : Nat) {v : Value} {n : Nat} {l : List UInt8}
    (hown : w.ownsRow base 5 1 v n (Lib.byteCells l)) (hs : a.eval sl = v) (s : ByteArray) (hx : a.eval x = .string s) (h63 : l.length + s.size ≤ 140737488355328) (hbase : base ≤ w.heap.size) (l' : List UInt8) (e' : l' = l ++ bL s)
    (h : ∀ v' w', w'.ownsRow base 5 1 v' l'.length (Lib.byteCells l') → Below base w w' → wpList Tryd.prog ops Q rest (a.put o.dst v') w') : wpList Tryd.prog ops Q (o :: rest) a w := by
  obtain ⟨ht, i, z, hi, hz, hsize, hby, hzs, hsz⟩ := row_U8
  have hz0 : i.zero = some (.int .u8 0) := by
    have := info_U8
    rw [hi] at this
    simp at this
    exact this.1
  have hn : n = l.length := by have := hown.1; rw [Lib.byteCells_length] at this; omega
  subst hn
  refine Lib.wpList_append_own_string w hgd sl x _ _ ho base _ i ht Tryd.underlying9 hi hz0 hsize hby v _ _ hs hown s hx (by unfold maxLen; omega) h63 hbase ?_
  intro v' w' h1 h2 _
  refine h v' w' ?_ ((Below.refl _ _).grown h2 hbase (fun k hk => (hown.lt k hk).1))
  subst e'
  rw [bL_cells, bL_len2]
  exact h1
theorem c_l05GlueName (b0 lo hi : Nat) (gv tv : Value) (G : List (ByteArray × Int)) (T : List (ByteArray × List Int)) (sv : List Value) (g : Int) (w : World) (B0 : BoxV w b0 [gv, tv]) (h : RdS w lo hi gv tv G T sv) (g0 : 0 ≤ g) (g1 : g ≤ G.length) (hn : G.length ≤ 200) :
    Calls Tryd.prog 66 #[.pointer (some ⟨b0, 0, none⟩), .int .i64 g] w fun e w' => e = .returned (.string (gnT G g)) ∧ w = w' := by
  obtain ⟨A, c, B, d0, rfl, rfl⟩ := h.form
  have HH := Lib.hid h
  obtain ⟨A', c', e1, hm, ha⟩ := rd_form h.glues
  obtain ⟨rfl, rfl⟩ : A = A' ∧ c = c' := by simpa using e1
  clear e1 h
  have ⟨⟨bx0, by0⟩, _, bl0⟩ := B0.at2
  by_cases hq : g = 0
  · subst hq
    go_enter Tryd.func66, Tryd.ntmps66
    go_wp2
    go_ret
    rw [gnT_zero G rfl]
    exact ⟨rfl, rfl⟩
  · obtain ⟨j, hj⟩ : ∃ j : Nat, g = (j : Int) + 1 := ⟨(g - 1).toNat, by omega⟩
    have hjl : j < G.length := by omega
    have E := Lib.hid (gnT_pos G hq hjl (by omega : g - 1 = (j : Int)))
    have g2 : (g == 0) = false := by simpa using hq
    have g3 : IntKind.i64.wrap (g - 1) = (j : Int) := by rw [IntWalk.i64_in _ (by omega)]; omega
    obtain ⟨b, off, hAe⟩ := ha (by omega)
    subst hAe
    have p0 : (0 : Int) ≤ (j : Int) := by omega
    have p1 : (j : Int) < (G.length : Int) := by omega
    obtain ⟨⟨x0, x1⟩, bw⟩ := rd_gl HH.out.glues (New.same w) rfl hjl
    clear hq hj ha
    go_enter Tryd.func66, Tryd.ntmps66
    go_wp2
    go_ret
    rw [E.out]
    exact ⟨rfl, rfl⟩
set_option maxRecDepth 20000 in
set_option maxHeartbeats 8000000 in
theorem c_l05Set (b0 lo hi : Nat) (gv tv : Value) (G : List (ByteArray × Int)) (T : List (ByteArray × List Int)) (sv : List Value) (w : World) (B0 : BoxV w b0 [gv, tv]) (h : RdS w lo hi gv tv G T sv) (hs : setB G T = true) :
    Calls Tryd.prog 32 #[.pointer (some ⟨b0, 0, none⟩)] w fun e w' => e = .returned (.string ⟨(xL G T T.length).toArray⟩) ∧ New w w' := by
  obtain ⟨A, c, B, d0, rfl, rfl⟩ := h.form
  have HH := Lib.hid h
  obtain ⟨A', c', e1, hm, ha⟩ := rd_form h.glues
  obtain ⟨B', d', e2, hm', hb⟩ := rd_form h.tiles.outer
  obtain ⟨rfl, rfl⟩ : A = A' ∧ c = c' := by simpa using e1
  obtain ⟨rfl, rfl⟩ : B = B' ∧ d0 = d' := by simpa using e2
  have ⟨i1, i2, i3, i4⟩ := set_in hs
  have hnm := set_names hs
  have HA := Lib.hid ha
  have HB := Lib.hid hb
  have HG := Lib.hid hnm.1
  have HT := Lib.hid hnm.2
  have HI := Lib.hid i4
  have HGL := Lib.hid (fun n hn => gLx_len hnm.1 (G := G) n hn)
  have HXL := Lib.hid (fun n hn => xL_len hs n hn)
  clear e1 e2 h ha hb hnm i4
  have ⟨⟨bx0, by0⟩, _, bl0⟩ := B0.at2
  go_enter Tryd.func32, Tryd.ntmps32
  go_wp2
  clear bx0 by0 bl0
  go_loopw [3, 4] (fun v i wr => ∃ k : Nat, k ≤ G.length ∧ i = .int .i64 k ∧ wr.ownsRow w.heap.size 5 1 v (gLx G k).length (Lib.byteCells (gLx G k)) ∧ New w wr) (fun _ i _ => G.length - (intOf i).toNat)
  case atStart => exact ⟨0, Nat.zero_le _, rfl, World.ownsRow_made w #[] 0 (Nat.le_refl _) (by omega) rfl, (New.same _).box _⟩
  case round =>
    obtain ⟨k, hk, rfl, hown, hN⟩ := hrel
    have ⟨⟨bx0, by0⟩, _, bl0⟩ := (B0.new hN).at2
    have HOW := Lib.hid hown
    clear hown
    by_cases hlt : k < G.length
    · obtain ⟨b, off, hAe⟩ := HA.out (by omega)
      subst hAe
      have p0 : (0 : Int) ≤ (k : Int) := by omega
      have p1 : (k : Int) < (G.length : Int) := by omega
      obtain ⟨⟨x0, x1⟩, bw⟩ := rd_gl HH.out.glues hN rfl hlt
      obtain ⟨⟨q0, q1⟩, q2, q3⟩ := HG.out k hlt
      have q4 := decT_size G[k].2 (by omega) (by omega)
      have a1 : (⟨#[103, 108, 117, 101, 32]⟩ : ByteArray).size = 5 := rfl
      have a2 : (⟨#[32]⟩ : ByteArray).size = 1 := rfl
      have a3 : (⟨#[10]⟩ : ByteArray).size = 1 := rfl
      have s1 : ¬ (9223372036854775807 < (⟨#[103, 108, 117, 101, 32]⟩ : ByteArray).size + G[k].1.size) := by omega
      have s2 : ¬ (9223372036854775807 < ((⟨#[103, 108, 117, 101, 32]⟩ : ByteArray) ++ G[k].1).size + (⟨#[32]⟩ : ByteArray).size) := by rw [ByteArray.size_append]; omega
      have s3 : ¬ (9223372036854775807 < ((⟨#[103, 108, 117, 101, 32]⟩ : ByteArray) ++ G[k].1 ++ ⟨#[32]⟩).size + (decT G[k].2).size) := by rw [ByteArray.size_append, ByteArray.size_append]; omega
      have s4 : ¬ (9223372036854775807 < ((⟨#[103, 108, 117, 101, 32]⟩ : ByteArray) ++ G[k].1 ++ ⟨#[32]⟩ ++ decT G[k].2).size + (⟨#[10]⟩ : ByteArray).size) := by rw [ByteArray.size_append, ByteArray.size_append, ByteArray.size_append]; omega
      have C1 := Lib.hid (fun (w : World) => c_specDecimal G[k].2 w (by omega) (by omega))
      have S := Lib.hid (gLx_succ hlt)
      have hgz := glS_size q1 q2 q3
      have hgl := HGL.out k hk
      have SZ := Lib.hid (show (gLx G k).length + (glS G[k]).size ≤ 8040 by omega)
      clear hgz hgl
      go_upto_region 5 with fail
      have l1 := Later.cell bx0 bl0
      have l2 := Later.cell x0 bw
      have l3 := Later.cell x1 bw
      refine wp_region_later_tail [0, 1, 2, 3, 4, 5, 6, 7, 8, 9, 10, 11, 12, 13, 14, 15, 16, 17, 18, 19, 20, 21] 22 [23] (by kernel_rfl) (by decide +kernel) ?_
      simp only [pickO, List.getElem?_cons_zero, List.getElem?_cons_succ]
      (repeat (go_big_quiet_step (first | (go_at_call 65; with_reducible exact later_of (C1.out _)))))
      refine wpQuiet_nil ?_
      intro wq hw'
      obtain ⟨⟨wz, nq⟩, hwz⟩ := hw'
      have hwz' : wq = wz := hwz
      subst hwz'
      clear hwz l1 l2 l3 x0 x1 bw bx0 by0 bl0 s1 s2 s3 s4
      have HO2 := Lib.hid (ownsRow_new HOW.out nq)
      have hz2 := (hN.step nq).size
      go_wp2_with (at_builtin; refine wpList_appS rfl _ _ rfl _ w.heap.size HO2.out rfl (glS G[k]) rfl (by have := SZ.out; omega) hz2 _ S.out ?_; intro v1 w6 hown1 hb6)
      go_roundw
      case rel => exact ⟨k + 1, by omega, by go_num, hown1, (hN.step nq).trans hb6⟩
      case measure => simp [intOf]; omega
    · have hk' : k = G.length := by omega
      subst hk'
      have X0 := xL_zero G T
      rw [← X0] at HOW
      clear X0
      obtain ⟨w0, hw0⟩ : ∃ w0, w0 = wr := ⟨wr, rfl⟩
      subst hw0
      go_wp2
      clear bx0 by0 bl0
      go_loopw [3, 5] (fun v i wr => ∃ k : Nat, k ≤ T.length ∧ i = .int .i64 k ∧ wr.ownsRow w.heap.size 5 1 v (xL G T k).length (Lib.byteCells (xL G T k)) ∧ New w wr) (fun _ i _ => T.length - (intOf i).toNat)
      case atStart => exact ⟨0, Nat.zero_le _, rfl, HOW.out, hN⟩
      case round =>
        clear hN HOW
        obtain ⟨k, hk, rfl, hown, hN⟩ := hrel
        have ⟨⟨bx0, by0⟩, _, bl0⟩ := (B0.new hN).at2
        have HOW := Lib.hid hown
        clear hown
        by_cases hlt : k < T.length
        · obtain ⟨b, off, hAe⟩ := HB.out (by omega)
          subst hAe
          have p0 : (0 : Int) ≤ (k : Int) := by omega
          have p1 : (k : Int) < (T.length : Int) := by omega
          obtain ⟨At, mt, ⟨x0, x1⟩, bw, rx, ex⟩ := rd_tl HH.out.tiles hN rfl hlt
          have HR := Lib.hid (rd_tl_at HH.out.tiles hlt ex)
          obtain ⟨q1, q2⟩ := HT.out k hlt
          obtain ⟨h4, hsd⟩ := HI.out k hlt
          have HSD := Lib.hid hsd
          have a1 : (⟨#[116, 105, 108, 101, 32]⟩ : ByteArray).size = 5 := rfl
          have s1 : ¬ (9223372036854775807 < (⟨#[116, 105, 108, 101, 32]⟩ : ByteArray).size + T[k].1.size) := by omega
          have S := Lib.hid (show xL G T k ++ tiL G T[k] 0 = xL G T k ++ bL (tlS T[k]) by rw [tiL_zero])
          have SZ := Lib.hid (show (xL G T k).length + (tlS T[k]).size ≤ 19217 by have := HXL.out k hk; have := tlS_size q2; omega)
          have SI := Lib.hid (fun d hd => tiL_len HG.out q2 hsd d hd)
          have SX := Lib.hid (show (xL G T k).length ≤ 19200 by have := HXL.out k hk; omega)
          have SE := Lib.hid (xL_succ (G := G) hlt)
          have hzk := hN.size
          clear hsd ex
          go_wp2_with (at_builtin; refine wpList_appS rfl _ _ rfl _ w.heap.size HOW.out rfl (tlS T[k]) rfl (by have := SZ.out; omega) hzk _ S.out ?_; intro v1 w6 hown1 hb6)
          have hN6 := hN.trans hb6
          have HO6 := Lib.hid hown1
          clear bx0 by0 bl0 x0 x1 bw rx hown1 s1 a1 HOW
          go_loopw [3, 6] (fun v i wq => ∃ d : Nat, d ≤ T[k].2.length ∧ i = .int .i64 d ∧ wq.ownsRow w.heap.size 5 1 v (xL G T k ++ tiL G T[k] d).length (Lib.byteCells (xL G T k ++ tiL G T[k] d)) ∧ New w wq) (fun _ i _ => T[k].2.length - (intOf i).toNat)
          case atStart => exact ⟨0, Nat.zero_le _, rfl, HO6.out, hN6⟩
          case round =>
            clear hN hN6 HO6 hb6
            obtain ⟨d, hd, rfl, hown, hN⟩ := hrel
            have ⟨⟨bx0, by0⟩, _, bl0⟩ := (B0.new hN).at2
            have HOW := Lib.hid hown
            clear hown
            have hzd := hN.size
            have hB7 := B0.new hN
            by_cases hd4 : d < T[k].2.length
            · have t0 : (d : Int) < 4 := by omega
              have r2 : (0 : Int) ≤ (d : Int) := by omega
              have r4 : (d : Int) < (T[k].2.length : Int) := by omega
              obtain ⟨bs, os, m, ⟨z1, zl⟩, u0, ul⟩ := rd_sideX HH.out.tiles hN rfl hlt hd4
              obtain ⟨g0, g1⟩ := HSD.out d hd4
              have s0 := gnT_size HG.out g0 g1
              have a2 : (⟨#[32]⟩ : ByteArray).size = 1 := rfl
              have s1 : ¬ (9223372036854775807 < (⟨#[32]⟩ : ByteArray).size + (gnT G T[k].2[d]).size) := by omega
              have s5 := sdS_size HG.out g0 g1
              have s6 := SI.out d hd
              have s7 := SX.out
              have SZ := Lib.hid (show (xL G T k ++ tiL G T[k] d).length + (sdS G T[k].2[d]).size ≤ 19300 by rw [List.length_append]; omega)
              have S := Lib.hid (show xL G T k ++ tiL G T[k] (d + 1) = (xL G T k ++ tiL G T[k] d) ++ bL (sdS G T[k].2[d]) by rw [tiL_succ G hd4, List.append_assoc])
              have C1 := Lib.hid (c_l05GlueName b0 lo hi _ _ G T sv T[k].2[d] _ hB7 (HH.out.new hN) g0 g1 i1)
              clear s0 s5 s6 s7 g0 g1
              go_wp2_with (first | (go_at_call 66; refine (C1.out).mono ?_; rintro e w' ⟨rfl, rfl⟩) | (at_builtin; refine wpList_appS rfl _ _ rfl _ w.heap.size HOW.out rfl (sdS G T[k].2[d]) rfl (by have := SZ.out; omega) hzd _ S.out ?_; intro v1 w7 hown1 hb7))
              go_roundw
              case rel => exact ⟨d + 1, by omega, by go_num, hown1, hN.trans hb7⟩
              case measure => simp [intOf]; omega
            · have t0 : ¬ ((d : Int) < 4) := by omega
              have ed : d = T[k].2.length := by omega
              subst ed
              have SL := Lib.hid (show (xL G T k ++ tiL G T[k] T[k].2.length).length ≤ 19300 by rw [List.length_append]; have := SI.out T[k].2.length (Nat.le_refl _); have := SX.out; omega)
              go_wp2_with (at_builtin; refine wpList_app1 rfl _ _ rfl row_U8 _ w.heap.size HOW.out rfl [.int .u8 10] rfl rfl (by simp [Value.oneCell']) (by unfold maxLen; have := SL.out; omega) (by have := SL.out; omega) hzd ?_; intro v1 w7 hown1 hb7 _ _)
              go_roundw
              case rel => exact ⟨k + 1, by omega, by go_num, by rw [SE.out, bytes_one, List.length_append (bs := [10])]; exact hown1, hN.trans hb7⟩
              case measure => simp [intOf]; omega
        · have hk' : k = T.length := by omega
          subst hk'
          have hpos : 0 < (xL G T T.length).length := by
            obtain ⟨n, hn⟩ : ∃ n, T.length = n + 1 := ⟨T.length - 1, by omega⟩
            rw [hn, xL_succ (by omega), List.length_append]
            exact Nat.succ_pos _
          obtain ⟨g, cc, rfl, _, _⟩ := HOW.out.form hpos
          have hcv := run_convert_bytes_back (P := Tryd.prog) wr 81 9 5 ⟨g, 0, none⟩ cc (xL G T T.length) Tryd.underlying81 Tryd.underlying5 Tryd.underlying9 (own_bytes HOW.out)
          clear hpos
          go_wp2
          go_ret
          exact ⟨rfl, hN⟩
end Go.Proofs.YtfnihmmkbnkmnaaDoor
