/- Contracts of the laws' own helpers on tiles: copying, counting, comparing. -/
import Derived.Test.YtcbifdfcllaaaaaGreatDoorGlue
namespace Go.Proofs.YtcbifdfcllaaaaaGreatDoor
open Go.RowKit Go.Deep
set_option linter.unusedVariables false
set_option linter.unusedSimpArgs false

theorem info_Tile : (Tryz.prog.info? 76).map (fun i => (i.zero, i.size, i.bytes)) = some (some (.agg #[.string ⟨#[]⟩, .slice none 0 0]), 2, 40) := by kernel_rfl
theorem row_Tile : ElemRow Tryz.prog 33 76 2 40 := elemRow Tryz.underlying33 info_Tile rfl (by omega)

set_option maxHeartbeats 1000000 in
theorem c_toTile (s : ByteArray) (lo hi : Nat) (v : Value) (zs : List Int) (w : World) (h : Rd w lo hi 1 v zs.length (zs.map (Value.int .i64))) (hn : zs.length ≤ 1048576) :
    Calls Tryz.prog 44 #[.agg #[.string s, v]] w fun e w' => ∃ u, e = .returned (.agg #[.string s, u]) ∧ Own w' w.heap.size w'.heap.size 2 1 u zs.length (zs.map (Value.int .i64)) ∧ New w w' := by
  have HR := Lib.hid h
  obtain ⟨A, c, rfl, _, _⟩ := rd_form h
  clear h
  go_enter Tryz.func44, Tryz.ntmps44
  go_wp2_with fail
  have n0 : New w (((w.alloc (.cells #[.string s, .slice A zs.length c] 71)).alloc (.cells #[.string ⟨#[]⟩, .slice none 0 0] 76)).alloc (.cells #[.string s, .slice none 0 0] 76)) := (((New.same w).box _).box _).box _
  have B1 : BoxV (((w.alloc (.cells #[.string s, .slice A zs.length c] 71)).alloc (.cells #[.string ⟨#[]⟩, .slice none 0 0] 76)).alloc (.cells #[.string s, .slice none 0 0] 76)) (w.heap.size + 1) [.string ⟨#[]⟩, .slice none 0 0] := .two (by go_simp) (by go_simp) (by go_simp) (by go_simp) (by simp)
  have B2 : BoxV (((w.alloc (.cells #[.string s, .slice A zs.length c] 71)).alloc (.cells #[.string ⟨#[]⟩, .slice none 0 0] 76)).alloc (.cells #[.string s, .slice none 0 0] 76)) (w.heap.size + 1 + 1) [.string s, .slice none 0 0] := .two (by go_simp) (by go_simp) (by go_simp) (by go_simp) (by simp)
  have z3 : (((w.alloc (.cells #[.string s, .slice A zs.length c] 71)).alloc (.cells #[.string ⟨#[]⟩, .slice none 0 0] 76)).alloc (.cells #[.string s, .slice none 0 0] 76)).heap.size = w.heap.size + 3 := by simp
  generalize (((w.alloc (.cells #[.string s, .slice A zs.length c] 71)).alloc (.cells #[.string ⟨#[]⟩, .slice none 0 0] 76)).alloc (.cells #[.string s, .slice none 0 0] 76)) = W0 at *
  refine (c_toInt64S _ _ _ zs _ (HR.out.new n0) hn).mono ?_
  rintro e w1 ⟨u, rfl, hO, n1⟩
  obtain ⟨_, _, _, A', c', rfl, _⟩ := hO.rd
  obtain ⟨⟨c1, d1⟩, ⟨f1, g1⟩, z1⟩ := (B1.new n1).at2
  obtain ⟨⟨c2, d2⟩, ⟨f2, g2⟩, z2⟩ := (B2.new n1).at2
  have NN : New w w1 := n0.step n1
  have HO := Lib.hid hO
  have Z3 := Lib.hid z3
  clear hO B1 B2 n0 n1 z3
  go_wp2
  refine bodyPost_ret (v := .agg #[.string s, .slice A' zs.length c']) (by simp [results, Tryz.results44, go_sem, c1, d1, c2, d2]) rfl ?_
  have z3 := Z3.out
  have F := (((Fr.refl w.heap.size (w.heap.size + 3) w1).setCell (p := ⟨w.heap.size + 1 + 1, 1, none⟩) (by simp; omega) (by simp) (.slice A' zs.length c')).setCell (p := ⟨w.heap.size + 1, 0, none⟩) (by simp) (by simp) (.string s)).setCell (p := ⟨w.heap.size + 1, 1, none⟩) (by simp) (by simp) (.slice A' zs.length c')
  exact ⟨_, rfl, (HO.out.fr F (.inr (by omega))).wide (by omega) (by simp) (Nat.le_refl _), NN.fr F (Nat.le_refl _)⟩

/-- what a copy of tiles has made so far -/
def TilesSo (w : World) (base : Nat) (T : List (ByteArray × List Int)) (k : Nat) (sv : List Value) : Prop :=
  sv.length = k ∧ Fill w base 76 2 base T.length T.length (nestC tlM (T.take k) sv) ∧ OwnEach 2 w (base + 1) w.heap.size ((T.take k).map Prod.snd) sv
theorem tiles_start {w w1 : World} {T : List (ByteArray × List Int)} (F : Fill w1 w.heap.size 76 2 w.heap.size T.length T.length []) : TilesSo w1 w.heap.size T 0 [] :=
  ⟨rfl, by simpa [nestC] using F, by have := F.ge.2; simp [OwnEach]; omega⟩
theorem tiles_step {w w2 : World} {base k : Nat} {T : List (ByteArray × List Int)} {sv : List Value} {u : Value} (h : TilesSo w base T k sv) (n2 : New w w2) (hk : k < T.length)
    (hO : Own w2 w.heap.size w2.heap.size 2 1 u T[k].2.length (T[k].2.map (Value.int .i64))) :
    TilesSo ((w2.setCell ⟨base, k * 2, none⟩ (.string T[k].1)).setCell ⟨base, k * 2 + 1, none⟩ u) base T (k + 1) (sv ++ [u]) := by
  obtain ⟨h1, h2, h3⟩ := h
  have hb := h2.ge
  have hl : (nestC tlM (T.take k) sv).length = k * 2 := by rw [nestC_len (C := 2) (fun _ _ => rfl) _ _ (by simp [h1]; omega)]; simp; omega
  have F1 := (h2.new n2).put (by omega) (.string T[k].1)
  have hl1 : (nestC tlM (T.take k) sv ++ [Value.string T[k].1]).length = k * 2 + 1 := by simp [hl]
  have F2 := F1.put (by omega) u
  rw [hl1, hl] at F2
  have hF : Fr base (base + 1) w2 ((w2.setCell ⟨base, k * 2, none⟩ (.string T[k].1)).setCell ⟨base, k * 2 + 1, none⟩ u) := ((Fr.refl _ _ w2).setCell (p := ⟨base, k * 2, none⟩) (Nat.le_refl _) (Nat.lt_succ_self _) _).setCell (p := ⟨base, k * 2 + 1, none⟩) (Nat.le_refl _) (Nat.lt_succ_self _) _
  have hlen : sv.length = (T.take k).length := by simp [h1]; omega
  refine ⟨by simp [h1], ?_, ?_⟩
  · rw [List.take_succ_eq_append_getElem hk, nestC_snoc _ _ hlen]
    simpa [tlM] using F2
  · rw [List.take_succ_eq_append_getElem hk, List.map_append]
    have := ((h3.new n2).snoc n2.size hO).fr hF (.inr (Nat.le_refl _))
    exact this.wide (Nat.le_refl _) hF.size (Nat.le_refl _)
theorem tiles_end {w w' : World} {T : List (ByteArray × List Int)} {sv : List Value} (h : TilesSo w' w.heap.size T T.length sv) :
    OwnN tlM Prod.snd 2 76 2 w' w.heap.size w'.heap.size (.slice (some ⟨w.heap.size, 0, none⟩) T.length T.length) T sv := by
  obtain ⟨h1, h2, h3⟩ := h
  rw [List.take_length] at h2 h3
  have hb := h2.ge
  have hd := h2.done (by rw [nestC_len (C := 2) (fun _ _ => rfl) _ _ h1])
  exact ⟨w.heap.size + 1, by omega, ⟨hd, by omega, fun g hg => by simp [Value.ownBlock] at hg; omega⟩, h3⟩

set_option maxHeartbeats 2000000 in
theorem c_toTileS (lo hi : Nat) (v : Value) (T : List (ByteArray × List Int)) (sv : List Value) (w : World) (h : RdT w lo hi v T sv) (hn : T.length ≤ 1048576) (hs : ∀ t ∈ T, t.2.length ≤ 1048576) :
    Calls Tryz.prog 20 #[v] w fun e w' => ∃ u sv', e = .returned u ∧ OwnN tlM Prod.snd 2 76 2 w' w.heap.size w'.heap.size u T sv' ∧ New w w' := by
  obtain ⟨i0, hi0, hz0, hz1, hz2⟩ := info_parts info_Tile
  have HR := Lib.hid h
  have HX := Lib.hid hs
  obtain ⟨A, c, rfl, hm, ha⟩ := rd_form h.outer
  have HA := Lib.hid ha
  clear ha h hs
  go_enter Tryz.func20, Tryz.ntmps20
  go_wp2_with (at_make; refine wpList_make_full _ rfl _ _ 33 rfl w.heap.size 76 i0 (.agg #[.string ⟨#[]⟩, .slice none 0 0]) 2 Tryz.underlying33 hi0 hz0 hz1 .i64 .i64 T.length T.length T.length rfl rfl rfl rfl (by rw [hz2]; omega) (by unfold maxLen; omega) (Nat.le_refl _) ?_; intro w1 hown hgrow)
  have n1 : New w w1 := (Below.refl _ _).grown hgrow (Nat.le_refl _) (fun k hk => by cases hk)
  have F0 : Fill w1 w.heap.size 76 2 w.heap.size T.length T.length [] := Fill.start hown
  clear hown hgrow
  go_loopw [4] (fun i wr => ∃ k : Nat, ∃ sv' : List Value, k ≤ T.length ∧ i = .int .i64 k ∧ TilesSo wr w.heap.size T k sv' ∧ New w wr) (fun i _ => T.length - (intOf i).toNat)
  case atStart => exact ⟨0, [], Nat.zero_le _, rfl, tiles_start F0, n1⟩
  case round =>
    obtain ⟨k, sv', hk, rfl, hT, hN⟩ := hrel
    clear F0
    by_cases hlt : k < T.length
    · obtain ⟨b, off, hAe⟩ := HA.out (by omega)
      subst hAe
      obtain ⟨Ax, mx, ⟨x0, x1⟩, bw, rx, _⟩ := rd_tl HR.out hN rfl hlt
      have hx := HX.out T[k] (List.getElem_mem hlt)
      go_wp2_with fail
      refine (c_toTile T[k].1 _ _ _ T[k].2 _ rx hx).mono ?_
      rintro e w2 ⟨u, rfl, hO, n2⟩
      obtain ⟨_, _, _, Au, cu, rfl, _⟩ := hO.rd
      have hT2 := Lib.hid (tiles_step hT n2 hlt hO)
      have hN2 := hN.step n2
      have hF2 := hT.2.1.new n2
      obtain ⟨u0, hu0⟩ := hF2.cell (j := k * 2) (by omega)
      obtain ⟨u1, hu1⟩ := hF2.cell (j := k * 2 + 1) (by omega)
      have hf0 := hF2.free (k * 2)
      have hf1 := hF2.free (k * 2 + 1)
      clear hT hN n2 x0 x1 bw hO hF2 rx
      go_wp2
      go_roundw
      case rel => exact ⟨k + 1, _, by omega, by go_num, hT2.out, (hN2.setCell (by simp) _).setCell (by simp) _⟩
      case measure => simp [intOf]; omega
    · have hk' : k = T.length := by omega
      subst hk'
      go_wp2
      go_ret
      exact ⟨_, _, rfl, tiles_end hT, hN⟩

set_option maxHeartbeats 400000 in
theorem c_szInt64S_ (A : Option Addr) (n c : Nat) (l : Int) (w : World) (hn : n ≤ 9223372036854775807) (h0 : 0 ≤ l) (h1 : l ≤ 1048576) : Calls Tryz.prog 62 #[.slice A n c, .int .i64 l] w fun e w' => e = .returned (.int .i64 (szN l n)) ∧ w = w' := by
  by_cases h : l - (n : Int) < 0
  · have E := Lib.hid (szN_no h)
    go_enter Tryz.func62, Tryz.ntmps62
    go_wp2
    go_ret
    exact ⟨ret_int E.out.symm, rfl⟩
  · have E := Lib.hid (szN_yes h)
    go_enter Tryz.func62, Tryz.ntmps62
    go_wp2
    go_ret
    exact ⟨ret_int E.out.symm, rfl⟩

set_option maxHeartbeats 1000000 in
theorem c_szTile (t : ByteArray × List Int) (A : Option Addr) (c : Nat) (l : Int) (w : World) (ht : t.1.size ≤ maxLen) (hn : t.2.length ≤ 9223372036854775807) (h0 : 0 ≤ l) (h1 : l ≤ 1048576) : Calls Tryz.prog 34 #[.agg #[.string t.1, .slice A t.2.length c], .int .i64 l] w fun e w' => e = .returned (.int .i64 (szT1 l t)) ∧ New w w' := by
  unfold maxLen at ht
  by_cases h : l - (t.1.size : Int) < 0
  · have E := Lib.hid (show szT1 l t = -1 by unfold szT1; rw [szN_no h]; rfl)
    go_enter Tryz.func34, Tryz.ntmps34
    go_wp2
    go_ret
    exact ⟨ret_int E.out.symm, by go_grown⟩
  · have E := Lib.hid (show szT1 l t = szN (l - t.1.size) t.2.length by unfold szT1; rw [szN_yes h, if_neg (by omega)])
    have C1 := Lib.hid (fun (w : World) => c_szInt64S_ A t.2.length c (l - t.1.size) w hn (by omega) (by omega))
    by_cases hq : szN (l - t.1.size) t.2.length < 0
    · have E2 : szN (l - t.1.size) t.2.length = -1 := by have := szN_lo (l - t.1.size) t.2.length; omega
      rw [E2] at E C1
      clear hq E2
      go_enter Tryz.func34, Tryz.ntmps34
      go_wp2_with (go_at_call 62; refine (C1.out _).mono ?_; rintro e w1 ⟨rfl, rfl⟩)
      go_ret
      exact ⟨ret_int E.out.symm, by go_grown⟩
    · go_enter Tryz.func34, Tryz.ntmps34
      go_wp2_with (go_at_call 62; refine (C1.out _).mono ?_; rintro e w1 ⟨rfl, rfl⟩)
      go_ret
      exact ⟨ret_int E.out.symm, by go_grown⟩

set_option maxHeartbeats 1000000 in
theorem c_szTileS (lo hi : Nat) (v : Value) (zs : List (ByteArray × List Int)) (sv : List Value) (l : Int) (w : World) (h : RdT w lo hi v zs sv) (hg : ∀ g ∈ zs, g.1.size ≤ maxLen) (h0 : 0 ≤ l) (h1 : l ≤ 1048576) :
    Calls Tryz.prog 14 #[v, .int .i64 l] w fun e w' => e = .returned (.int .i64 (szR szT1 l zs)) ∧ New w w' := by
  have HR := Lib.hid h
  have HG := Lib.hid hg
  obtain ⟨A, c, rfl, hm, ha⟩ := rd_form h.outer
  have HA := Lib.hid ha
  clear ha h hg
  by_cases hs : szN l zs.length < 0
  · have E := Lib.hid (show szR szT1 l zs = -1 from if_pos hs)
    have hs' : l - (zs.length : Int) < 0 := by unfold szN at hs; split at hs <;> omega
    clear hs
    go_enter Tryz.func14, Tryz.ntmps14
    go_wp2
    go_ret
    exact ⟨ret_int E.out.symm, New.same _⟩
  · have hs' : ¬ l - (zs.length : Int) < 0 := fun hh => hs (by rw [szN_no hh]; omega)
    have E := Lib.hid (show szR szT1 l zs = szF szT1 (l - zs.length) (zs.drop 0) by unfold szR; rw [if_neg hs, szN_yes hs', List.drop_zero])
    clear hs
    go_enter Tryz.func14, Tryz.ntmps14
    go_wp2
    go_loopw [1, 5] (fun q i wr => ∃ k : Nat, ∃ m : Int, k ≤ zs.length ∧ i = .int .i64 k ∧ q = .int .i64 m ∧ Hid (szR szT1 l zs = szF szT1 m (zs.drop k)) ∧ 0 ≤ m ∧ m ≤ 1048576 ∧ New w wr) (fun _ i _ => zs.length - (intOf i).toNat)
    case atStart => exact ⟨0, _, Nat.zero_le _, rfl, rfl, E, by omega, by omega, New.same _⟩
    case round =>
      obtain ⟨k, m, hk, rfl, rfl, HK, m0, m1, hN⟩ := hrel
      clear E
      by_cases hlt : k < zs.length
      · obtain ⟨b, off, hAe⟩ := HA.out (by omega)
        subst hAe
        have HL := Lib.hid (szF_drop szT1 m zs k hlt)
        obtain ⟨Ax, mx, ⟨x0, x1⟩, bw, rx, _⟩ := rd_tl HR.out hN rfl hlt
        have hrl := rx.2.1
        have hgk := HG.out zs[k] (List.getElem_mem hlt)
        by_cases hq : szT1 m zs[k] < 0
        · have E := Lib.hid (show szR szT1 l zs = -1 by rw [HK.out, HL.out, if_pos hq])
          go_wp2_with fail
          refine (c_szTile zs[k] Ax mx m _ hgk hrl m0 m1).mono ?_
          rintro e w2 ⟨rfl, n2⟩
          go_wp2
          go_ret
          exact ⟨ret_int E.out.symm, hN.step n2⟩
        · have E := Lib.hid (show szR szT1 l zs = szF szT1 (szT1 m zs[k]) (zs.drop (k + 1)) by rw [HK.out, HL.out, if_neg hq])
          have hq1 := (szT1_le m zs[k] (by omega)).1
          go_wp2_with fail
          refine (c_szTile zs[k] Ax mx m _ hgk hrl m0 m1).mono ?_
          rintro e w2 ⟨rfl, n2⟩
          go_wp2
          go_roundw
          case rel => exact ⟨k + 1, _, by omega, by go_num, rfl, E, by omega, by omega, hN.step n2⟩
          case measure => simp [intOf]; omega
      · have hk' : k = zs.length := by omega
        subst hk'
        have E := Lib.hid (show szR szT1 l zs = m by rw [HK.out, List.drop_length]; rfl)
        go_wp2
        go_ret
        exact ⟨ret_int E.out.symm, hN⟩

set_option maxHeartbeats 1000000 in
theorem c_eqTile (lo hi lo' hi' : Nat) (v u : Value) (g q : ByteArray × List Int) (w : World) (h : Rd w lo hi 1 v g.2.length (g.2.map (Value.int .i64))) (h' : Rd w lo' hi' 1 u q.2.length (q.2.map (Value.int .i64))) :
    Calls Tryz.prog 59 #[.agg #[.string g.1, v], .agg #[.string q.1, u]] w fun e w' => e = .returned (.bool (decide (g = q))) ∧ New w w' := by
  have HR := Lib.hid h
  have HS := Lib.hid h'
  obtain ⟨A, c, rfl, _, _⟩ := rd_form h
  obtain ⟨A', c', rfl, _, _⟩ := rd_form h'
  clear h h'
  have n0 : New w ((w.alloc (.cells #[.string g.1, .slice A g.2.length c] 76)).alloc (.cells #[.string q.1, .slice A' q.2.length c'] 76)) := ((New.same w).box _).box _
  by_cases h0 : g.1 = q.1
  · have b0 := sEq_yes h0
    cases h1 : eqL g.2 q.2
    · have E := Lib.hid (show decide (g = q) = false from decide_eq_false (fun e => by rw [e, eqL_self] at h1; cases h1))
      clear h0
      have H1 := Lib.hid h1
      clear h1
      go_enter Tryz.func59, Tryz.ntmps59
      go_wp2_with (go_at_call 84; refine (c_eqInt64S _ _ _ _ _ _ g.2 q.2 _ (HR.out.new n0) (HS.out.new n0)).mono ?_; rintro e w1 ⟨rfl, n1⟩; rw [H1.out])
      go_ret
      exact ⟨ret_bool E.out.symm, n0.step n1⟩
    · have E := Lib.hid (show decide (g = q) = true from decide_eq_true (Prod.ext h0 (of_decide_eq_true h1)))
      clear h0
      have H1 := Lib.hid h1
      clear h1
      go_enter Tryz.func59, Tryz.ntmps59
      go_wp2_with (go_at_call 84; refine (c_eqInt64S _ _ _ _ _ _ g.2 q.2 _ (HR.out.new n0) (HS.out.new n0)).mono ?_; rintro e w1 ⟨rfl, n1⟩; rw [H1.out])
      go_ret
      exact ⟨ret_bool E.out.symm, n0.step n1⟩
  · have E := Lib.hid (show decide (g = q) = false from decide_eq_false (fun e => h0 (by rw [e])))
    have b0 := sEq_no h0
    clear h0
    go_enter Tryz.func59, Tryz.ntmps59
    go_wp2
    go_ret
    exact ⟨ret_bool E.out.symm, n0⟩

set_option maxHeartbeats 4000000 in
theorem c_eqTileS (lo hi lo' hi' : Nat) (v u : Value) (xs ys : List (ByteArray × List Int)) (w : World) (sv sv' : List Value) (h : RdT w lo hi v xs sv) (h' : RdT w lo' hi' u ys sv') :
    Calls Tryz.prog 28 #[v, u] w fun e w' => e = .returned (.bool (eqL xs ys)) ∧ New w w' := by
  have HR := Lib.hid h
  have HS := Lib.hid h'
  obtain ⟨A, c, rfl, hm, ha⟩ := rd_form h.outer
  obtain ⟨A', c', rfl, hm', ha'⟩ := rd_form h'.outer
  have HA := Lib.hid ha
  have HA' := Lib.hid ha'
  clear ha ha' h h'
  by_cases hl : xs.length = ys.length
  · have HL := Lib.hid hl
    have hl1 : xs.length ≤ ys.length := by omega
    have hl2 : ys.length ≤ xs.length := by omega
    have hl3 : ((xs.length : Int) != (ys.length : Int)) = false := by simp [hl]
    clear hl
    go_enter Tryz.func28, Tryz.ntmps28
    go_wp2
    go_loopw [5] (fun i wr => ∃ k : Nat, k ≤ xs.length ∧ i = .int .i64 k ∧ Hid (xs.take k = ys.take k) ∧ New w wr) (fun i _ => xs.length - (intOf i).toNat)
    case atStart => exact ⟨0, Nat.zero_le _, rfl, Lib.hid (by simp), New.same _⟩
    case round =>
      obtain ⟨k, hk, rfl, HT, hN⟩ := hrel
      by_cases hlt : k < xs.length
      · obtain ⟨b, off, hAe⟩ := HA.out (by omega)
        subst hAe
        obtain ⟨b', off', hAe'⟩ := HA'.out (by omega)
        subst hAe'
        have hlt' : k < ys.length := by omega
        have p0 : (0 : Int) ≤ (k : Int) := by omega
        have p1 : (k : Int) < (xs.length : Int) := by omega
        have p2 : (k : Int) < (ys.length : Int) := by omega
        obtain ⟨Ax, mx, ⟨x0, x1⟩, bw, rx, _⟩ := rd_tl HR.out hN rfl hlt
        obtain ⟨Ay, my, ⟨y0, y1⟩, bw', ry, _⟩ := rd_tl HS.out hN rfl hlt'
        have lx0 := Later.cell x0 bw
        have lx1 := Later.cell x1 bw
        have ly0 := Later.cell y0 bw'
        have ly1 := Later.cell y1 bw'
        by_cases he : xs[k] = ys[k]
        · have HT' := take_more HT.out hlt hlt' he
          have C1 := Lib.hid (fun (t : Later wr) => (decide_eq_true he) ▸ c_eqTile _ _ _ _ _ _ xs[k] ys[k] t.w (rx.new t.new) (ry.new t.new))
          clear he
          go_upto_region 6 with fail
          (refine wp_region_later (by kernel_rfl) (by kernel_rfl) ?_; (repeat (go_big_quiet_step ((first | (go_at_call 59; exact later_of (C1.out _)))))); refine wpQuiet_nil ?_; intro wq hw'; obtain ⟨⟨wz, nq⟩, hwz⟩ := hw'; have hwz' : wq = wz := hwz; subst hwz'; clear hwz)
          clear lx0 lx1 ly0 ly1
          go_wp2
          go_roundw
          case rel => exact ⟨k + 1, by omega, by go_num, HT', hN.step nq⟩
          case measure => simp [intOf]; omega
        · have HE := Lib.hid (eqL_at hlt hlt' he)
          have C1 := Lib.hid (fun (t : Later wr) => (decide_eq_false he) ▸ c_eqTile _ _ _ _ _ _ xs[k] ys[k] t.w (rx.new t.new) (ry.new t.new))
          clear he
          go_upto_region 6 with fail
          (refine wp_region_later (by kernel_rfl) (by kernel_rfl) ?_; (repeat (go_big_quiet_step ((first | (go_at_call 59; exact later_of (C1.out _)))))); refine wpQuiet_nil ?_; intro wq hw'; obtain ⟨⟨wz, nq⟩, hwz⟩ := hw'; have hwz' : wq = wz := hwz; subst hwz'; clear hwz)
          clear lx0 lx1 ly0 ly1
          go_wp2
          go_ret
          exact ⟨ret_bool HE.out.symm, hN.step nq⟩
      · have hk' : k = xs.length := by omega
        subst hk'
        go_wp2
        go_ret
        exact ⟨ret_bool (eqL_all HL.out HT.out).symm, hN⟩
  · have HL := Lib.hid (eqL_len hl)
    have hl3 : ((xs.length : Int) != (ys.length : Int)) = true := by simp; omega
    clear hl
    go_enter Tryz.func28, Tryz.ntmps28
    go_wp2
    go_ret
    exact ⟨ret_bool HL.out.symm, New.same _⟩

end Go.Proofs.YtcbifdfcllaaaaaGreatDoor
