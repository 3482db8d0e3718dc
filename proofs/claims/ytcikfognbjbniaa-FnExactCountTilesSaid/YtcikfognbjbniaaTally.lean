/- Both sides of CountTiles. -/
import Derived.Test.YtcikfognbjbniaaValid
import Derived.Test.YtcikfognbjbniaaInts
namespace Go.Proofs.Ytcikfognbjbniaa
open Go.RowKit Go.Deep
set_option linter.unusedVariables false
set_option linter.unusedSimpArgs false

/-- how often each tile occurs -/
def tly (n : Nat) (zs : List ((Int × Int) × Int)) : List Int := (List.range n).map fun (i : Nat) => ((zs.filter fun p => decide (p.2 = (i : Int))).length : Int)
theorem tly_len (n : Nat) (zs : List ((Int × Int) × Int)) : (tly n zs).length = n := by simp [tly]
theorem tly_get {n : Nat} {zs : List ((Int × Int) × Int)} {i : Nat} (h : i < n) : (tly n zs)[i]? = some ((zs.filter fun p => decide (p.2 = (i : Int))).length : Int) := by simp [tly, h]
theorem tly_nil (n : Nat) : tly n [] = List.replicate n 0 := by
  unfold tly
  apply List.ext_getElem
  · simp
  · intro i h1 h2; simp
theorem tly_snoc {n t : Nat} {zs : List ((Int × Int) × Int)} {p : (Int × Int) × Int} (ht : p.2 = (t : Int)) (hn : t < n) : tly n (zs ++ [p]) = (tly n zs).set t (((zs.filter fun p => decide (p.2 = (t : Int))).length : Int) + 1) := by
  apply List.ext_getElem?
  intro i
  by_cases hi : i < n
  · rw [tly_get hi]
    by_cases e : i = t
    · subst e
      rw [List.getElem?_set_self (by rw [tly_len]; exact hi), List.filter_append]
      simp [ht]
    · rw [List.getElem?_set_ne (fun h => e h.symm), tly_get hi, List.filter_append]
      have : ¬ ((t : Int) = (i : Int)) := by omega
      simp [ht, this]
  · rw [List.getElem?_eq_none (by rw [tly_len]; omega), List.getElem?_eq_none (by rw [List.length_set, tly_len]; omega)]
theorem tly_bd {zs : List ((Int × Int) × Int)} (t : Int) : ((zs.filter fun p => decide (p.2 = t)).length : Int) ≤ zs.length := by exact_mod_cast List.length_filter_le _ _
theorem asm_in {n : Nat} {zs : List ((Int × Int) × Int)} (h : asmOk n zs = true) {k : Nat} (hk : k < zs.length) : ∃ t : Nat, zs[k].2 = (t : Int) ∧ t < n := by
  unfold asmOk at h
  simp only [Bool.and_eq_true, Bool.not_eq_true', List.any_eq_false] at h
  have := h.2 _ (List.getElem_mem hk)
  simp only [noTl, Bool.not_eq_true', Bool.not_eq_false, inB_iff, Bool.not_eq_true] at this
  have h2 : 0 ≤ zs[k].2 ∧ zs[k].2 ≤ (n : Int) - 1 := by
    have h3 : inB zs[k].2 0 ((n : Int) - 1) = true := by simpa [noTl] using h.2 _ (List.getElem_mem hk)
    exact inB_iff.1 h3
  exact ⟨zs[k].2.toNat, by omega, by omega⟩
theorem asm_le {n : Nat} {zs : List ((Int × Int) × Int)} (h : asmOk n zs = true) : zs.length ≤ 500 := by
  unfold asmOk frmB at h
  simp only [Bool.and_eq_true, decide_eq_true_eq] at h
  exact h.1.1
/-- the row that a call has made holds the counts -/
def TlRow (w : World) (base : Nat) (e : TypeId) (g n : Nat) (zs : List ((Int × Int) × Int)) : Prop := w.ownsRow base e 1 (.slice (some ⟨g, 0, none⟩) n n) n ((tly n zs).map (Value.int .i64))
theorem TlRow.start {w : World} {base : Nat} {e : TypeId} {g n : Nat} (h : w.ownsRow base e 1 (.slice (some ⟨g, 0, none⟩) n n) n (madeCells (Value.int IntKind.i64 0).cells (n * 1)).toList) : TlRow w base e g n [] := by
  unfold TlRow
  rw [tly_nil]
  have : (madeCells (Value.int IntKind.i64 0).cells (n * 1)).toList = (List.replicate n (0 : Int)).map (Value.int .i64) := by
    simp only [madeCells, Value.cells]
    apply List.ext_getElem
    · simp
    · intro i h1 h2
      simp [Nat.mod_one]
  rw [← this]
  exact h
theorem TlRow.cell {w : World} {base : Nat} {e : TypeId} {g n t : Nat} {zs : List ((Int × Int) × Int)} (h : TlRow w base e g n zs) (ht : t < n) : w.cell? ⟨g, t, none⟩ = some (.int .i64 ((zs.filter fun p => decide (p.2 = (t : Int))).length : Int)) := by
  rw [h.cellAt t (by omega), List.getElem?_map, tly_get ht]; rfl
theorem TlRow.new {w w' : World} {base : Nat} {e : TypeId} {g n : Nat} {zs : List ((Int × Int) × Int)} (h : TlRow w base e g n zs) (hn : New w w') : TlRow w' base e g n zs := ((Own.of h).new hn).1
theorem TlRow.put {w : World} {base : Nat} {e : TypeId} {g n t : Nat} {zs : List ((Int × Int) × Int)} {p : (Int × Int) × Int} (h : TlRow w base e g n zs) (hp : p.2 = (t : Int)) (ht : t < n) : TlRow (w.setCell ⟨g, t, none⟩ (.int .i64 (((zs.filter fun p => decide (p.2 = (t : Int))).length : Int) + 1))) base e g n (zs ++ [p]) := by
  have := (h.stored t (.int .i64 (((zs.filter fun p => decide (p.2 = (t : Int))).length : Int) + 1))).1
  unfold TlRow
  rw [tly_snoc hp ht, List.map_set]
  exact this
def ctL (G : List (ByteArray × Int)) (T : List (ByteArray × List Int)) (zs : List ((Int × Int) × Int)) : List Int := if vaB G T zs then tly T.length zs else []
def ctC (G : List (ByteArray × Int)) (T : List (ByteArray × List Int)) (zs : List ((Int × Int) × Int)) : Int := if vaB G T zs then 0 else 1
theorem ctL_len (G : List (ByteArray × Int)) (T : List (ByteArray × List Int)) (zs : List ((Int × Int) × Int)) : (ctL G T zs).length ≤ T.length := by
  unfold ctL; split
  · rw [tly_len]; exact Nat.le_refl _
  · simp

set_option maxHeartbeats 4000000 in
theorem c_specCountTiles (lo hi lo' hi' : Nat) (gv tv v : Value) (G : List (ByteArray × Int)) (T : List (ByteArray × List Int)) (sv : List Value) (zs : List ((Int × Int) × Int)) (w : World) (h : RdS w lo hi gv tv G T sv) (hg : ∀ g ∈ G, g.1.size ≤ maxLen) (ht : ∀ t ∈ T, t.1.size ≤ maxLen) (hz : Rd w lo' hi' 3 v zs.length (zs.flatMap plCells)) :
    Calls Try.prog 25 #[.agg #[gv, tv], .agg #[v]] w (GivesRowCode w 2 1 (ctL G T zs).length ((ctL G T zs).map (Value.int .i64)) (ctC G T zs)) := by
  obtain ⟨i0, hi0, hz0, hz1, hz2⟩ := info_parts info_int64
  obtain ⟨A, c, B, d, rfl, rfl⟩ := h.form
  have HR := Lib.hid hz
  obtain ⟨_, hm, _, A', c', rfl, hrd⟩ := hz
  have ha : 0 < zs.length → ∃ b off, A' = some ⟨b, off, none⟩ := fun h => by obtain ⟨b, off, e, _⟩ := hrd h; exact ⟨b, off, e⟩
  have HA := Lib.hid ha
  have HH := Lib.hid h
  clear h hrd ha
  have n0 : New w ((w.alloc (.cells #[.slice A G.length c, .slice B T.length d] 36)).alloc (.cells #[.slice A' zs.length c'] 39)) := ((New.same w).box _).box _
  have B0 : BoxV ((w.alloc (.cells #[.slice A G.length c, .slice B T.length d] 36)).alloc (.cells #[.slice A' zs.length c'] 39)) w.heap.size [.slice A G.length c, .slice B T.length d] := .two (by go_simp) (by go_simp) (by go_simp) (by go_simp) (by simp <;> omega)
  have B1 : BoxV ((w.alloc (.cells #[.slice A G.length c, .slice B T.length d] 36)).alloc (.cells #[.slice A' zs.length c'] 39)) (w.heap.size + 1) [.slice A' zs.length c'] := .one (by go_simp) (by go_simp) (by simp <;> omega)
  have HC := Lib.hid (c_l02Ok _ _ _ _ _ G T sv _ B0 (HH.out.new n0) hg ht)
  cases hs : setB G T
  · have E1 := Lib.hid (show ctL G T zs = [] by simp [ctL, vaB, hs])
    have E2 := Lib.hid (show ctC G T zs = 1 by simp [ctC, vaB, hs])
    rw [hs] at HC
    clear hs
    go_enter Try.func25, Try.ntmps25
    go_wp2_with (go_at_call 41; refine HC.out.mono ?_; rintro e w1 ⟨rfl, n1⟩)
    go_ret2
    rw [E1.out, E2.out]
    exact ⟨_, rfl, ⟨World.ownsRow_nil _ _ _ _, Nat.le_refl _, fun g hg => by cases hg⟩, n0.step n1⟩
  · rw [hs] at HC
    obtain ⟨i1, i2, i3, _⟩ := set_in hs
    have HO := Lib.hid (fun w1 (n1 : New _ w1) => c_l03Ok w.heap.size (w.heap.size + 1) _ _ (.slice A G.length c) (.slice A' zs.length c') B d T.length zs w1 (B0.new n1) (by omega) (B1.new n1) ((HR.out.new n0).new n1))
    cases ho : asmOk T.length zs
    · have E1 := Lib.hid (show ctL G T zs = [] by simp [ctL, vaB, ho])
      have E2 := Lib.hid (show ctC G T zs = 1 by simp [ctC, vaB, ho])
      rw [ho] at HO
      clear hs ho
      go_enter Try.func25, Try.ntmps25
      go_wp2_with (first | (go_at_call 41; refine HC.out.mono ?_; rintro e w1 ⟨rfl, n1⟩) | (go_at_call 42; refine (HO.out _ n1).mono ?_; rintro e w2 ⟨rfl, n2⟩))
      go_ret2
      rw [E1.out, E2.out]
      exact ⟨_, rfl, ⟨World.ownsRow_nil _ _ _ _, Nat.le_refl _, fun g hg => by cases hg⟩, (n0.step n1).step n2⟩
    · have E1 := Lib.hid (show ctL G T zs = tly T.length zs by simp [ctL, vaB, ho, hs])
      have E2 := Lib.hid (show ctC G T zs = 0 by simp [ctC, vaB, ho, hs])
      have HI := Lib.hid (fun k hk => asm_in ho (k := k) hk)
      have hz5 := asm_le ho
      rw [ho] at HO
      clear hs ho
      go_enter Try.func25, Try.ntmps25
      go_wp2_with (first | (go_at_call 41; refine HC.out.mono ?_; rintro e w1 ⟨rfl, n1⟩) | (go_at_call 42; refine (HO.out _ n1).mono ?_; rintro e w2 ⟨rfl, n2⟩; have n12 := n1.step n2; have ⟨⟨y0, y1⟩, _, yl⟩ := (B0.new n12).at2; have hz3 := (n0.step n12).size) | (at_make; refine wpList_make_full _ rfl _ _ 52 rfl w.heap.size 2 i0 (.int .i64 0) 1 Try.underlying52 hi0 hz0 hz1 .i64 .i64 T.length T.length T.length rfl rfl rfl rfl (by rw [hz2]; omega) (by unfold maxLen; omega) hz3 ?_; intro w3 hown hgrow))
      have n3 : New w2 w3 := (Below.refl _ _).grown hgrow (Nat.le_refl _) (fun k hk => by cases hk)
      have D0 := TlRow.start hown
      have N3 := (n0.step n12).step n3
      have HB1 := Lib.hid ((B1.new n12).new n3)
      have hgs := (hown.lt _ rfl).2
      have hl1 : w.heap.size + 1 < w2.heap.size := ((B1.new n12).lt)
      clear hown hgrow y0 y1 yl
      generalize hG0 : w2.heap.size = g0 at *
      go_loopw [7] (fun i wr => ∃ k : Nat, k ≤ zs.length ∧ i = .int .i64 k ∧ TlRow wr w.heap.size 2 g0 T.length (zs.take k) ∧ New w wr ∧ BoxV wr (w.heap.size + 1) [.slice A' zs.length c']) (fun i _ => zs.length - (intOf i).toNat)
      case atStart => exact ⟨0, Nat.zero_le _, rfl, by simpa using D0, N3, HB1.out⟩
      case round =>
        obtain ⟨k, hk, rfl, hD, hN, bx⟩ := hrel
        have ⟨x1, _, l1⟩ := bx.at1
        by_cases hlt : k < zs.length
        · obtain ⟨b, off, hAe⟩ := HA.out (by omega)
          subst hAe
          have p0 : (0 : Int) ≤ (k : Int) := by omega
          have p1 : (k : Int) < (zs.length : Int) := by omega
          obtain ⟨⟨u0, u1, u2⟩, bw0⟩ := rd_pl HR.out hN rfl hlt
          obtain ⟨t, et, htn⟩ := HI.out k hlt
          have ht0 : (t : Int) < (T.length : Int) := by omega
          rw [et] at u2
          have hc := hD.cell htn
          have hf := hD.frozenAt t
          have hb1 := tly_bd (zs := zs.take k) (t : Int)
          have hb2 : ((zs.take k).length : Int) ≤ 500 := by rw [List.length_take]; omega
          have hq0 : (0 : Int) ≤ ((((zs.take k).filter fun p => decide (p.2 = (t : Int))).length : Nat) : Int) := Int.natCast_nonneg _
          have HP := Lib.hid (show TlRow _ _ _ _ _ (zs.take (k + 1)) from (List.take_succ_eq_append_getElem hlt) ▸ hD.put et htn)
          have HN := Lib.hid (hN.setCell (p := ⟨g0, t, none⟩) (by simp; omega) (.int .i64 ((((zs.take k).filter fun p => decide (p.2 = (t : Int))).length : Int) + 1)))
          have HX := Lib.hid (bx.off (p := ⟨g0, t, none⟩) (by simp; omega) (.int .i64 ((((zs.take k).filter fun p => decide (p.2 = (t : Int))).length : Int) + 1)))
          generalize ((((zs.take k).filter fun p => decide (p.2 = (t : Int))).length : Nat) : Int) = q at *
          clear et hD
          go_wp2
          go_roundw
          case rel => exact ⟨k + 1, by omega, by go_num, HP.out, HN.out, HX.out⟩
          case measure => simp [intOf]; omega
        · have hk' : k = zs.length := by omega
          subst hk'
          go_wp2
          go_ret2
          rw [E1.out, E2.out, tly_len]
          rw [List.take_length] at hD
          exact ⟨_, rfl, Own.of hD, hN⟩
set_option maxHeartbeats 4000000 in
theorem c_implCountTiles (lo hi lo' hi' : Nat) (gv tv v : Value) (G : List (ByteArray × Int)) (T : List (ByteArray × List Int)) (sv : List Value) (zs : List ((Int × Int) × Int)) (w : World) (h : RdS w lo hi gv tv G T sv) (hg : ∀ g ∈ G, g.1.size ≤ maxLen) (ht : ∀ t ∈ T, t.1.size ≤ maxLen) (hz : Rd w lo' hi' 3 v zs.length (zs.flatMap plCells)) :
    Calls Try.prog 26 #[.agg #[gv, tv], .agg #[v]] w (GivesRowCode w 2 1 (ctL G T zs).length ((ctL G T zs).map (Value.int .i64)) (ctC G T zs)) := by
  obtain ⟨i0, hi0, hz0, hz1, hz2⟩ := info_parts info_int64
  obtain ⟨A, c, B, d, rfl, rfl⟩ := h.form
  have HR := Lib.hid hz
  obtain ⟨_, hm, _, A', c', rfl, hrd⟩ := hz
  have ha : 0 < zs.length → ∃ b off, A' = some ⟨b, off, none⟩ := fun h => by obtain ⟨b, off, e, _⟩ := hrd h; exact ⟨b, off, e⟩
  have HA := Lib.hid ha
  have HH := Lib.hid h
  clear h hrd ha
  have n0 : New w ((w.alloc (.cells #[.slice A G.length c, .slice B T.length d] 36)).alloc (.cells #[.slice A' zs.length c'] 39)) := ((New.same w).box _).box _
  have B0 : BoxV ((w.alloc (.cells #[.slice A G.length c, .slice B T.length d] 36)).alloc (.cells #[.slice A' zs.length c'] 39)) w.heap.size [.slice A G.length c, .slice B T.length d] := .two (by go_simp) (by go_simp) (by go_simp) (by go_simp) (by simp <;> omega)
  have B1 : BoxV ((w.alloc (.cells #[.slice A G.length c, .slice B T.length d] 36)).alloc (.cells #[.slice A' zs.length c'] 39)) (w.heap.size + 1) [.slice A' zs.length c'] := .one (by go_simp) (by go_simp) (by simp <;> omega)
  have HC := Lib.hid (c_implValidAssembly _ _ _ _ _ _ _ G T sv zs _ (HH.out.new n0) hg ht (HR.out.new n0))
  cases hs : vaB G T zs
  · have E1 := Lib.hid (show ctL G T zs = [] by simp [ctL, hs])
    have E2 := Lib.hid (show ctC G T zs = 1 by simp [ctC, hs])
    rw [hs] at HC
    clear hs
    go_enter Try.func26, Try.ntmps26
    go_wp2_with (go_at_call 18; refine HC.out.mono ?_; rintro e w1 ⟨rfl, n1⟩)
    go_ret2
    rw [E1.out, E2.out]
    exact ⟨_, rfl, ⟨World.ownsRow_nil _ _ _ _, Nat.le_refl _, fun g hg => by cases hg⟩, n0.step n1⟩
  · rw [hs] at HC
    have hv := hs
    unfold vaB at hv
    rw [Bool.and_eq_true] at hv
    obtain ⟨i1, i2, i3, _⟩ := set_in hv.1
    · have E1 := Lib.hid (show ctL G T zs = tly T.length zs by simp [ctL, hs])
      have E2 := Lib.hid (show ctC G T zs = 0 by simp [ctC, hs])
      have HI := Lib.hid (fun k hk => asm_in hv.2 (k := k) hk)
      have hz5 := asm_le hv.2
      clear hs hv
      go_enter Try.func26, Try.ntmps26
      go_wp2_with (first | (go_at_call 18; refine HC.out.mono ?_; rintro e w2 ⟨rfl, n12⟩; have ⟨⟨y0, y1⟩, _, yl⟩ := (B0.new n12).at2; have hz3 := (n0.step n12).size; have ⟨x7, _, l7⟩ := (B1.new n12).at1) | (at_make; refine wpList_make_full _ rfl _ _ 52 rfl w.heap.size 2 i0 (.int .i64 0) 1 Try.underlying52 hi0 hz0 hz1 .i64 .i64 T.length T.length T.length rfl rfl rfl rfl (by rw [hz2]; omega) (by unfold maxLen; omega) hz3 ?_; intro w3 hown hgrow; have n3 : New w2 w3 := (Below.refl _ _).grown hgrow (Nat.le_refl _) (fun k hk => by cases hk); clear x7; have ⟨x7, _, l8⟩ := ((B1.new n12).new n3).at1))
      have D0 := TlRow.start hown
      have N3 := (n0.step n12).step n3
      have HB1 := Lib.hid ((B1.new n12).new n3)
      have hgs := (hown.lt _ rfl).2
      have hl1 : w.heap.size + 1 < w2.heap.size := ((B1.new n12).lt)
      clear hown hgrow y0 y1 yl x7 l7 l8
      generalize hG0 : w2.heap.size = g0 at *
      go_loopw [20] (fun i wr => ∃ k : Nat, k ≤ zs.length ∧ i = .int .i64 k ∧ TlRow wr w.heap.size 2 g0 T.length (zs.take k) ∧ New w wr ∧ BoxV wr (w.heap.size + 1) [.slice A' zs.length c']) (fun i _ => zs.length - (intOf i).toNat)
      case atStart => exact ⟨0, Nat.zero_le _, rfl, by simpa using D0, N3, HB1.out⟩
      case round =>
        obtain ⟨k, hk, rfl, hD, hN, bx⟩ := hrel
        have ⟨x1, _, l1⟩ := bx.at1
        by_cases hlt : k < zs.length
        · obtain ⟨b, off, hAe⟩ := HA.out (by omega)
          subst hAe
          have p0 : (0 : Int) ≤ (k : Int) := by omega
          have p1 : (k : Int) < (zs.length : Int) := by omega
          obtain ⟨⟨u0, u1, u2⟩, bw0⟩ := rd_pl HR.out hN rfl hlt
          obtain ⟨t, et, htn⟩ := HI.out k hlt
          have ht0 : (t : Int) < (T.length : Int) := by omega
          rw [et] at u2
          have hc := hD.cell htn
          have hgw := hD.lt _ rfl
          have hf := hD.frozenAt t
          have hb1 := tly_bd (zs := zs.take k) (t : Int)
          have hb2 : ((zs.take k).length : Int) ≤ 500 := by rw [List.length_take]; omega
          have hq0 : (0 : Int) ≤ ((((zs.take k).filter fun p => decide (p.2 = (t : Int))).length : Nat) : Int) := Int.natCast_nonneg _
          have HP := Lib.hid (show TlRow _ _ _ _ _ (zs.take (k + 1)) from (List.take_succ_eq_append_getElem hlt) ▸ hD.put et htn)
          have HN := Lib.hid (hN.setCell (p := ⟨g0, t, none⟩) (by simp; omega) (.int .i64 ((((zs.take k).filter fun p => decide (p.2 = (t : Int))).length : Int) + 1)))
          have HX := Lib.hid (bx.off (p := ⟨g0, t, none⟩) (by simp; omega) (.int .i64 ((((zs.take k).filter fun p => decide (p.2 = (t : Int))).length : Int) + 1)))
          generalize ((((zs.take k).filter fun p => decide (p.2 = (t : Int))).length : Nat) : Int) = q at *
          clear et hD
          go_wp2
          go_roundw
          case rel => exact ⟨k + 1, by omega, by go_num, HP.out.new ((New.same _).box _), New.box HN.out _, HX.out.new ((New.same _).box _)⟩
          case measure => simp [intOf]; omega
        · have hk' : k = zs.length := by omega
          subst hk'
          go_wp2
          go_ret2
          rw [E1.out, E2.out, tly_len]
          rw [List.take_length] at hD
          exact ⟨_, rfl, Own.of hD, hN⟩
end Go.Proofs.Ytcikfognbjbniaa
