/- Contracts of the laws' own helpers on sets: copying, counting, comparing. -/
import Derived.Test.YtcbifdfcllaaaaaGreatDoorTile
namespace Go.Proofs.YtcbifdfcllaaaaaGreatDoor
open Go.RowKit Go.Deep
set_option linter.unusedVariables false
set_option linter.unusedSimpArgs false

/-- a set that the call owns -/
structure OwnS (w : World) (lo hi : Nat) (gv tv : Value) (G : List (ByteArray × Int)) (T : List (ByteArray × List Int)) (sv : List Value) : Prop where
  mid : ∃ m, lo ≤ m ∧ Own w lo m 72 2 gv G.length (G.flatMap glC) ∧ OwnN tlM Prod.snd 2 76 2 w m hi tv T sv
/-- a set that is read -/
structure RdS (w : World) (lo hi : Nat) (gv tv : Value) (G : List (ByteArray × Int)) (T : List (ByteArray × List Int)) (sv : List Value) : Prop where
  glues : RdG w lo hi gv G
  tiles : RdT w lo hi tv T sv
section
variable {w w' : World} {lo hi lo' hi' : Nat} {gv tv : Value} {G : List (ByteArray × Int)} {T : List (ByteArray × List Int)} {sv : List Value}
theorem RdS.new (h : RdS w lo hi gv tv G T sv) (n : New w w') : RdS w' lo hi gv tv G T sv := ⟨h.glues.new n, h.tiles.new n⟩
theorem RdS.fr (h : RdS w lo hi gv tv G T sv) (f : Fr lo' hi' w w') (ho : hi ≤ lo' ∨ hi' ≤ lo) : RdS w' lo hi gv tv G T sv := ⟨h.glues.fr f ho, h.tiles.fr f ho⟩
theorem RdS.wide (h : RdS w lo hi gv tv G T sv) (h1 : lo' ≤ lo) (h2 : hi ≤ hi') (h3 : hi' ≤ w.heap.size) : RdS w lo' hi' gv tv G T sv := ⟨h.glues.wide h1 h2 h3, h.tiles.wide h1 h2 h3⟩
theorem OwnS.new (h : OwnS w lo hi gv tv G T sv) (n : New w w') : OwnS w' lo hi gv tv G T sv := by
  obtain ⟨m, a, b, c⟩ := h
  exact ⟨m, a, b.new n, c.new n⟩
theorem OwnS.fr (h : OwnS w lo hi gv tv G T sv) (f : Fr lo' hi' w w') (ho : hi ≤ lo' ∨ hi' ≤ lo) : OwnS w' lo hi gv tv G T sv := by
  obtain ⟨m, a, b, c⟩ := h
  have := c.bounds
  exact ⟨m, a, b.fr f (by omega), c.fr f (by omega)⟩
theorem OwnS.wide (h : OwnS w lo hi gv tv G T sv) (h1 : lo' ≤ lo) (h2 : hi ≤ hi') (h3 : hi' ≤ w.heap.size) : OwnS w lo' hi' gv tv G T sv := by
  obtain ⟨m, a, b, c⟩ := h
  exact ⟨m, Nat.le_trans h1 a, b.wide h1 (Nat.le_refl _) b.2.1, c.wide (Nat.le_refl _) h2 h3⟩
theorem OwnS.rd (h : OwnS w lo hi gv tv G T sv) : RdS w lo hi gv tv G T sv := by
  obtain ⟨m, a, b, c⟩ := h
  have := c.bounds
  exact ⟨b.rd.wide (Nat.le_refl _) this.1 this.2, c.rd.wide a (Nat.le_refl _) this.2⟩
theorem OwnS.bounds (h : OwnS w lo hi gv tv G T sv) : lo ≤ hi ∧ hi ≤ w.heap.size := by
  obtain ⟨m, a, b, c⟩ := h
  have := c.bounds
  omega
theorem RdS.form (h : RdS w lo hi gv tv G T sv) : ∃ A c B d, gv = .slice A G.length c ∧ tv = .slice B T.length d := by
  obtain ⟨A, c, e, _⟩ := rd_form h.glues
  obtain ⟨B, d, e', _⟩ := rd_form h.tiles.outer
  exact ⟨A, c, B, d, e, e'⟩
end

set_option maxHeartbeats 1000000 in
theorem c_szTileSet (lo hi : Nat) (gv tv : Value) (G : List (ByteArray × Int)) (T : List (ByteArray × List Int)) (sv : List Value) (l : Int) (w : World) (h : RdS w lo hi gv tv G T sv) (hg : ∀ g ∈ G, g.1.size ≤ maxLen) (ht : ∀ t ∈ T, t.1.size ≤ maxLen) (h0 : 0 ≤ l) (h1 : l ≤ 1048576) :
    Calls Tryz.prog 4 #[.agg #[gv, tv], .int .i64 l] w fun e w' => e = .returned (.int .i64 (szS l G T)) ∧ New w w' := by
  obtain ⟨A, c, B, d, rfl, rfl⟩ := h.form
  have n0 : New w (w.alloc (.cells #[.slice A G.length c, .slice B T.length d] 25)) := (New.same w).box _
  have B0 : BoxV (w.alloc (.cells #[.slice A G.length c, .slice B T.length d] 25)) w.heap.size [.slice A G.length c, .slice B T.length d] := .two (by go_simp) (by go_simp) (by go_simp) (by go_simp) (by simp)
  have HH := Lib.hid h
  by_cases hs : szR szG1 l G < 0
  · have E := Lib.hid (show szS l G T = -1 from if_pos hs)
    go_enter Tryz.func4, Tryz.ntmps4
    go_wp2_with fail
    generalize (w.alloc (.cells #[.slice A G.length c, .slice B T.length d] 25)) = W0 at *
    refine (c_szGlueS lo hi _ G l _ (HH.out.glues.new n0) hg h0 h1).mono ?_
    rintro e w1 ⟨rfl, n1⟩
    go_wp2
    go_ret
    exact ⟨ret_int E.out.symm, n0.step n1⟩
  · have E := Lib.hid (show szS l G T = szR szT1 (szR szG1 l G) T from if_neg hs)
    have hb := szR_le szG1 szG1_le G l (by omega)
    have hb1 := hb.1
    by_cases hq : szR szT1 (szR szG1 l G) T < 0
    · have hm : szR szT1 (szR szG1 l G) T = -1 := by rw [← E.out]; exact szS_lo l G T (by rw [E.out]; exact hq)
      have E2 := Lib.hid (E.out.trans hm)
      clear hm hb
      go_enter Tryz.func4, Tryz.ntmps4
      go_wp2_with fail
      generalize (w.alloc (.cells #[.slice A G.length c, .slice B T.length d] 25)) = W0 at *
      refine (c_szGlueS lo hi _ G l _ (HH.out.glues.new n0) hg h0 h1).mono ?_
      rintro e w1 ⟨rfl, n1⟩
      obtain ⟨⟨c1, d1⟩, _, z1⟩ := (B0.new n1).at2
      go_wp2_with fail
      refine (c_szTileS lo hi _ T sv _ _ ((HH.out.tiles.new n0).new n1) ht (by omega) (by omega)).mono ?_
      rintro e w2 ⟨rfl, n2⟩
      go_wp2
      go_ret
      exact ⟨ret_int E2.out.symm, (n0.step n1).step n2⟩
    · clear hb
      go_enter Tryz.func4, Tryz.ntmps4
      go_wp2_with fail
      generalize (w.alloc (.cells #[.slice A G.length c, .slice B T.length d] 25)) = W0 at *
      refine (c_szGlueS lo hi _ G l _ (HH.out.glues.new n0) hg h0 h1).mono ?_
      rintro e w1 ⟨rfl, n1⟩
      obtain ⟨⟨c1, d1⟩, _, z1⟩ := (B0.new n1).at2
      go_wp2_with fail
      refine (c_szTileS lo hi _ T sv _ _ ((HH.out.tiles.new n0).new n1) ht (by omega) (by omega)).mono ?_
      rintro e w2 ⟨rfl, n2⟩
      go_wp2
      go_ret
      exact ⟨ret_int E.out.symm, (n0.step n1).step n2⟩

/-- A call hands back a set in new memory. -/
def GivesSet (w : World) (G : List (ByteArray × Int)) (T : List (ByteArray × List Int)) (E : Ending) (w' : World) : Prop :=
  ∃ gv tv sv, E = .returned (.agg #[gv, tv]) ∧ OwnS w' w.heap.size w'.heap.size gv tv G T sv ∧ New w w'

set_option maxHeartbeats 2000000 in
theorem c_toTileSet (lo hi : Nat) (gv tv : Value) (G : List (ByteArray × Int)) (T : List (ByteArray × List Int)) (sv : List Value) (w : World) (h : RdS w lo hi gv tv G T sv) (hn : G.length ≤ 1048576) (hn' : T.length ≤ 1048576) (hs : ∀ t ∈ T, t.2.length ≤ 1048576) :
    Calls Tryz.prog 6 #[.agg #[gv, tv]] w (GivesSet w G T) := by
  obtain ⟨A, c, B, d, rfl, rfl⟩ := h.form
  have HH := Lib.hid h
  clear h
  have n0 : New w (((w.alloc (.cells #[.slice A G.length c, .slice B T.length d] 25)).alloc (.cells #[.slice none 0 0, .slice none 0 0] 35)).alloc (.cells #[.slice none 0 0, .slice none 0 0] 35)) := (((New.same w).box _).box _).box _
  have B0 : BoxV (((w.alloc (.cells #[.slice A G.length c, .slice B T.length d] 25)).alloc (.cells #[.slice none 0 0, .slice none 0 0] 35)).alloc (.cells #[.slice none 0 0, .slice none 0 0] 35)) w.heap.size [.slice A G.length c, .slice B T.length d] := .two (by go_simp) (by go_simp) (by go_simp) (by go_simp) (by simp; omega)
  have B1 : BoxV (((w.alloc (.cells #[.slice A G.length c, .slice B T.length d] 25)).alloc (.cells #[.slice none 0 0, .slice none 0 0] 35)).alloc (.cells #[.slice none 0 0, .slice none 0 0] 35)) (w.heap.size + 1) [.slice none 0 0, .slice none 0 0] := .two (by go_simp) (by go_simp) (by go_simp) (by go_simp) (by simp)
  have B2 : BoxV (((w.alloc (.cells #[.slice A G.length c, .slice B T.length d] 25)).alloc (.cells #[.slice none 0 0, .slice none 0 0] 35)).alloc (.cells #[.slice none 0 0, .slice none 0 0] 35)) (w.heap.size + 2) [.slice none 0 0, .slice none 0 0] := .two (by go_simp) (by go_simp) (by go_simp) (by go_simp) (by simp)
  have z3 : w.heap.size + 3 ≤ (((w.alloc (.cells #[.slice A G.length c, .slice B T.length d] 25)).alloc (.cells #[.slice none 0 0, .slice none 0 0] 35)).alloc (.cells #[.slice none 0 0, .slice none 0 0] 35)).heap.size := by simp
  go_enter Tryz.func6, Tryz.ntmps6
  go_wp2_with fail
  generalize (((w.alloc (.cells #[.slice A G.length c, .slice B T.length d] 25)).alloc (.cells #[.slice none 0 0, .slice none 0 0] 35)).alloc (.cells #[.slice none 0 0, .slice none 0 0] 35)) = W0 at *
  refine (c_toGlueS lo hi _ G _ (HH.out.glues.new n0) hn).mono ?_
  rintro e w1 ⟨gu, rfl, hO, n1⟩
  have hS := n1.size
  obtain ⟨_, _, _, A1, c1, rfl, _⟩ := hO.rd
  have F1 := (Fr.refl (w.heap.size + 2) (w.heap.size + 3) w1).setCell (p := ⟨w.heap.size + 1 + 1, 0, none⟩) (by simp) (by simp <;> omega) (.slice A1 G.length c1)
  have hO1 := hO.fr F1 (.inr (by omega))
  have N1 := (n0.step n1).fr F1 (by omega)
  have C0 := (B0.new n1).fr F1 (.inl (by omega))
  have C1 := (B1.new n1).fr F1 (.inl (by omega))
  have C2 : BoxV (w1.setCell ⟨w.heap.size + 1 + 1, 0, none⟩ (.slice A1 G.length c1)) (w.heap.size + 1 + 1) [.slice A1 G.length c1, .slice none 0 0] := (B2.new n1).put0 _
  have hz1 := F1.size
  obtain ⟨⟨x2, y2⟩, ⟨f2, g2⟩, l2⟩ := (B2.new n1).at2
  obtain ⟨⟨x0, y0⟩, _, l0⟩ := (B0.new n1).at2
  clear F1 hO B0 B1 B2
  go_wp2_with fail
  clear x2 y2 f2 g2 l2 x0 y0 l0
  generalize (w1.setCell ⟨w.heap.size + 1 + 1, 0, none⟩ (.slice A1 G.length c1)) = W1 at *
  refine (c_toTileS lo hi _ T sv _ (HH.out.tiles.new N1) hn' hs).mono ?_
  rintro e w2 ⟨tu, sv', rfl, hT, n2⟩
  obtain ⟨B1, d1, rfl, _⟩ := rd_form hT.rd.outer
  obtain ⟨⟨x1, y1⟩, ⟨f1, g1⟩, l1⟩ := (C1.new n2).at2
  obtain ⟨⟨x2, y2⟩, ⟨f2, g2⟩, l2⟩ := (C2.new n2).at2
  have hs2 := n2.size
  have NN := Lib.hid (N1.step n2)
  have HT := Lib.hid hT
  have HO := Lib.hid (hO1.new n2)
  clear hT hO1 C0 C1 C2 N1 n2 n1 n0
  go_wp2
  refine bodyPost_ret (v := .agg #[.slice A1 G.length c1, .slice B1 T.length d1]) (by simp [results, Tryz.results6, go_sem, x1, y1, x2, y2]) rfl ?_
  have F := (((Fr.refl w.heap.size (w.heap.size + 3) w2).setCell (p := ⟨w.heap.size + 1 + 1, 1, none⟩) (by simp; omega) (by simp) (.slice B1 T.length d1)).setCell (p := ⟨w.heap.size + 1, 0, none⟩) (by simp) (by simp) (.slice A1 G.length c1)).setCell (p := ⟨w.heap.size + 1, 1, none⟩) (by simp) (by simp) (.slice B1 T.length d1)
  have hb := HT.out.bounds
  have hf := F.size
  exact ⟨_, _, _, rfl, ⟨W1.heap.size, by omega, (HO.out.fr F (.inr (by omega))).wide (by omega) (by omega) (by omega), (HT.out.fr F (.inr (by omega))).wide (Nat.le_refl _) hf (Nat.le_refl _)⟩, NN.out.fr F (Nat.le_refl _)⟩

set_option maxHeartbeats 1000000 in
theorem c_eqTileSet (lo hi lo' hi' : Nat) (gv tv gu tu : Value) (G G' : List (ByteArray × Int)) (T T' : List (ByteArray × List Int)) (sv sv' : List Value) (w : World) (h : RdS w lo hi gv tv G T sv) (h' : RdS w lo' hi' gu tu G' T' sv') :
    Calls Tryz.prog 9 #[.agg #[gv, tv], .agg #[gu, tu]] w fun e w' => e = .returned (.bool (eqL G G' && eqL T T')) ∧ New w w' := by
  obtain ⟨A, c, B, d, rfl, rfl⟩ := h.form
  obtain ⟨A', c', B', d', rfl, rfl⟩ := h'.form
  have HH := Lib.hid h
  have HK := Lib.hid h'
  clear h h'
  have n0 : New w ((w.alloc (.cells #[.slice A G.length c, .slice B T.length d] 35)).alloc (.cells #[.slice A' G'.length c', .slice B' T'.length d'] 35)) := ((New.same w).box _).box _
  have B0 : BoxV ((w.alloc (.cells #[.slice A G.length c, .slice B T.length d] 35)).alloc (.cells #[.slice A' G'.length c', .slice B' T'.length d'] 35)) w.heap.size [.slice A G.length c, .slice B T.length d] := .two (by go_simp) (by go_simp) (by go_simp) (by go_simp) (by simp; omega)
  have B1 : BoxV ((w.alloc (.cells #[.slice A G.length c, .slice B T.length d] 35)).alloc (.cells #[.slice A' G'.length c', .slice B' T'.length d'] 35)) (w.heap.size + 1) [.slice A' G'.length c', .slice B' T'.length d'] := .two (by go_simp) (by go_simp) (by go_simp) (by go_simp) (by simp)
  cases hg : eqL G G'
  · have HG := Lib.hid hg
    clear hg
    go_enter Tryz.func9, Tryz.ntmps9
    go_wp2_with fail
    generalize ((w.alloc (.cells #[.slice A G.length c, .slice B T.length d] 35)).alloc (.cells #[.slice A' G'.length c', .slice B' T'.length d'] 35)) = W0 at *
    refine (c_eqGlueS _ _ _ _ _ _ G G' _ (HH.out.glues.new n0) (HK.out.glues.new n0)).mono ?_
    rintro e w1 ⟨rfl, n1⟩
    rw [HG.out]
    go_wp2
    go_ret
    exact ⟨rfl, n0.step n1⟩
  · have HG := Lib.hid hg
    clear hg
    cases ht : eqL T T'
    all_goals
      have HT := Lib.hid ht
      clear ht
      go_enter Tryz.func9, Tryz.ntmps9
      go_wp2_with fail
      generalize ((w.alloc (.cells #[.slice A G.length c, .slice B T.length d] 35)).alloc (.cells #[.slice A' G'.length c', .slice B' T'.length d'] 35)) = W0 at *
      refine (c_eqGlueS _ _ _ _ _ _ G G' _ (HH.out.glues.new n0) (HK.out.glues.new n0)).mono ?_
      rintro e w1 ⟨rfl, n1⟩
      rw [HG.out]
      obtain ⟨⟨x0, y0⟩, _, l0⟩ := (B0.new n1).at2
      obtain ⟨⟨x1, y1⟩, _, l1⟩ := (B1.new n1).at2
      go_wp2_with fail
      refine (c_eqTileS _ _ _ _ _ _ T T' _ sv sv' (HH.out.tiles.new (n0.step n1)) (HK.out.tiles.new (n0.step n1))).mono ?_
      rintro e w2 ⟨rfl, n2⟩
      rw [HT.out]
      go_wp2
      go_ret
      exact ⟨rfl, (n0.step n1).step n2⟩
theorem c_eqTileSet_self (lo hi lo' hi' : Nat) (gv tv gu tu : Value) (G : List (ByteArray × Int)) (T : List (ByteArray × List Int)) (sv sv' : List Value) (w : World) (h : RdS w lo hi gv tv G T sv) (h' : RdS w lo' hi' gu tu G T sv') :
    Calls Tryz.prog 9 #[.agg #[gv, tv], .agg #[gu, tu]] w fun e w' => e = .returned (.bool true) ∧ New w w' := by
  have := c_eqTileSet lo hi lo' hi' gv tv gu tu G G T T sv sv' w h h'
  rw [eqL_self, eqL_self] at this
  exact this

end Go.Proofs.YtcbifdfcllaaaaaGreatDoor
