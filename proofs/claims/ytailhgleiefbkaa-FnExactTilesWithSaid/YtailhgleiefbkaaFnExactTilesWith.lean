/- The law FnExactTilesWith returns true for every input that can be read as data. No condition. -/
import Derived.Test.YtailhgleiefbkaaSetFn3
import Derived.Test.YtailhgleiefbkaaMarkSet
namespace Go.Proofs.Ytailhgleiefbkaa
open Go.ChangeShapes Go.WideShapes Go.ChangeAt Go.RowKit
open Go.ChangeMaps (open_string)
namespace fnExactTilesWith
set_option linter.unusedVariables false
set_option maxRecDepth 100000 in
set_option maxHeartbeats 4000000 in
theorem walk (w : World) (gv0 tv0 : Value) (G0 : List (ByteArray × Int)) (T0 : List (ByteArray × List Int)) (sv0 : List Value) (r0 : RdS w 0 w.heap.size gv0 tv0 G0 T0 sv0) (hg0 : ∀ g ∈ G0, g.1.size ≤ maxLen) (ht0 : ∀ t ∈ T0, t.1.size ≤ maxLen) (a1 : Int) (b1 : -9223372036854775808 ≤ a1 ∧ a1 ≤ 9223372036854775807) (a2 : Int) (b2 : -9223372036854775808 ≤ a2 ∧ a2 ≤ 9223372036854775807) : Calls Try.prog 10 #[.agg #[gv0, tv0], .int .i64 a1, .int .i64 a2] w fun e w' => e = .returned (.bool true) ∧ New w w' := by
  have R0 := r0
  obtain ⟨A0, c0, B0, d0, rfl, rfl⟩ := r0.form
  have N : New w (w.alloc (.cells #[.slice A0 G0.length c0, .slice B0 T0.length d0] 25)) := ((New.same w).box _)
  have P0 : BoxV (w.alloc (.cells #[.slice A0 G0.length c0, .slice B0 T0.length d0] 25)) (w.heap.size) [.slice A0 G0.length c0, .slice B0 T0.length d0] := .two (by go_simp) (by go_simp) (by go_simp) (by go_simp) (by simp <;> omega)
  obtain ⟨L0, E0⟩ : ∃ L, szS (1048576) G0 T0 = L := ⟨_, rfl⟩
  by_cases hz0 : 0 ≤ L0
  · have ⟨hb0, hG0, hT0, hS0⟩ := szS_le (by rw [E0]; exact hz0 : 0 ≤ szS (1048576) G0 T0)
    rw [E0] at hb0
    have hs0 : ∀ t ∈ T0, t.2.length ≤ 1048576 := fun t ht => by have := hS0 t ht; omega
    clear hS0
    obtain ⟨X, hX⟩ : ∃ X, twL G0 T0 a1 a2 = X := ⟨_, rfl⟩
    obtain ⟨Y, hY⟩ : ∃ Y, twC G0 T0 a1 a2 = Y := ⟨_, rfl⟩
    have hXl : X.length ≤ 160 := by rw [← hX]; exact twL_len _ _ _ _
    have hcn := cntT_le hs0
    obtain ⟨Z, hZ⟩ : ∃ Z : Nat, 1 + 2 * G0.length + cntT T0 = Z := ⟨_, rfl⟩
    have hz1 : decide ((Z : Int) < 0) = false := by simp
    have eL := eqL_self X
    have eY : (Y != Y) = false := by simp
    go_enter Try.func10, Try.ntmps10
    go_wp2_with fail
    have q0 : w.heap.size + 1 ≤ (w.alloc (.cells #[.slice A0 G0.length c0, .slice B0 T0.length d0] 25)).heap.size := by simp
    generalize (w.alloc (.cells #[.slice A0 G0.length c0, .slice B0 T0.length d0] 25)) = W0 at *
    replace R0 := R0.new N
    refine (c_szTileSet _ _ _ _ G0 T0 _ (1048576) _ R0 hg0 ht0 (by omega) (by omega)).mono ?_
    rintro e w1 ⟨rfl, n1⟩
    have q1 := n1.size
    replace N := N.step n1
    replace R0 := R0.new n1
    replace P0 := P0.new n1
    rw [E0]
    have ⟨⟨c_P0, d_P0⟩, _, l_P0⟩ := P0.at2
    go_wp2_with fail
    clear c_P0 d_P0 l_P0
    refine (c_toTileSet _ _ _ _ G0 T0 _ _ R0 (by omega) (by omega) hs0).mono ?_
    rintro e w2 ⟨g2, t2, s2, rfl, xa, n2⟩
    have q2 := n2.size
    replace N := N.step n2
    replace R0 := R0.new n2
    replace P0 := P0.new n2
    obtain ⟨A_xa, c_xa_, K_xa, d_xa_, hva, hvb⟩ := xa.rd.form
    subst hva hvb
    have ⟨⟨c_P0, d_P0⟩, _, l_P0⟩ := P0.at2
    go_wp2_with fail
    clear c_P0 d_P0 l_P0
    refine (c_specTilesWith _ _ _ _ G0 T0 _ a1 a2 _ xa.rd hg0 ht0).mono ?_
    rintro e w3 ⟨v3, rfl, ws, n3⟩
    have q3 := n3.size
    replace N := N.step n3
    replace R0 := R0.new n3
    replace xa := xa.new n3
    replace P0 := P0.new n3
    rw [hX] at ws
    rw [hY]
    have ⟨⟨c_P0, d_P0⟩, _, l_P0⟩ := P0.at2
    go_wp2_with fail
    clear c_P0 d_P0 l_P0
    refine (c_toTileSet _ _ _ _ G0 T0 _ _ R0 (by omega) (by omega) hs0).mono ?_
    rintro e w4 ⟨g4, t4, s4, rfl, xb, n4⟩
    have q4 := n4.size
    replace N := N.step n4
    replace R0 := R0.new n4
    replace ws := ws.new n4
    replace P0 := P0.new n4
    obtain ⟨A_xb, c_xb_, K_xb, d_xb_, hva, hvb⟩ := xb.rd.form
    subst hva hvb
    have m4 : New w4 (w4.alloc (.cells #[.slice A_xb G0.length c_xb_, .slice K_xb T0.length d_xb_] 31)) := (New.same _).box _
    have B_xb : BoxV (w4.alloc (.cells #[.slice A_xb G0.length c_xb_, .slice K_xb T0.length d_xb_] 31)) w4.heap.size [.slice A_xb G0.length c_xb_, .slice K_xb T0.length d_xb_] := .two (by go_simp) (by go_simp) (by go_simp) (by go_simp) (by simp)
    have ⟨⟨c_P0, d_P0⟩, _, l_P0⟩ := P0.at2
    go_wp2_with fail
    clear c_P0 d_P0 l_P0
    have q5 := m4.size
    have qb5 : w4.heap.size < (w4.alloc (.cells #[.slice A_xb G0.length c_xb_, .slice K_xb T0.length d_xb_] 31)).heap.size := by simp
    replace N := N.step m4
    replace R0 := R0.new m4
    replace ws := ws.new m4
    replace xb := xb.new m4
    replace P0 := P0.new m4
    generalize (w4.alloc (.cells #[.slice A_xb G0.length c_xb_, .slice K_xb T0.length d_xb_] 31)) = w5 at *
    refine (c_implTilesWith _ _ _ _ G0 T0 _ a1 a2 _ xb.rd hg0 ht0).mono ?_
    rintro e w6 ⟨v6, rfl, gs, n6⟩
    have q6 := n6.size
    replace N := N.step n6
    replace R0 := R0.new n6
    replace ws := ws.new n6
    replace xb := xb.new n6
    replace P0 := P0.new n6
    replace B_xb := B_xb.new n6
    rw [hX] at gs
    rw [hY]
    have ⟨⟨c_P0, d_P0⟩, _, l_P0⟩ := P0.at2
    have ⟨⟨c_B_xb, d_B_xb⟩, _, l_B_xb⟩ := B_xb.at2
    go_wp2_with fail
    clear c_P0 d_P0 l_P0 c_B_xb d_B_xb l_B_xb
    refine (c_eqInt64S _ _ _ _ _ _ X X _ gs.rd ws.rd).mono ?_
    rintro e w7 ⟨rfl, n7⟩
    have q7 := n7.size
    replace N := N.step n7
    replace R0 := R0.new n7
    replace ws := ws.new n7
    replace xb := xb.new n7
    replace gs := gs.new n7
    replace P0 := P0.new n7
    replace B_xb := B_xb.new n7
    have ⟨⟨c_P0, d_P0⟩, _, l_P0⟩ := P0.at2
    have ⟨⟨c_B_xb, d_B_xb⟩, _, l_B_xb⟩ := B_xb.at2
    go_upto_region 10 with fail
    clear c_P0 d_P0 l_P0 c_B_xb d_B_xb l_B_xb
    have TT8 := Lib.hid (fun (wx : World) (nx : New w7 wx) => c_toTileSet _ _ _ _ G0 T0 _ wx (R0.new nx) (by omega) (by omega) hs0)
    have XX8 := Lib.hid xb
    go_region_held3 (fun w' => w'.cell? ⟨w4.heap.size, 0, none⟩ = some (.slice A_xb G0.length c_xb_) ∧ w'.cell? ⟨w4.heap.size, 1, none⟩ = some (.slice K_xb T0.length d_xb_) ∧ w'.cell? ⟨w.heap.size, 0, none⟩ = some (.slice A0 G0.length c0) ∧ w'.cell? ⟨w.heap.size, 1, none⟩ = some (.slice B0 T0.length d0))
      (exact keepV2 (w1 := w7) (by (repeat' (first | (with_reducible exact New.same _) | (with_reducible assumption) | (with_reducible refine New.box ?_ _) | (with_reducible refine New.drew_ ?_) | (with_reducible refine New.set ?_ ?_ _ _) | (with_reducible refine New.step ?_ (by assumption))))) B_xb P0)
      (first | (go_at_call 17; refine (c_eqTileSet_self _ _ _ _ _ _ _ _ G0 T0 _ _ _ ((XX8.out.new ((New.same _).drew_)).rd.new na8) hQ8.rd).mono ?_; rintro e wb8 ⟨rfl, nb8⟩) | (go_at_call 15; refine (TT8.out _ ?_).mono ?_; (· (repeat' (first | (with_reducible exact New.same _) | (with_reducible assumption) | (with_reducible refine New.box ?_ _) | (with_reducible refine New.drew_ ?_) | (with_reducible refine New.set ?_ ?_ _ _) | (with_reducible refine New.step ?_ (by assumption))))); rintro e wa8 ⟨gq8, tq8, sq8, rfl, hQ8, na8⟩))
    have M8 : New w7 wb8 := by (repeat' (first | (with_reducible exact New.same _) | (with_reducible assumption) | (with_reducible refine New.box ?_ _) | (with_reducible refine New.drew_ ?_) | (with_reducible refine New.set ?_ ?_ _ _) | (with_reducible refine New.step ?_ (by assumption))))
    clear TT8 XX8 hQ8
    have q8 := M8.size
    replace N := N.step M8
    replace R0 := R0.new M8
    replace ws := ws.new M8
    replace xb := xb.new M8
    replace gs := gs.new M8
    replace P0 := P0.new M8
    replace B_xb := B_xb.new M8
    have ⟨⟨c_P0, d_P0⟩, _, l_P0⟩ := P0.at2
    have ⟨⟨c_B_xb, d_B_xb⟩, _, l_B_xb⟩ := B_xb.at2
    go_wp2_with fail
    clear c_P0 d_P0 l_P0 c_B_xb d_B_xb l_B_xb
    refine (c_markTileSet _ _ _ _ _ _ _ 1 _ xb (by omega)).mono ?_
    rintro e w9 ⟨rfl, ym, f9⟩
    have q9 := f9.size
    replace N := N.fr f9 (by omega)
    replace R0 := R0.fr f9 (by omega)
    replace ws := ws.fr f9 (by omega)
    replace gs := gs.fr f9 (by omega)
    replace P0 := P0.fr f9 (by omega)
    replace B_xb := B_xb.fr f9 (by omega)
    rw [hZ]
    have ⟨⟨c_P0, d_P0⟩, _, l_P0⟩ := P0.at2
    go_wp2_with fail
    clear c_P0 d_P0 l_P0
    refine (c_eqInt64S _ _ _ _ _ _ X X _ gs.rd ws.rd).mono ?_
    rintro e w10 ⟨rfl, n10⟩
    have q10 := n10.size
    replace N := N.step n10
    replace R0 := R0.new n10
    replace ws := ws.new n10
    replace gs := gs.new n10
    replace P0 := P0.new n10
    have ⟨⟨c_P0, d_P0⟩, _, l_P0⟩ := P0.at2
    go_wp2_with fail
    clear c_P0 d_P0 l_P0
    refine (c_markInt64S _ _ _ _ _ _ _ gs (by omega) (by omega)).mono ?_
    rintro e w11 ⟨rfl, gm, f11⟩
    have q11 := f11.size
    replace N := N.fr f11 (by omega)
    replace R0 := R0.fr f11 (by omega)
    replace ws := ws.fr f11 (by omega)
    replace P0 := P0.fr f11 (by omega)
    have ⟨⟨c_P0, d_P0⟩, _, l_P0⟩ := P0.at2
    go_wp2_with fail
    clear c_P0 d_P0 l_P0
    refine (c_heldInt64S _ _ _ X.length _ _ gm.rd (by omega) (by omega)).mono ?_
    rintro e w12 ⟨rfl, n12⟩
    have q12 := n12.size
    replace N := N.step n12
    replace R0 := R0.new n12
    replace ws := ws.new n12
    replace gm := gm.new n12
    replace P0 := P0.new n12
    have ⟨⟨c_P0, d_P0⟩, _, l_P0⟩ := P0.at2
    go_wp2_with fail
    clear c_P0 d_P0 l_P0
    refine (c_toTileSet _ _ _ _ G0 T0 _ _ R0 (by omega) (by omega) hs0).mono ?_
    rintro e w13 ⟨g13, t13, s13, rfl, xc, n13⟩
    have q13 := n13.size
    replace N := N.step n13
    replace R0 := R0.new n13
    replace ws := ws.new n13
    replace gm := gm.new n13
    replace P0 := P0.new n13
    obtain ⟨A_xc, c_xc_, K_xc, d_xc_, hva, hvb⟩ := xc.rd.form
    subst hva hvb
    have ⟨⟨c_P0, d_P0⟩, _, l_P0⟩ := P0.at2
    go_wp2_with fail
    clear c_P0 d_P0 l_P0
    refine (c_implTilesWith _ _ _ _ G0 T0 _ a1 a2 _ xc.rd hg0 ht0).mono ?_
    rintro e w14 ⟨v14, rfl, hs, n14⟩
    have q14 := n14.size
    replace N := N.step n14
    replace R0 := R0.new n14
    replace ws := ws.new n14
    replace gm := gm.new n14
    replace xc := xc.new n14
    replace P0 := P0.new n14
    rw [hX] at hs
    rw [hY]
    have ⟨⟨c_P0, d_P0⟩, _, l_P0⟩ := P0.at2
    go_wp2_with fail
    clear c_P0 d_P0 l_P0
    refine (c_eqInt64S _ _ _ _ _ _ X X _ hs.rd ws.rd).mono ?_
    rintro e w15 ⟨rfl, n15⟩
    have q15 := n15.size
    replace N := N.step n15
    replace R0 := R0.new n15
    replace ws := ws.new n15
    replace gm := gm.new n15
    replace hs := hs.new n15
    replace P0 := P0.new n15
    have ⟨⟨c_P0, d_P0⟩, _, l_P0⟩ := P0.at2
    go_wp2_with fail
    clear c_P0 d_P0 l_P0
    refine (c_heldInt64S _ _ _ X.length _ _ gm.rd (by omega) (by omega)).mono ?_
    rintro e w16 ⟨rfl, n16⟩
    have q16 := n16.size
    replace N := N.step n16
    replace R0 := R0.new n16
    replace ws := ws.new n16
    replace gm := gm.new n16
    replace hs := hs.new n16
    replace P0 := P0.new n16
    have ⟨⟨c_P0, d_P0⟩, _, l_P0⟩ := P0.at2
    go_wp2
    go_ret
    exact ⟨rfl, N⟩
  · have EE0 : L0 = -1 := by rw [← E0]; exact szS_lo _ _ _ (by rw [E0]; omega)
    subst EE0
    go_enter Try.func10, Try.ntmps10
    go_wp2_with fail
    have q0 : w.heap.size + 1 ≤ (w.alloc (.cells #[.slice A0 G0.length c0, .slice B0 T0.length d0] 25)).heap.size := by simp
    generalize (w.alloc (.cells #[.slice A0 G0.length c0, .slice B0 T0.length d0] 25)) = W0 at *
    replace R0 := R0.new N
    refine (c_szTileSet _ _ _ _ G0 T0 _ (1048576) _ R0 hg0 ht0 (by omega) (by omega)).mono ?_
    rintro e w17 ⟨rfl, n17⟩
    have q17 := n17.size
    replace N := N.step n17
    replace R0 := R0.new n17
    replace P0 := P0.new n17
    rw [E0]
    have ⟨⟨c_P0, d_P0⟩, _, l_P0⟩ := P0.at2
    go_wp2
    go_ret
    exact ⟨rfl, N⟩

set_option maxRecDepth 100000 in
theorem lifted (os : Os) (started : os.Started) (H : Type) (enc : TypeId × Value → H) :
    ReturnsInHanded {} Try.checked os 10 .any (Rows.fnExactTilesWithSpec.pre6 enc Try.prog Try.f10 Rows.fnExactTilesWithRow.domain false) (Rows.fnExactTilesWithSpec.post enc Try.prog Try.f10 false true false false) := by
  refine returnsInHanded_of_change (C := Try.checked) prog_own started (by kernel_rfl) Try.func10
    (ChangeSpec.witness6 (enc := enc) (C := Try.checked) false ⟨#[], #[.agg #[.slice none 0 0, .slice none 0 0], .int .i64 0, .int .i64 0], []⟩ 8 (by kernel_rfl) (by kernel_rfl) (by kernel_rfl) (by kernel_rfl)) ?_
  intro W base args ds gs before hval0 hW _ _
  have hval : ∀ (j : Nat) t v, Try.f10.params[j]? = some t → args[j]? = some v → Value.okWide Try.prog W .any base t v := hval0
  have hW' := hW
  obtain ⟨p, q, hA0, hV, rfl, _, _⟩ := hW
  have hA : DataW.TrodAll enc Try.prog W 0 (fun _ => true) true Try.f10.params.toList args.toList ds p := hA0
  rw [Try.params10] at hA hval
  have hlt : ∀ x ∈ p, x.block < W.heap.size := fun x hx => hW'.lt x (List.mem_append_left _ hx)
  obtain ⟨v0, vs0, d0, ds0, p0, q0, hargs, rfl, rfl, h0, t0⟩ := trodAll_cons hA
  obtain ⟨v1, vs1, d1, ds1, p1, q1, rfl, rfl, rfl, h1, t1⟩ := trodAll_cons t0
  obtain ⟨v2, vs2, d2, ds2, p2, q2, rfl, rfl, rfl, h2, t2⟩ := trodAll_cons t1
  obtain ⟨rfl, rfl, rfl⟩ := trodAll_nil t2
  obtain rfl : args = #[v0, v1, v2] := by cases args; simp_all
  have hlt0 : ∀ x ∈ p0, x.block < W.heap.size := fun x hx => hlt x (List.mem_append_left _ hx)
  obtain ⟨gv0, tv0, G0, T0, sv0, rfl, ⟨rg0, hg0⟩, rt0, ht0⟩ := open_set Try.underlying25 (by kernel_rfl) rfl rfl rfl rfl (by kernel_rfl) (by kernel_rfl) Try.underlying22 Try.underlying108 (by kernel_rfl) rfl rfl rfl rfl Try.underlying23 Try.underlying110 (by kernel_rfl) rfl rfl rfl rfl (by kernel_rfl) (by kernel_rfl) (by kernel_rfl) Try.underlying9 Try.underlying2 Try.underlying45 (hval 0 25 v0 rfl rfl) h0 hlt0
  obtain ⟨a1, rfl, b1⟩ := open_i64 Try.underlying2 (hval 1 2 v1 rfl rfl) h1
  obtain ⟨a2, rfl, b2⟩ := open_i64 Try.underlying2 (hval 2 2 v2 rfl rfl) h2
  refine (walk W gv0 tv0 G0 T0 sv0 ⟨rg0, rt0⟩ hg0 ht0 a1 b1 a2 b2).mono fun e W' ⟨he, hb⟩ => ⟨_, he, ?_⟩
  exact law_post prog_laid (by kernel_rfl) rfl Try.underlying4 rfl (by intro ds h; rw [Try.params10] at h; match ds, h with | [_, _, _], _ => exact ⟨rfl, rfl, rfl⟩) hW' hb

theorem over : Rows.fnExactTilesWithRow.holds Try.pinned (OpenSpec.ofChange Rows.fnExactTilesWithSpec) :=
  OpenClaim.holds_of_wide 10 Try.f10 rfl rfl rfl rfl rfl rfl rfl ⟨rfl, rfl, rfl, rfl, rfl⟩ rfl rfl rfl rfl rfl (by kernel_rfl) Try.func10 (by kernel_rfl)
    (of_decide_eq_true (by kernel_rfl)) (by unfold Func.isWrapper; first | (rw [if_pos (by decide +kernel)]; kernel_rfl) | (rw [if_neg (by decide +kernel)]; exact ⟨rfl, rfl⟩))
    (fun os started H enc _ => lifted os started H enc)

theorem proved : Rows.FnExactTilesWithSaid := over
end fnExactTilesWith
#print axioms fnExactTilesWith.proved

end Go.Proofs.Ytailhgleiefbkaa
