/- The law FnExactValidWeights returns true for every input that can be read as data. No condition. -/
import Derived.Test.YtcikfognbjbniaaWeights
namespace Go.Proofs.Ytcikfognbjbniaa
open Go.ChangeShapes Go.WideShapes Go.ChangeAt Go.RowKit
open Go.ChangeMaps (open_string)
namespace fnExactValidWeights
set_option linter.unusedVariables false
set_option maxRecDepth 100000 in
set_option maxHeartbeats 4000000 in
theorem walk (w : World) (gv0 tv0 : Value) (G0 : List (ByteArray × Int)) (T0 : List (ByteArray × List Int)) (sv0 : List Value) (r0 : RdS w 0 w.heap.size gv0 tv0 G0 T0 sv0) (hg0 : ∀ g ∈ G0, g.1.size ≤ maxLen) (ht0 : ∀ t ∈ T0, t.1.size ≤ maxLen) (v1 : Value) (z1 : List Int) (r1 : Rd w 0 w.heap.size 1 v1 z1.length (z1.map (Value.int .i64))) (b1 : ∀ z ∈ z1, -9223372036854775808 ≤ z ∧ z ≤ 9223372036854775807) : Calls Try.prog 5 #[.agg #[gv0, tv0], v1] w fun e w' => e = .returned (.bool true) ∧ New w w' := by
  have R0 := r0
  obtain ⟨A0, c0, B0, d0, rfl, rfl⟩ := r0.form
  have R1 := r1
  obtain ⟨_, hm1, _, A1, c1, rfl, _⟩ := r1
  have el1 := eqL_self z1
  have N : New w (w.alloc (.cells #[.slice A0 G0.length c0, .slice B0 T0.length d0] 25)) := ((New.same w).box _)
  have P0 : BoxV (w.alloc (.cells #[.slice A0 G0.length c0, .slice B0 T0.length d0] 25)) (w.heap.size) [.slice A0 G0.length c0, .slice B0 T0.length d0] := .two (by go_simp) (by go_simp) (by go_simp) (by go_simp) (by simp <;> omega)
  by_cases hi1 : z1.length ≤ 1048576
  · have hd1 : decide ((1048576 : Int) < (z1.length : Int)) = false := by simp; omega
    obtain ⟨L0, E0⟩ : ∃ L, szS (1048576) G0 T0 = L := ⟨_, rfl⟩
    by_cases hz0 : 0 ≤ L0
    · have ⟨hb0, hG0, hT0, hS0⟩ := szS_le (by rw [E0]; exact hz0 : 0 ≤ szS (1048576) G0 T0)
      rw [E0] at hb0
      have hs0 : ∀ t ∈ T0, t.2.length ≤ 1048576 := fun t ht => by have := hS0 t ht; omega
      clear hS0
      have ebb : (wtsB G0 T0 z1 != wtsB G0 T0 z1) = false := by simp
      go_enter Try.func5, Try.ntmps5
      go_wp2_with fail
      have q0 : w.heap.size + 1 ≤ (w.alloc (.cells #[.slice A0 G0.length c0, .slice B0 T0.length d0] 25)).heap.size := by simp
      generalize (w.alloc (.cells #[.slice A0 G0.length c0, .slice B0 T0.length d0] 25)) = W0 at *
      replace R1 := R1.new N
      replace R0 := R0.new N
      refine (c_szTileSet _ _ _ _ G0 T0 _ (1048576) _ R0 hg0 ht0 (by omega) (by omega)).mono ?_
      rintro e w1 ⟨rfl, n1⟩
      have q1 := n1.size
      replace N := N.step n1
      replace R1 := R1.new n1
      replace R0 := R0.new n1
      replace P0 := P0.new n1
      rw [E0]
      have ⟨⟨c_P0, d_P0⟩, _, l_P0⟩ := P0.at2
      go_wp2_with fail
      clear c_P0 d_P0 l_P0
      refine (c_toTileSet _ _ _ _ G0 T0 _ _ R0 (by omega) (by omega) hs0).mono ?_
      rintro e w2 ⟨g2, t2, s2, rfl, xa, n2⟩
      have q2 := n2.size
      replace N := N.step n2
      replace R1 := R1.new n2
      replace R0 := R0.new n2
      replace P0 := P0.new n2
      obtain ⟨A_xa, c_xa_, K_xa, d_xa_, hva, hvb⟩ := xa.rd.form
      subst hva hvb
      have ⟨⟨c_P0, d_P0⟩, _, l_P0⟩ := P0.at2
      go_wp2_with fail
      clear c_P0 d_P0 l_P0
      refine (c_toInt64S _ _ _ z1 _ R1 (by omega)).mono ?_
      rintro e w3 ⟨v3, rfl, xb, n3⟩
      have q3 := n3.size
      replace N := N.step n3
      replace R1 := R1.new n3
      replace R0 := R0.new n3
      replace xa := xa.new n3
      replace P0 := P0.new n3
      have ⟨⟨c_P0, d_P0⟩, _, l_P0⟩ := P0.at2
      go_wp2_with fail
      clear c_P0 d_P0 l_P0
      refine (c_specValidWeights _ _ _ _ _ _ _ G0 T0 _ z1 _ xa.rd hg0 ht0 xb.rd).mono ?_
      rintro e w4 ⟨rfl, n4⟩
      have q4 := n4.size
      replace N := N.step n4
      replace R1 := R1.new n4
      replace R0 := R0.new n4
      replace xa := xa.new n4
      replace xb := xb.new n4
      replace P0 := P0.new n4
      have ⟨⟨c_P0, d_P0⟩, _, l_P0⟩ := P0.at2
      go_wp2_with fail
      clear c_P0 d_P0 l_P0
      refine (c_toTileSet _ _ _ _ G0 T0 _ _ R0 (by omega) (by omega) hs0).mono ?_
      rintro e w5 ⟨g5, t5, s5, rfl, xc, n5⟩
      have q5 := n5.size
      replace N := N.step n5
      replace R1 := R1.new n5
      replace R0 := R0.new n5
      replace P0 := P0.new n5
      obtain ⟨A_xc, c_xc_, K_xc, d_xc_, hva, hvb⟩ := xc.rd.form
      subst hva hvb
      have m5 : New w5 (w5.alloc (.cells #[.slice A_xc G0.length c_xc_, .slice K_xc T0.length d_xc_] 36)) := (New.same _).box _
      have B_xc : BoxV (w5.alloc (.cells #[.slice A_xc G0.length c_xc_, .slice K_xc T0.length d_xc_] 36)) w5.heap.size [.slice A_xc G0.length c_xc_, .slice K_xc T0.length d_xc_] := .two (by go_simp) (by go_simp) (by go_simp) (by go_simp) (by simp)
      have ⟨⟨c_P0, d_P0⟩, _, l_P0⟩ := P0.at2
      go_wp2_with fail
      clear c_P0 d_P0 l_P0
      have q6 := m5.size
      have qb6 : w5.heap.size < (w5.alloc (.cells #[.slice A_xc G0.length c_xc_, .slice K_xc T0.length d_xc_] 36)).heap.size := by simp
      replace N := N.step m5
      replace R1 := R1.new m5
      replace R0 := R0.new m5
      replace xc := xc.new m5
      replace P0 := P0.new m5
      generalize (w5.alloc (.cells #[.slice A_xc G0.length c_xc_, .slice K_xc T0.length d_xc_] 36)) = w6 at *
      refine (c_toInt64S _ _ _ z1 _ R1 (by omega)).mono ?_
      rintro e w7 ⟨v7, rfl, xd, n7⟩
      have q7 := n7.size
      replace N := N.step n7
      replace R1 := R1.new n7
      replace R0 := R0.new n7
      replace xc := xc.new n7
      replace P0 := P0.new n7
      replace B_xc := B_xc.new n7
      have ⟨⟨c_P0, d_P0⟩, _, l_P0⟩ := P0.at2
      have ⟨⟨c_B_xc, d_B_xc⟩, _, l_B_xc⟩ := B_xc.at2
      go_wp2_with fail
      clear c_P0 d_P0 l_P0 c_B_xc d_B_xc l_B_xc
      refine (c_implValidWeights _ _ _ _ _ _ _ G0 T0 _ z1 _ xc.rd hg0 ht0 xd.rd).mono ?_
      rintro e w8 ⟨rfl, n8⟩
      have q8 := n8.size
      replace N := N.step n8
      replace R1 := R1.new n8
      replace R0 := R0.new n8
      replace xc := xc.new n8
      replace xd := xd.new n8
      replace P0 := P0.new n8
      replace B_xc := B_xc.new n8
      have ⟨⟨c_P0, d_P0⟩, _, l_P0⟩ := P0.at2
      have ⟨⟨c_B_xc, d_B_xc⟩, _, l_B_xc⟩ := B_xc.at2
      go_upto_region 13 with fail
      clear c_P0 d_P0 l_P0 c_B_xc d_B_xc l_B_xc
      have TT9 := Lib.hid (fun (wx : World) (nx : New w8 wx) => c_toTileSet _ _ _ _ G0 T0 _ wx (R0.new nx) (by omega) (by omega) hs0)
      have XX9 := Lib.hid xc
      go_region_held3 (fun w' => w'.cell? ⟨w5.heap.size, 0, none⟩ = some (.slice A_xc G0.length c_xc_) ∧ w'.cell? ⟨w5.heap.size, 1, none⟩ = some (.slice K_xc T0.length d_xc_) ∧ w'.cell? ⟨w.heap.size, 0, none⟩ = some (.slice A0 G0.length c0) ∧ w'.cell? ⟨w.heap.size, 1, none⟩ = some (.slice B0 T0.length d0))
        (exact keepV2 (w1 := w8) (by (repeat' (first | (with_reducible exact New.same _) | (with_reducible assumption) | (with_reducible refine New.box ?_ _) | (with_reducible refine New.drew_ ?_) | (with_reducible refine New.set ?_ ?_ _ _) | (with_reducible refine New.step ?_ (by assumption))))) B_xc P0)
        (first | (go_at_call 19; refine (c_eqTileSet_self _ _ _ _ _ _ _ _ G0 T0 _ _ _ ((XX9.out.new ((New.same _).drew_)).rd.new na9) hQ9.rd).mono ?_; rintro e wb9 ⟨rfl, nb9⟩) | (go_at_call 16; refine (TT9.out _ ?_).mono ?_; (· (repeat' (first | (with_reducible exact New.same _) | (with_reducible assumption) | (with_reducible refine New.box ?_ _) | (with_reducible refine New.drew_ ?_) | (with_reducible refine New.set ?_ ?_ _ _) | (with_reducible refine New.step ?_ (by assumption))))); rintro e wa9 ⟨gq9, tq9, sq9, rfl, hQ9, na9⟩))
      have M9 : New w8 wb9 := by (repeat' (first | (with_reducible exact New.same _) | (with_reducible assumption) | (with_reducible refine New.box ?_ _) | (with_reducible refine New.drew_ ?_) | (with_reducible refine New.set ?_ ?_ _ _) | (with_reducible refine New.step ?_ (by assumption))))
      clear TT9 XX9 hQ9
      have q9 := M9.size
      replace N := N.step M9
      replace R1 := R1.new M9
      replace R0 := R0.new M9
      replace xc := xc.new M9
      replace xd := xd.new M9
      replace P0 := P0.new M9
      replace B_xc := B_xc.new M9
      have ⟨⟨c_P0, d_P0⟩, _, l_P0⟩ := P0.at2
      go_wp2_with fail
      clear c_P0 d_P0 l_P0
      refine (c_toInt64S _ _ _ z1 _ R1 (by omega)).mono ?_
      rintro e w10 ⟨v10, rfl, xe, n10⟩
      have q10 := n10.size
      replace N := N.step n10
      replace R1 := R1.new n10
      replace R0 := R0.new n10
      replace xd := xd.new n10
      replace P0 := P0.new n10
      have ⟨⟨c_P0, d_P0⟩, _, l_P0⟩ := P0.at2
      go_wp2_with fail
      clear c_P0 d_P0 l_P0
      refine (c_eqInt64S _ _ _ _ _ _ z1 z1 _ xd.rd xe.rd).mono ?_
      rintro e w11 ⟨rfl, n11⟩
      have q11 := n11.size
      replace N := N.step n11
      replace R1 := R1.new n11
      replace R0 := R0.new n11
      replace xd := xd.new n11
      replace xe := xe.new n11
      replace P0 := P0.new n11
      have ⟨⟨c_P0, d_P0⟩, _, l_P0⟩ := P0.at2
      go_wp2
      go_ret
      exact ⟨rfl, N⟩
    · have EE0 : L0 = -1 := by rw [← E0]; exact szS_lo _ _ _ (by rw [E0]; omega)
      subst EE0
      go_enter Try.func5, Try.ntmps5
      go_wp2_with fail
      have q0 : w.heap.size + 1 ≤ (w.alloc (.cells #[.slice A0 G0.length c0, .slice B0 T0.length d0] 25)).heap.size := by simp
      generalize (w.alloc (.cells #[.slice A0 G0.length c0, .slice B0 T0.length d0] 25)) = W0 at *
      replace R1 := R1.new N
      replace R0 := R0.new N
      refine (c_szTileSet _ _ _ _ G0 T0 _ (1048576) _ R0 hg0 ht0 (by omega) (by omega)).mono ?_
      rintro e w12 ⟨rfl, n12⟩
      have q12 := n12.size
      replace N := N.step n12
      replace R1 := R1.new n12
      replace R0 := R0.new n12
      replace P0 := P0.new n12
      rw [E0]
      have ⟨⟨c_P0, d_P0⟩, _, l_P0⟩ := P0.at2
      go_wp2
      go_ret
      exact ⟨rfl, N⟩
  · have hd1 : decide ((1048576 : Int) < (z1.length : Int)) = true := by simp; omega
    go_enter Try.func5, Try.ntmps5
    go_wp2
    go_ret
    exact ⟨rfl, N⟩

set_option maxRecDepth 100000 in
theorem lifted (os : Os) (started : os.Started) (H : Type) (enc : TypeId × Value → H) :
    ReturnsInHanded {} Try.checked os 5 .any (Rows.fnExactValidWeightsSpec.pre6 enc Try.prog Try.f5 Rows.fnExactValidWeightsRow.domain false) (Rows.fnExactValidWeightsSpec.post enc Try.prog Try.f5 false true false false) := by
  refine returnsInHanded_of_change (C := Try.checked) prog_own started (by kernel_rfl) Try.func5
    (ChangeSpec.witness6 (enc := enc) (C := Try.checked) false ⟨#[], #[.agg #[.slice none 0 0, .slice none 0 0], .slice none 0 0], []⟩ 8 (by kernel_rfl) (by kernel_rfl) (by kernel_rfl) (by kernel_rfl)) ?_
  intro W base args ds gs before hval0 hW _ _
  have hval : ∀ (j : Nat) t v, Try.f5.params[j]? = some t → args[j]? = some v → Value.okWide Try.prog W .any base t v := hval0
  have hW' := hW
  obtain ⟨p, q, hA0, hV, rfl, _, _⟩ := hW
  have hA : DataW.TrodAll enc Try.prog W 0 (fun _ => true) true Try.f5.params.toList args.toList ds p := hA0
  rw [Try.params5] at hA hval
  have hlt : ∀ x ∈ p, x.block < W.heap.size := fun x hx => hW'.lt x (List.mem_append_left _ hx)
  obtain ⟨v0, vs0, d0, ds0, p0, q0, hargs, rfl, rfl, h0, t0⟩ := trodAll_cons hA
  obtain ⟨v1, vs1, d1, ds1, p1, q1, rfl, rfl, rfl, h1, t1⟩ := trodAll_cons t0
  obtain ⟨rfl, rfl, rfl⟩ := trodAll_nil t1
  obtain rfl : args = #[v0, v1] := by cases args; simp_all
  have hlt0 : ∀ x ∈ p0, x.block < W.heap.size := fun x hx => hlt x (List.mem_append_left _ hx)
  have hlt1 : ∀ x ∈ p1, x.block < W.heap.size := fun x hx => hlt x (List.mem_append_right _ (List.mem_append_left _ hx))
  obtain ⟨gv0, tv0, G0, T0, sv0, rfl, ⟨rg0, hg0⟩, rt0, ht0⟩ := open_set Try.underlying25 (by kernel_rfl) rfl rfl rfl rfl (by kernel_rfl) (by kernel_rfl) Try.underlying22 Try.underlying108 (by kernel_rfl) rfl rfl rfl rfl Try.underlying23 Try.underlying110 (by kernel_rfl) rfl rfl rfl rfl (by kernel_rfl) (by kernel_rfl) (by kernel_rfl) Try.underlying9 Try.underlying2 Try.underlying52 (hval 0 25 v0 rfl rfl) h0 hlt0
  obtain ⟨z1, r1, b1⟩ := open_ints_rd Try.underlying52 Try.underlying2 (by kernel_rfl) (hval 1 52 v1 rfl rfl) h1 hlt1
  refine (walk W gv0 tv0 G0 T0 sv0 ⟨rg0, rt0⟩ hg0 ht0 v1 z1 r1 b1).mono fun e W' ⟨he, hb⟩ => ⟨_, he, ?_⟩
  exact law_post prog_laid (by kernel_rfl) rfl Try.underlying4 rfl (by intro ds h; rw [Try.params5] at h; match ds, h with | [_, _], _ => exact ⟨rfl, rfl, rfl⟩) hW' hb

theorem over : Rows.fnExactValidWeightsRow.holds Try.pinned (OpenSpec.ofChange Rows.fnExactValidWeightsSpec) :=
  OpenClaim.holds_of_wide 5 Try.f5 rfl rfl rfl rfl rfl rfl rfl ⟨rfl, rfl, rfl, rfl, rfl⟩ rfl rfl rfl rfl rfl (by kernel_rfl) Try.func5 (by kernel_rfl)
    (of_decide_eq_true (by kernel_rfl)) (by unfold Func.isWrapper; first | (rw [if_pos (by decide +kernel)]; kernel_rfl) | (rw [if_neg (by decide +kernel)]; exact ⟨rfl, rfl⟩))
    (fun os started H enc _ => lifted os started H enc)

theorem proved : Rows.FnExactValidWeightsSaid := over
end fnExactValidWeights
#print axioms fnExactValidWeights.proved

end Go.Proofs.Ytcikfognbjbniaa
