/- The law FnExactSetText returns true for every input that can be read as data, where the listed tables hold what the program's text lays. -/
import Derived.Test.YtfnihmmkbnkmnaaDoorTab
import Derived.Test.YtfnihmmkbnkmnaaDoorSetTx2
namespace Go.Proofs.YtfnihmmkbnkmnaaDoor
open Go.ChangeShapes Go.WideShapes Go.ChangeAt Go.RowKit
open Go.ChangeMaps (open_string)
namespace fnExactSetText
set_option linter.unusedVariables false
set_option maxRecDepth 100000 in
set_option maxHeartbeats 4000000 in
theorem walk (w : World) (gv0 tv0 : Value) (G0 : List (ByteArray × Int)) (T0 : List (ByteArray × List Int)) (sv0 : List Value) (r0 : RdS w 0 w.heap.size gv0 tv0 G0 T0 sv0) (hg0 : ∀ g ∈ G0, g.1.size ≤ maxLen) (ht0 : ∀ t ∈ T0, t.1.size ≤ maxLen) (hT : TabW w) : Calls Tryd.prog 4 #[.agg #[gv0, tv0]] w fun e w' => e = .returned (.bool true) ∧ New w w' := by
  have R0 := r0
  obtain ⟨A0, c0, B0, d0, rfl, rfl⟩ := r0.form
  have N : New w (w.alloc (.cells #[.slice A0 G0.length c0, .slice B0 T0.length d0] 31)) := ((New.same w).box _)
  have P0 : BoxV (w.alloc (.cells #[.slice A0 G0.length c0, .slice B0 T0.length d0] 31)) (w.heap.size) [.slice A0 G0.length c0, .slice B0 T0.length d0] := .two (by go_simp) (by go_simp) (by go_simp) (by go_simp) (by simp <;> omega)
  obtain ⟨L0, E0⟩ : ∃ L, szS (1048576) G0 T0 = L := ⟨_, rfl⟩
  by_cases hz0 : 0 ≤ L0
  · have ⟨hb0, hG0, hT0, hS0⟩ := szS_le (by rw [E0]; exact hz0 : 0 ≤ szS (1048576) G0 T0)
    rw [E0] at hb0
    have hs0 : ∀ t ∈ T0, t.2.length ≤ 1048576 := fun t ht => by have := hS0 t ht; omega
    clear hS0
    obtain ⟨X, hX⟩ : ∃ X, setT G0 T0 = X := ⟨_, rfl⟩
    have eX : (X.toList == X.toList) = true := beq_self_eq_true _
    have HTW := Lib.hid hT
    clear hT
    go_enter Tryd.func4, Tryd.ntmps4
    go_wp2_with fail
    have q0 : w.heap.size + 1 ≤ (w.alloc (.cells #[.slice A0 G0.length c0, .slice B0 T0.length d0] 31)).heap.size := by simp
    generalize (w.alloc (.cells #[.slice A0 G0.length c0, .slice B0 T0.length d0] 31)) = W0 at *
    replace R0 := R0.new N
    refine (c_szTileSet _ _ _ _ G0 T0 _ (1048576) _ R0 hg0 ht0 (by omega) (by omega)).mono ?_
    rintro e w1 ⟨rfl, n1⟩
    have q1 := n1.size
    replace N := N.step n1
    replace R0 := R0.new n1
    replace P0 := P0.new n1
    rw [E0]
    have ⟨⟨c_P0, d_P0⟩, _, l_P0⟩ := P0.at2
    go_wp2_with fail
    clear c_P0 d_P0 l_P0
    refine (c_toTileSet _ _ _ _ G0 T0 _ _ R0 (by omega) (by omega) hs0).mono ?_
    rintro e w2 ⟨g2, t2, s2, rfl, xa, n2⟩
    have q2 := n2.size
    replace N := N.step n2
    replace R0 := R0.new n2
    replace P0 := P0.new n2
    obtain ⟨A_xa, c_xa_, K_xa, d_xa_, hva, hvb⟩ := xa.rd.form
    subst hva hvb
    have ⟨⟨c_P0, d_P0⟩, _, l_P0⟩ := P0.at2
    go_wp2_with fail
    clear c_P0 d_P0 l_P0
    refine (c_specSetText _ _ _ _ G0 T0 _ _ xa.rd hg0 ht0).mono ?_
    rintro e w3 ⟨rfl, n3⟩
    have q3 := n3.size
    replace N := N.step n3
    replace R0 := R0.new n3
    replace xa := xa.new n3
    replace P0 := P0.new n3
    rw [hX]
    have ⟨⟨c_P0, d_P0⟩, _, l_P0⟩ := P0.at2
    go_wp2_with fail
    clear c_P0 d_P0 l_P0
    refine (c_toTileSet _ _ _ _ G0 T0 _ _ R0 (by omega) (by omega) hs0).mono ?_
    rintro e w4 ⟨g4, t4, s4, rfl, xb, n4⟩
    have q4 := n4.size
    replace N := N.step n4
    replace R0 := R0.new n4
    replace P0 := P0.new n4
    obtain ⟨A_xb, c_xb_, K_xb, d_xb_, hva, hvb⟩ := xb.rd.form
    subst hva hvb
    have m4 : New w4 (w4.alloc (.cells #[.slice A_xb G0.length c_xb_, .slice K_xb T0.length d_xb_] 37)) := (New.same _).box _
    have B_xb : BoxV (w4.alloc (.cells #[.slice A_xb G0.length c_xb_, .slice K_xb T0.length d_xb_] 37)) w4.heap.size [.slice A_xb G0.length c_xb_, .slice K_xb T0.length d_xb_] := .two (by go_simp) (by go_simp) (by go_simp) (by go_simp) (by simp)
    have ⟨⟨c_P0, d_P0⟩, _, l_P0⟩ := P0.at2
    go_wp2_with fail
    clear c_P0 d_P0 l_P0
    have q5 := m4.size
    have qb5 : w4.heap.size < (w4.alloc (.cells #[.slice A_xb G0.length c_xb_, .slice K_xb T0.length d_xb_] 37)).heap.size := by simp
    replace N := N.step m4
    replace R0 := R0.new m4
    replace xb := xb.new m4
    replace P0 := P0.new m4
    generalize (w4.alloc (.cells #[.slice A_xb G0.length c_xb_, .slice K_xb T0.length d_xb_] 37)) = w5 at *
    refine (c_implSetText _ _ _ _ G0 T0 _ _ xb.rd hg0 ht0 (tab_new HTW.out (by (repeat' (first | (with_reducible exact New.same _) | (with_reducible assumption) | (with_reducible refine New.box ?_ _) | (with_reducible refine New.drew_ ?_) | (with_reducible refine New.set ?_ ?_ _ _) | (with_reducible refine New.step ?_ (by assumption))))))).mono ?_
    rintro e w6 ⟨rfl, n6⟩
    have q6 := n6.size
    replace N := N.step n6
    replace R0 := R0.new n6
    replace xb := xb.new n6
    replace P0 := P0.new n6
    replace B_xb := B_xb.new n6
    rw [hX]
    have ⟨⟨c_P0, d_P0⟩, _, l_P0⟩ := P0.at2
    have ⟨⟨c_B_xb, d_B_xb⟩, _, l_B_xb⟩ := B_xb.at2
    go_upto_region 10 with fail
    clear c_P0 d_P0 l_P0 c_B_xb d_B_xb l_B_xb
    have TT7 := Lib.hid (fun (wx : World) (nx : New w6 wx) => c_toTileSet _ _ _ _ G0 T0 _ wx (R0.new nx) (by omega) (by omega) hs0)
    have XX7 := Lib.hid xb
    go_region_held3 (fun w' => w'.cell? ⟨w4.heap.size, 0, none⟩ = some (.slice A_xb G0.length c_xb_) ∧ w'.cell? ⟨w4.heap.size, 1, none⟩ = some (.slice K_xb T0.length d_xb_) ∧ w'.cell? ⟨w.heap.size, 0, none⟩ = some (.slice A0 G0.length c0) ∧ w'.cell? ⟨w.heap.size, 1, none⟩ = some (.slice B0 T0.length d0))
      (exact keepV2 (w1 := w6) (by (repeat' (first | (with_reducible exact New.same _) | (with_reducible assumption) | (with_reducible refine New.box ?_ _) | (with_reducible refine New.drew_ ?_) | (with_reducible refine New.set ?_ ?_ _ _) | (with_reducible refine New.step ?_ (by assumption))))) B_xb P0)
      (first | (go_at_call 15; refine (c_eqTileSet_self _ _ _ _ _ _ _ _ G0 T0 _ _ _ ((XX7.out.new ((New.same _).drew_)).rd.new na7) hQ7.rd).mono ?_; rintro e wb7 ⟨rfl, nb7⟩) | (go_at_call 13; refine (TT7.out _ ?_).mono ?_; (· (repeat' (first | (with_reducible exact New.same _) | (with_reducible assumption) | (with_reducible refine New.box ?_ _) | (with_reducible refine New.drew_ ?_) | (with_reducible refine New.set ?_ ?_ _ _) | (with_reducible refine New.step ?_ (by assumption))))); rintro e wa7 ⟨gq7, tq7, sq7, rfl, hQ7, na7⟩))
    have M7 : New w6 wb7 := by (repeat' (first | (with_reducible exact New.same _) | (with_reducible assumption) | (with_reducible refine New.box ?_ _) | (with_reducible refine New.drew_ ?_) | (with_reducible refine New.set ?_ ?_ _ _) | (with_reducible refine New.step ?_ (by assumption))))
    clear TT7 XX7 hQ7
    have q7 := M7.size
    replace N := N.step M7
    replace R0 := R0.new M7
    replace xb := xb.new M7
    replace P0 := P0.new M7
    replace B_xb := B_xb.new M7
    have ⟨⟨c_P0, d_P0⟩, _, l_P0⟩ := P0.at2
    have ⟨⟨c_B_xb, d_B_xb⟩, _, l_B_xb⟩ := B_xb.at2
    go_wp2
    go_ret
    exact ⟨rfl, N⟩
  · have EE0 : L0 = -1 := by rw [← E0]; exact szS_lo _ _ _ (by rw [E0]; omega)
    subst EE0
    go_enter Tryd.func4, Tryd.ntmps4
    go_wp2_with fail
    have q0 : w.heap.size + 1 ≤ (w.alloc (.cells #[.slice A0 G0.length c0, .slice B0 T0.length d0] 31)).heap.size := by simp
    generalize (w.alloc (.cells #[.slice A0 G0.length c0, .slice B0 T0.length d0] 31)) = W0 at *
    replace R0 := R0.new N
    refine (c_szTileSet _ _ _ _ G0 T0 _ (1048576) _ R0 hg0 ht0 (by omega) (by omega)).mono ?_
    rintro e w8 ⟨rfl, n8⟩
    have q8 := n8.size
    replace N := N.step n8
    replace R0 := R0.new n8
    replace P0 := P0.new n8
    rw [E0]
    have ⟨⟨c_P0, d_P0⟩, _, l_P0⟩ := P0.at2
    go_wp2
    go_ret
    exact ⟨rfl, N⟩


set_option maxRecDepth 100000 in
theorem contract (H : Type) (enc : TypeId × Value → H) (W : World) (base : Nat) (args : Array Value) (ds gs : List (DataW H)) (before : List MemPlace)
    (hval0 : ∀ (j : Nat) t v, Tryd.f4.params[j]? = some t → args[j]? = some v → Value.okWide Tryd.prog W .any base t v)
    (hW : DataW.Whole enc Tryd.prog Tryd.f4.params.toList Rows.fnExactSetTextSpec.vars false W args.toList ds gs before) (hL : laidMetH Tryd.prog Rows.fnExactSetTextRow.laid W) :
    Calls Tryd.prog 4 args W fun e W' => ∃ v, e = .returned v ∧ Rows.fnExactSetTextSpec.post enc Tryd.prog Tryd.f4 false true false false W args v W' := by
  have hval : ∀ (j : Nat) t v, Tryd.f4.params[j]? = some t → args[j]? = some v → Value.okWide Tryd.prog W .any base t v := hval0
  have hW' := hW
  obtain ⟨p, q, hA0, hV, rfl, _, _⟩ := hW
  have hA : DataW.TrodAll enc Tryd.prog W 0 (fun _ => true) true Tryd.f4.params.toList args.toList ds p := hA0
  rw [Tryd.params4] at hA hval
  have hlt : ∀ x ∈ p, x.block < W.heap.size := fun x hx => hW'.lt x (List.mem_append_left _ hx)
  obtain ⟨v0, vs0, d0, ds0, p0, q0, hargs, rfl, rfl, h0, t0⟩ := trodAll_cons hA
  obtain ⟨rfl, rfl, rfl⟩ := trodAll_nil t0
  obtain rfl : args = #[v0] := by cases args; simp_all
  have hlt0 : ∀ x ∈ p0, x.block < W.heap.size := fun x hx => hlt x (List.mem_append_left _ hx)
  obtain ⟨gv0, tv0, G0, T0, sv0, rfl, ⟨rg0, hg0⟩, rt0, ht0⟩ := open_set Tryd.underlying31 (by kernel_rfl) rfl rfl rfl rfl (by kernel_rfl) (by kernel_rfl) Tryd.underlying28 Tryd.underlying95 (by kernel_rfl) rfl rfl rfl rfl Tryd.underlying29 Tryd.underlying99 (by kernel_rfl) rfl rfl rfl rfl (by kernel_rfl) (by kernel_rfl) (by kernel_rfl) Tryd.underlying9 Tryd.underlying2 Tryd.underlying97 (hval 0 31 v0 rfl rfl) h0 hlt0
  refine (walk W gv0 tv0 G0 T0 sv0 ⟨rg0, rt0⟩ hg0 ht0 (tabw_of hL)).mono fun e W' ⟨he, hb⟩ => ⟨_, he, ?_⟩
  exact law_post prog_laid (by kernel_rfl) rfl Tryd.underlying4 rfl (by intro ds h; rw [Tryd.params4] at h; match ds, h with | [_], _ => exact ⟨rfl, rfl, rfl⟩) hW' hb

theorem reads (os : Os) {H : Type} (enc : TypeId × Value → H) : ∃ places, DataW.whole enc Tryd.prog ((laidWorld os).forCall (fun _ _ => 0) ⟨#[], #[.agg #[.slice none 0 0, .slice none 0 0]], []⟩).memory Tryd.f4.params.toList Rows.fnExactSetTextSpec.vars false #[.agg #[.slice none 0 0, .slice none 0 0]].toList 8 = some ([.agg [.nil, .nil]], [], places) :=
  ⟨[], by kernel_rfl⟩

set_option maxRecDepth 100000 in
theorem lifted (os : Os) (started : os.Started) (H : Type) (enc : TypeId × Value → H) (F : Stop.Interp) :
    ReturnsInHanded {} Tryd.checked os 4 .any ((OpenSpec.ofChange Rows.fnExactSetTextSpec).preRow enc Tryd.prog Tryd.f4 Rows.fnExactSetTextRow.domain false Rows.fnExactSetTextRow.laid) (((OpenSpec.ofChange Rows.fnExactSetTextSpec).at F).post enc Tryd.prog Tryd.f4 false true false false) := by
  obtain ⟨places, hx⟩ := reads os enc
  refine returnsInHanded_of_row (C := Tryd.checked) (s := OpenSpec.ofChange Rows.fnExactSetTextSpec) prog_own started (by kernel_rfl) Tryd.func4
    (witness_row_at (enc := enc) (C := Tryd.checked) false (laidWorld os) #[.agg #[.slice none 0 0, .slice none 0 0]] rfl (by kernel_rfl) (by kernel_rfl) (by kernel_rfl)
      (OpenSpec.preRow_of_cond 8 hx (by kernel_rfl) (fun k hk => by cases hk) (by kernel_rfl) (laidMet_of_run' 8 (by kernel_rfl) (by kernel_rfl)))) ?_
  intro W base args ds gs before hval hW _ _ _ hL hsh _
  exact contract H enc W base args ds gs before hval hW hL

set_option maxRecDepth 100000 in
theorem over : Rows.FnExactSetTextSaid :=
  OpenClaim.holds_of_cond 4 Tryd.f4 rfl rfl rfl rfl rfl rfl rfl ⟨rfl, rfl, rfl, rfl, rfl⟩ rfl rfl rfl rfl rfl (by kernel_rfl) Tryd.func4 (by kernel_rfl)
    (of_decide_eq_true (by kernel_rfl)) (by unfold Func.isWrapper; first | (rw [if_pos (by decide +kernel)]; kernel_rfl) | (rw [if_neg (by decide +kernel)]; exact ⟨rfl, rfl⟩))
    (fun os started H enc _ F => by rw [OpenClaim.pre_eq_preRow]; exact lifted os started H enc F)

theorem plain (f : FuncId) (fn : Func) (hf : Tryd.pinned.checked.prog.funcNamed "loop.example/g01081/laws.FnExactSetText" = some f) (hfn : Tryd.pinned.checked.prog.funcs[f]? = some fn) :
    false = Tryd.pinned.checked.prog.looks [] ∧ ∀ (j : Nat) t, fn.params[j]? = some t → Tryd.pinned.checked.prog.wantsStandIn t = false := by
  obtain rfl : f = 4 := Option.some.inj ((show Tryd.prog.funcNamed "loop.example/g01081/laws.FnExactSetText" = some 4 by kernel_rfl).symm.trans hf) |>.symm
  obtain rfl : fn = Tryd.f4 := (Option.some.inj (Tryd.func4.symm.trans hfn)).symm
  refine ⟨by kernel_rfl, fun j t ht => ?_⟩
  rw [Tryd.params4] at ht
  have ht' := Array.mem_of_getElem? ht
  simp only [List.mem_toArray, List.mem_cons, List.not_mem_nil, or_false] at ht'
  rcases ht' with rfl
  · exact (show Tryd.prog.wantsStandIn 31 = false by kernel_rfl)

theorem proved : Rows.FnExactSetTextCardSaid :=
  Claim7.holds_tied_plain_at .later [] _ _ _ _ over (fun _ h => by cases h) (by kernel_rfl) (fun _ h => by cases h) fnExactSetText_row_tie rfl ⟨rfl, rfl⟩ (by kernel_rfl) rfl plain (by kernel_rfl)
end fnExactSetText
#print axioms fnExactSetText.proved

end Go.Proofs.YtfnihmmkbnkmnaaDoor
