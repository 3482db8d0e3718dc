/- The law FnExactReadShape returns true for every input that can be read as data, where the listed tables hold what the program's text lays. -/
import Derived.Test.YtfnihmmkbnkmnaaDoorTabS
import Derived.Test.YtfnihmmkbnkmnaaDoorMkPoint
namespace Go.Proofs.YtfnihmmkbnkmnaaDoor
open Go.ChangeShapes Go.WideShapes Go.ChangeAt Go.RowKit
open Go.ChangeMaps (open_string)
namespace fnExactReadShape
set_option linter.unusedVariables false
set_option maxHeartbeats 4000000 in
theorem walk (w : World) (s0 : ByteArray) (b0 : s0.size ≤ maxLen) (hT : MaxS w) : Calls Tryd.prog 3 #[.string s0] w fun e w' => e = .returned (.bool true) ∧ New w w' := by
  by_cases hi : s0.size ≤ 1048576
  · have hd : decide ((1048576 : Int) < (s0.size : Int)) = false := by simp; omega
    have HT := Lib.hid hT
    clear hT
    obtain ⟨Z, hZ⟩ : ∃ Z, rsL s0 = Z := ⟨_, rfl⟩
    obtain ⟨C, hC⟩ : ∃ C, rsC s0 = C := ⟨_, rfl⟩
    have hln : Z.length ≤ 1048576 := by rw [← hZ]; exact Nat.le_trans (rsL_len s0) hi
    have elr := eqL_self Z
    have hcc : (C != C) = false := bne_self_eq_false C
    have S0 := Lib.hid (fun w => c_specReadShape s0 w hi)
    have I0 := Lib.hid (fun w h => c_implReadShape s0 w hi h)
    rw [hZ, hC] at S0 I0
    go_enter Tryd.func3, Tryd.ntmps3
    go_wp2_with fail
    refine (S0.out _).mono ?_
    rintro e w1 ⟨ws, rfl, W1, n1⟩
    have q1 := n1.size
    have N := n1
    go_wp2_with fail
    refine (I0.out _ (HT.out.new N)).mono ?_
    rintro e w2 ⟨gs, rfl, G2, n2⟩
    have q2 := n2.size
    replace N := N.step n2
    replace W1 := W1.new n2
    go_wp2_with fail
    refine (c_eqPointS _ _ _ _ _ _ Z Z _ G2.rd W1.rd).mono ?_
    rintro e w3 ⟨rfl, n3⟩
    have q3 := n3.size
    replace N := N.step n3
    replace W1 := W1.new n3
    replace G2 := G2.new n3
    rw [elr]
    go_wp2_with fail
    refine (c_markPointS _ _ _ _ _ 1 _ G2 (by omega) (by omega)).mono ?_
    rintro e w4 ⟨rfl, Y4, f4⟩
    have q4 := f4.size
    replace N := N.fr f4 (by omega)
    replace W1 := W1.fr f4 (by omega)
    go_wp2_with fail
    refine (c_heldPointS _ _ _ _ 1 _ Y4.rd (by omega) (by omega)).mono ?_
    rintro e w5 ⟨rfl, n5⟩
    have q5 := n5.size
    replace N := N.step n5
    replace W1 := W1.new n5
    replace Y4 := Y4.new n5
    go_wp2_with fail
    refine (I0.out _ (HT.out.new N)).mono ?_
    rintro e w6 ⟨gs6, rfl, G6, n6⟩
    have q6 := n6.size
    replace N := N.step n6
    replace W1 := W1.new n6
    replace Y4 := Y4.new n6
    go_wp2_with fail
    refine (c_eqPointS _ _ _ _ _ _ Z Z _ G6.rd W1.rd).mono ?_
    rintro e w7 ⟨rfl, n7⟩
    have q7 := n7.size
    replace N := N.step n7
    replace Y4 := Y4.new n7
    rw [elr]
    go_wp2_with fail
    refine (c_heldPointS _ _ _ _ 1 _ Y4.rd (by omega) (by omega)).mono ?_
    rintro e w8 ⟨rfl, n8⟩
    replace N := N.step n8
    go_wp2
    go_ret
    exact ⟨rfl, N⟩
  · have hd : decide ((1048576 : Int) < (s0.size : Int)) = true := by simp; omega
    go_enter Tryd.func3, Tryd.ntmps3
    go_wp2
    go_ret
    exact ⟨rfl, New.same _⟩


set_option maxRecDepth 100000 in
theorem contract (H : Type) (enc : TypeId × Value → H) (W : World) (base : Nat) (args : Array Value) (ds gs : List (DataW H)) (before : List MemPlace)
    (hval0 : ∀ (j : Nat) t v, Tryd.f3.params[j]? = some t → args[j]? = some v → Value.okWide Tryd.prog W .any base t v)
    (hW : DataW.Whole enc Tryd.prog Tryd.f3.params.toList Rows.fnExactReadShapeSpec.vars false W args.toList ds gs before) (hL : laidMetH Tryd.prog Rows.fnExactReadShapeRow.laid W) (hsh : W.ShapedOpen Tryd.prog) :
    Calls Tryd.prog 3 args W fun e W' => ∃ v, e = .returned v ∧ Rows.fnExactReadShapeSpec.post enc Tryd.prog Tryd.f3 false true false false W args v W' := by
  have hval : ∀ (j : Nat) t v, Tryd.f3.params[j]? = some t → args[j]? = some v → Value.okWide Tryd.prog W .any base t v := hval0
  have hW' := hW
  obtain ⟨p, q, hA0, hV, rfl, _, _⟩ := hW
  have hA : DataW.TrodAll enc Tryd.prog W 0 (fun _ => true) true Tryd.f3.params.toList args.toList ds p := hA0
  rw [Tryd.params3] at hA hval
  obtain ⟨v0, vs0, d0, ds0, p0, q0, hargs, rfl, rfl, h0, t0⟩ := trodAll_cons hA
  obtain ⟨rfl, rfl, rfl⟩ := trodAll_nil t0
  obtain rfl : args = #[v0] := by cases args; simp_all
  obtain ⟨s0, rfl, _, _, b0⟩ := open_string Tryd.underlying9 (hval 0 9 v0 rfl rfl) h0
  refine (walk W s0 b0 (maxs_of hsh)).mono fun e W' ⟨he, hb⟩ => ⟨_, he, ?_⟩
  exact law_post prog_laid (by kernel_rfl) rfl Tryd.underlying4 rfl (by intro ds h; rw [Tryd.params3] at h; match ds, h with | [_], _ => exact ⟨rfl, rfl, rfl⟩) hW' hb

theorem reads (os : Os) {H : Type} (enc : TypeId × Value → H) : ∃ places, DataW.whole enc Tryd.prog ((laidWorldS os).forCall (fun _ _ => 0) ⟨#[], #[.string ⟨#[]⟩], []⟩).memory Tryd.f3.params.toList Rows.fnExactReadShapeSpec.vars false #[.string ⟨#[]⟩].toList 8 = some ([.lit (.string [])], [], places) :=
  ⟨[], by kernel_rfl⟩

set_option maxRecDepth 100000 in
theorem lifted (os : Os) (started : os.Started) (H : Type) (enc : TypeId × Value → H) (F : Stop.Interp) :
    ReturnsInHanded {} Tryd.checked os 3 .any ((OpenSpec.ofChange Rows.fnExactReadShapeSpec).preRow enc Tryd.prog Tryd.f3 Rows.fnExactReadShapeRow.domain false Rows.fnExactReadShapeRow.laid) (((OpenSpec.ofChange Rows.fnExactReadShapeSpec).at F).post enc Tryd.prog Tryd.f3 false true false false) := by
  obtain ⟨places, hx⟩ := reads os enc
  refine returnsInHanded_of_row (C := Tryd.checked) (s := OpenSpec.ofChange Rows.fnExactReadShapeSpec) prog_own started (by kernel_rfl) Tryd.func3
    (witness_row_at (enc := enc) (C := Tryd.checked) false (laidWorldS os) #[.string ⟨#[]⟩] rfl (by kernel_rfl) (by kernel_rfl) (by kernel_rfl)
      (OpenSpec.preRow_of_cond 8 hx (by kernel_rfl) (fun k hk => by cases hk) (by kernel_rfl) (laidMet_of_run' 8 (by kernel_rfl) (by kernel_rfl)))) ?_
  intro W base args ds gs before hval hW _ _ _ hL hsh _
  exact contract H enc W base args ds gs before hval hW hL hsh

set_option maxRecDepth 100000 in
theorem over : Rows.FnExactReadShapeSaid :=
  OpenClaim.holds_of_cond 3 Tryd.f3 rfl rfl rfl rfl rfl rfl rfl ⟨rfl, rfl, rfl, rfl, rfl⟩ rfl rfl rfl rfl rfl (by kernel_rfl) Tryd.func3 (by kernel_rfl)
    (of_decide_eq_true (by kernel_rfl)) (by unfold Func.isWrapper; first | (rw [if_pos (by decide +kernel)]; kernel_rfl) | (rw [if_neg (by decide +kernel)]; exact ⟨rfl, rfl⟩))
    (fun os started H enc _ F => by rw [OpenClaim.pre_eq_preRow]; exact lifted os started H enc F)

theorem plain (f : FuncId) (fn : Func) (hf : Tryd.pinned.checked.prog.funcNamed "loop.example/g01081/laws.FnExactReadShape" = some f) (hfn : Tryd.pinned.checked.prog.funcs[f]? = some fn) :
    false = Tryd.pinned.checked.prog.looks [] ∧ ∀ (j : Nat) t, fn.params[j]? = some t → Tryd.pinned.checked.prog.wantsStandIn t = false := by
  obtain rfl : f = 3 := Option.some.inj ((show Tryd.prog.funcNamed "loop.example/g01081/laws.FnExactReadShape" = some 3 by kernel_rfl).symm.trans hf) |>.symm
  obtain rfl : fn = Tryd.f3 := (Option.some.inj (Tryd.func3.symm.trans hfn)).symm
  refine ⟨by kernel_rfl, fun j t ht => ?_⟩
  rw [Tryd.params3] at ht
  have ht' := Array.mem_of_getElem? ht
  simp only [List.mem_toArray, List.mem_cons, List.not_mem_nil, or_false] at ht'
  rcases ht' with rfl
  · exact (show Tryd.prog.wantsStandIn 9 = false by kernel_rfl)

theorem proved : Rows.FnExactReadShapeCardSaid :=
  Claim7.holds_tied_plain_at .later [] _ _ _ _ over (fun _ h => by cases h) (by kernel_rfl) (fun _ h => by cases h) fnExactReadShape_row_tie rfl ⟨rfl, rfl⟩ (by kernel_rfl) rfl plain (by kernel_rfl)
end fnExactReadShape
#print axioms fnExactReadShape.proved

end Go.Proofs.YtfnihmmkbnkmnaaDoor
