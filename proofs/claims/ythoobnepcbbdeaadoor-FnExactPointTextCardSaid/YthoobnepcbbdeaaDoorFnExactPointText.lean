/- The law FnExactPointText returns true for every input that can be read as data, where the listed tables hold what the program's text lays. -/
import Derived.Test.YthoobnepcbbdeaaDoorTab
import Derived.Test.YthoobnepcbbdeaaDoorPText
namespace Go.Proofs.YthoobnepcbbdeaaDoor
open Go.ChangeShapes Go.WideShapes Go.ChangeAt Go.RowKit
open Go.ChangeMaps (open_string)
namespace fnExactPointText
set_option linter.unusedVariables false
theorem walk (w : World) (x0 y0 : Int) (bx0 : -9223372036854775808 ≤ x0 ∧ x0 ≤ 9223372036854775807) (by0 : -9223372036854775808 ≤ y0 ∧ y0 ≤ 9223372036854775807) (hT : TabW w) : Calls Tryd.prog 4 #[.agg #[.int .i64 x0, .int .i64 y0]] w fun e w' => e = .returned (.bool true) ∧ New w w' := by
  have eX : ((ptT x0 y0).toList == (ptT x0 y0).toList) = true := beq_self_eq_true _
  have n0 : New w (w.alloc (.cells #[.int .i64 x0, .int .i64 y0] 25)) := (New.same w).box _
  have B0 : BoxV (w.alloc (.cells #[.int .i64 x0, .int .i64 y0] 25)) w.heap.size [.int .i64 x0, .int .i64 y0] := .two (by go_simp) (by go_simp) (by go_simp) (by go_simp) (by simp)
  go_enter Tryd.func4, Tryd.ntmps4
  go_wp2_with fail
  generalize (w.alloc (.cells #[.int .i64 x0, .int .i64 y0] 25)) = W0 at *
  refine (c_toPoint _ _ _).mono ?_
  rintro e w1 ⟨rfl, n1⟩
  have ⟨⟨t0, t1⟩, _, tl⟩ := (B0.new n1).at2
  go_wp2_with fail
  refine (c_specPointText x0 y0 _ bx0 by0).mono ?_
  rintro e w2 ⟨rfl, n2⟩
  have ⟨⟨u0, u1⟩, _, ul⟩ := ((B0.new n1).new n2).at2
  clear t0 t1 tl
  go_wp2_with fail
  refine (c_toPoint _ _ _).mono ?_
  rintro e w3 ⟨rfl, n3⟩
  clear u0 u1 ul
  go_wp2_with fail
  refine (c_implPointText x0 y0 _ bx0 by0 (tab_new hT (((n0.step n1).step n2).step n3))).mono ?_
  rintro e w4 ⟨rfl, n4⟩
  go_wp2
  go_ret
  exact ⟨rfl, (((n0.step n1).step n2).step n3).step n4⟩


theorem contract (H : Type) (enc : TypeId × Value → H) (W : World) (base : Nat) (args : Array Value) (ds gs : List (DataW H)) (before : List MemPlace)
    (hval0 : ∀ (j : Nat) t v, Tryd.f4.params[j]? = some t → args[j]? = some v → Value.okWide Tryd.prog W .any base t v)
    (hW : DataW.Whole enc Tryd.prog Tryd.f4.params.toList Rows.fnExactPointTextSpec.vars false W args.toList ds gs before) (hL : laidMetH Tryd.prog Rows.fnExactPointTextRow.laid W) :
    Calls Tryd.prog 4 args W fun e W' => ∃ v, e = .returned v ∧ Rows.fnExactPointTextSpec.post enc Tryd.prog Tryd.f4 false true false false W args v W' := by
  have hval : ∀ (j : Nat) t v, Tryd.f4.params[j]? = some t → args[j]? = some v → Value.okWide Tryd.prog W .any base t v := hval0
  have hW' := hW
  obtain ⟨p, q, hA0, hV, rfl, _, _⟩ := hW
  have hA : DataW.TrodAll enc Tryd.prog W 0 (fun _ => true) true Tryd.f4.params.toList args.toList ds p := hA0
  rw [Tryd.params4] at hA hval
  obtain ⟨v0, vs0, d0, ds0, p0, q0, hargs, rfl, rfl, h0, t0⟩ := trodAll_cons hA
  obtain ⟨rfl, rfl, rfl⟩ := trodAll_nil t0
  obtain rfl : args = #[v0] := by cases args; simp_all
  obtain ⟨⟨x0, y0⟩, rfl, bx0, by0⟩ := open_ii Tryd.underlying25 (by kernel_rfl) rfl rfl rfl rfl (by kernel_rfl) (by kernel_rfl) Tryd.underlying2 Tryd.underlying2 (hval 0 25 v0 rfl rfl) h0
  refine (walk W x0 y0 bx0 by0 (tabw_of hL)).mono fun e W' ⟨he, hb⟩ => ⟨_, he, ?_⟩
  exact law_post prog_laid (by kernel_rfl) rfl Tryd.underlying4 rfl (by intro ds h; rw [Tryd.params4] at h; match ds, h with | [_], _ => exact ⟨rfl, rfl, rfl⟩) hW' hb

theorem reads (os : Os) {H : Type} (enc : TypeId × Value → H) : ∃ places, DataW.whole enc Tryd.prog ((laidWorld os).forCall (fun _ _ => 0) ⟨#[], #[.agg #[.int .i64 0, .int .i64 0]], []⟩).memory Tryd.f4.params.toList Rows.fnExactPointTextSpec.vars false #[.agg #[.int .i64 0, .int .i64 0]].toList 8 = some ([.agg [.lit (.int .i64 0), .lit (.int .i64 0)]], [], places) :=
  ⟨[], by kernel_rfl⟩

set_option maxRecDepth 100000 in
theorem lifted (os : Os) (started : os.Started) (H : Type) (enc : TypeId × Value → H) (F : Stop.Interp) :
    ReturnsInHanded {} Tryd.checked os 4 .any ((OpenSpec.ofChange Rows.fnExactPointTextSpec).preRow enc Tryd.prog Tryd.f4 Rows.fnExactPointTextRow.domain false Rows.fnExactPointTextRow.laid) (((OpenSpec.ofChange Rows.fnExactPointTextSpec).at F).post enc Tryd.prog Tryd.f4 false true false false) := by
  obtain ⟨places, hx⟩ := reads os enc
  refine returnsInHanded_of_row (C := Tryd.checked) (s := OpenSpec.ofChange Rows.fnExactPointTextSpec) prog_own started (by kernel_rfl) Tryd.func4
    (witness_row_at (enc := enc) (C := Tryd.checked) false (laidWorld os) #[.agg #[.int .i64 0, .int .i64 0]] rfl (by kernel_rfl) (by kernel_rfl) (by kernel_rfl)
      (OpenSpec.preRow_of_cond 8 hx (by kernel_rfl) (fun k hk => by cases hk) (by kernel_rfl) (laidMet_of_run' 8 (by kernel_rfl) (by kernel_rfl)))) ?_
  intro W base args ds gs before hval hW _ _ _ hL _ _
  exact contract H enc W base args ds gs before hval hW hL

set_option maxRecDepth 100000 in
theorem over : Rows.FnExactPointTextSaid :=
  OpenClaim.holds_of_cond 4 Tryd.f4 rfl rfl rfl rfl rfl rfl rfl ⟨rfl, rfl, rfl, rfl, rfl⟩ rfl rfl rfl rfl rfl (by kernel_rfl) Tryd.func4 (by kernel_rfl)
    (of_decide_eq_true (by kernel_rfl)) (by unfold Func.isWrapper; first | (rw [if_pos (by decide +kernel)]; kernel_rfl) | (rw [if_neg (by decide +kernel)]; exact ⟨rfl, rfl⟩))
    (fun os started H enc _ F => by rw [OpenClaim.pre_eq_preRow]; exact lifted os started H enc F)

theorem plain (f : FuncId) (fn : Func) (hf : Tryd.pinned.checked.prog.funcNamed "loop.example/g01081/laws.FnExactPointText" = some f) (hfn : Tryd.pinned.checked.prog.funcs[f]? = some fn) :
    true = Tryd.pinned.checked.prog.looks [] ∧ ∀ (j : Nat) t, fn.params[j]? = some t → Tryd.pinned.checked.prog.wantsStandIn t = false := by
  obtain rfl : f = 4 := Option.some.inj ((show Tryd.prog.funcNamed "loop.example/g01081/laws.FnExactPointText" = some 4 by kernel_rfl).symm.trans hf) |>.symm
  obtain rfl : fn = Tryd.f4 := (Option.some.inj (Tryd.func4.symm.trans hfn)).symm
  refine ⟨by kernel_rfl, fun j t ht => ?_⟩
  rw [Tryd.params4] at ht
  have ht' := Array.mem_of_getElem? ht
  simp only [List.mem_toArray, List.mem_cons, List.not_mem_nil, or_false] at ht'
  rcases ht' with rfl
  · exact (show Tryd.prog.wantsStandIn 25 = false by kernel_rfl)

theorem proved : Rows.FnExactPointTextCardSaid :=
  Claim7.holds_tied_plain_at .later [] _ _ _ _ over (fun _ h => by cases h) (by kernel_rfl) (fun _ h => by cases h) fnExactPointText_row_tie rfl ⟨rfl, rfl⟩ (by kernel_rfl) rfl plain (by kernel_rfl)
end fnExactPointText
#print axioms fnExactPointText.proved

end Go.Proofs.YthoobnepcbbdeaaDoor
