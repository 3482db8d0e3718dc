/- The law FnExactReadPoint returns true for every input that can be read as data, where the listed tables hold what the program's text lays. -/
import Derived.Test.YthoobnepcbbdeaaDoorTab3
namespace Go.Proofs.YthoobnepcbbdeaaDoor
open Go.ChangeShapes Go.WideShapes Go.ChangeAt Go.RowKit
open Go.ChangeMaps (open_string)
namespace fnExactReadPoint
set_option linter.unusedVariables false
theorem walk (w : World) (s0 : ByteArray) (b0 : s0.size ≤ maxLen) (hT : TabW w ∧ ErrW w ∧ MaxW w) : Calls Tryd.prog 7 #[.string s0] w fun e w' => e = .returned (.bool true) ∧ New w w' := by
  by_cases hi : s0.size ≤ 1048576
  · have hd : decide ((1048576 : Int) < (s0.size : Int)) = false := by simp; omega
    have HT := Lib.hid hT
    clear hT
    go_enter Tryd.func7, Tryd.ntmps7
    go_wp2_with fail
    refine (c_specReadPoint s0 _ hi).mono ?_
    rintro e w1 ⟨x, y, b, rfl, R1, n1⟩
    have HR := Lib.hid R1
    clear R1
    have BX : BoxV (w1.alloc (.cells #[.int .i64 x, .int .i64 y] 27)) w1.heap.size [.int .i64 x, .int .i64 y] := .two (by go_simp) (by go_simp) (by go_simp) (by go_simp) (by simp)
    have m1 : New w1 (w1.alloc (.cells #[.int .i64 x, .int .i64 y] 27)) := (New.same w1).box _
    go_wp2_with fail
    generalize (w1.alloc (.cells #[.int .i64 x, .int .i64 y] 27)) = w2 at *
    have N2 := n1.step m1
    have hMx := max_new HT.out.2.2 N2
    refine (c_implReadPoint s0 _ hi (tab_new HT.out.1 N2) (err_new HT.out.2.1 N2) hMx (by obtain ⟨m, hm⟩ := hMx; exact blk_lt hm)).mono ?_
    rintro e w3 ⟨x', y', b', rfl, R2, n3⟩
    obtain ⟨rfl, rfl, rfl⟩ := RpS.unique HR.out R2
    clear R2 hMx
    have e2 : (b != b) = false := by simp
    have BY : BoxV (w3.alloc (.cells #[.int .i64 x, .int .i64 y] 27)) w3.heap.size [.int .i64 x, .int .i64 y] := .two (by go_simp) (by go_simp) (by go_simp) (by go_simp) (by simp)
    have m3 : New w3 (w3.alloc (.cells #[.int .i64 x, .int .i64 y] 27)) := (New.same w3).box _
    have BZ := (BX.new n3).new m3
    go_upto_region 5 with fail
    generalize (w3.alloc (.cells #[.int .i64 x, .int .i64 y] 27)) = w4 at *
    have ⟨⟨c0, d0⟩, _, l0⟩ := BY.at2
    have ⟨⟨c1, d1⟩, _, l1⟩ := BZ.at2
    go_wp2_with (go_at_call 20; refine (c_eqPt_self x y _).mono ?_; rintro e w5 ⟨rfl, n5⟩)
    go_ret
    exact ⟨rfl, ((N2.step n3).step m3).step n5⟩
  · have hd : decide ((1048576 : Int) < (s0.size : Int)) = true := by simp; omega
    go_enter Tryd.func7, Tryd.ntmps7
    go_wp2
    go_ret
    exact ⟨rfl, New.same _⟩


theorem contract (H : Type) (enc : TypeId × Value → H) (W : World) (base : Nat) (args : Array Value) (ds gs : List (DataW H)) (before : List MemPlace)
    (hval0 : ∀ (j : Nat) t v, Tryd.f7.params[j]? = some t → args[j]? = some v → Value.okWide Tryd.prog W .any base t v)
    (hW : DataW.Whole enc Tryd.prog Tryd.f7.params.toList Rows.fnExactReadPointSpec.vars false W args.toList ds gs before) (hL : laidMetH Tryd.prog Rows.fnExactReadPointRow.laid W) (hsh : W.ShapedOpen Tryd.prog) :
    Calls Tryd.prog 7 args W fun e W' => ∃ v, e = .returned v ∧ Rows.fnExactReadPointSpec.post enc Tryd.prog Tryd.f7 false true false false W args v W' := by
  have hval : ∀ (j : Nat) t v, Tryd.f7.params[j]? = some t → args[j]? = some v → Value.okWide Tryd.prog W .any base t v := hval0
  have hW' := hW
  obtain ⟨p, q, hA0, hV, rfl, _, _⟩ := hW
  have hA : DataW.TrodAll enc Tryd.prog W 0 (fun _ => true) true Tryd.f7.params.toList args.toList ds p := hA0
  rw [Tryd.params7] at hA hval
  obtain ⟨v0, vs0, d0, ds0, p0, q0, hargs, rfl, rfl, h0, t0⟩ := trodAll_cons hA
  obtain ⟨rfl, rfl, rfl⟩ := trodAll_nil t0
  obtain rfl : args = #[v0] := by cases args; simp_all
  obtain ⟨s0, rfl, _, _, b0⟩ := open_string Tryd.underlying9 (hval 0 9 v0 rfl rfl) h0
  refine (walk W s0 b0 ⟨(tabe_of hL).1, (tabe_of hL).2, maxw_of hsh⟩).mono fun e W' ⟨he, hb⟩ => ⟨_, he, ?_⟩
  exact law_post prog_laid (by kernel_rfl) rfl Tryd.underlying4 rfl (by intro ds h; rw [Tryd.params7] at h; match ds, h with | [_], _ => exact ⟨rfl, rfl, rfl⟩) hW' hb

theorem reads (os : Os) {H : Type} (enc : TypeId × Value → H) : ∃ places, DataW.whole enc Tryd.prog ((laidWorld2 os).forCall (fun _ _ => 0) ⟨#[], #[.string ⟨#[]⟩], []⟩).memory Tryd.f7.params.toList Rows.fnExactReadPointSpec.vars false #[.string ⟨#[]⟩].toList 8 = some ([.lit (.string [])], [], places) :=
  ⟨[], by kernel_rfl⟩

set_option maxRecDepth 100000 in
theorem lifted (os : Os) (started : os.Started) (H : Type) (enc : TypeId × Value → H) (F : Stop.Interp) :
    ReturnsInHanded {} Tryd.checked os 7 .any ((OpenSpec.ofChange Rows.fnExactReadPointSpec).preRow enc Tryd.prog Tryd.f7 Rows.fnExactReadPointRow.domain false Rows.fnExactReadPointRow.laid) (((OpenSpec.ofChange Rows.fnExactReadPointSpec).at F).post enc Tryd.prog Tryd.f7 false true false false) := by
  obtain ⟨places, hx⟩ := reads os enc
  refine returnsInHanded_of_row (C := Tryd.checked) (s := OpenSpec.ofChange Rows.fnExactReadPointSpec) prog_own started (by kernel_rfl) Tryd.func7
    (witness_row_at (enc := enc) (C := Tryd.checked) false (laidWorld2 os) #[.string ⟨#[]⟩] rfl (by kernel_rfl) (by kernel_rfl) (by kernel_rfl)
      (OpenSpec.preRow_of_cond 8 hx (by kernel_rfl) (fun k hk => by cases hk) (by kernel_rfl) (laidMet_of_run' 8 (by kernel_rfl) (by kernel_rfl)))) ?_
  intro W base args ds gs before hval hW _ _ _ hL hsh _
  exact contract H enc W base args ds gs before hval hW hL hsh

set_option maxRecDepth 100000 in
theorem over : Rows.FnExactReadPointSaid :=
  OpenClaim.holds_of_cond 7 Tryd.f7 rfl rfl rfl rfl rfl rfl rfl ⟨rfl, rfl, rfl, rfl, rfl⟩ rfl rfl rfl rfl rfl (by kernel_rfl) Tryd.func7 (by kernel_rfl)
    (of_decide_eq_true (by kernel_rfl)) (by unfold Func.isWrapper; first | (rw [if_pos (by decide +kernel)]; kernel_rfl) | (rw [if_neg (by decide +kernel)]; exact ⟨rfl, rfl⟩))
    (fun os started H enc _ F => by rw [OpenClaim.pre_eq_preRow]; exact lifted os started H enc F)

theorem plain (f : FuncId) (fn : Func) (hf : Tryd.pinned.checked.prog.funcNamed "loop.example/g01081/laws.FnExactReadPoint" = some f) (hfn : Tryd.pinned.checked.prog.funcs[f]? = some fn) :
    true = Tryd.pinned.checked.prog.looks [] ∧ ∀ (j : Nat) t, fn.params[j]? = some t → Tryd.pinned.checked.prog.wantsStandIn t = false := by
  obtain rfl : f = 7 := Option.some.inj ((show Tryd.prog.funcNamed "loop.example/g01081/laws.FnExactReadPoint" = some 7 by kernel_rfl).symm.trans hf) |>.symm
  obtain rfl : fn = Tryd.f7 := (Option.some.inj (Tryd.func7.symm.trans hfn)).symm
  refine ⟨by kernel_rfl, fun j t ht => ?_⟩
  rw [Tryd.params7] at ht
  have ht' := Array.mem_of_getElem? ht
  simp only [List.mem_toArray, List.mem_cons, List.not_mem_nil, or_false] at ht'
  rcases ht' with rfl
  · exact (show Tryd.prog.wantsStandIn 9 = false by kernel_rfl)

theorem proved : Rows.FnExactReadPointCardSaid :=
  Claim7.holds_tied_plain_at .later [] _ _ _ _ over (fun _ h => by cases h) (by kernel_rfl) (fun _ h => by cases h) fnExactReadPoint_row_tie rfl ⟨rfl, rfl⟩ (by kernel_rfl) rfl plain (by kernel_rfl)
end fnExactReadPoint
#print axioms fnExactReadPoint.proved

end Go.Proofs.YthoobnepcbbdeaaDoor
