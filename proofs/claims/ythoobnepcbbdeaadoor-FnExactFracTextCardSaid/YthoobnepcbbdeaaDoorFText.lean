/- Contracts of the functions that write a fraction as a text. -/
import Derived.Test.YthoobnepcbbdeaaDoorDec
import Derived.Test.YthoobnepcbbdeaaDoorFrac
import Derived.Test.YthoobnepcbbdeaaDoorBox
import Derived.Test.YthoobnepcbbdeaaDoorLater
import Derived.Deep.DeepCutAuto
import Derived.Shelf.Abstract
namespace Go.Proofs.YthoobnepcbbdeaaDoor
open Go.RowKit Go.Deep
set_option linter.unusedVariables false
set_option linter.unusedSimpArgs false

/-- a fraction's text -/
def frT (x y : Int) : ByteArray := if vfB x y then (if y = 1 then decT x else decT x ++ ⟨#[47]⟩ ++ decT y) else ⟨#[]⟩

set_option maxRecDepth 20000 in
set_option maxHeartbeats 1000000 in
theorem c_specFracText (x y : Int) (w : World) (bx : -9223372036854775808 ≤ x ∧ x ≤ 9223372036854775807) (by_ : -9223372036854775808 ≤ y ∧ y ≤ 9223372036854775807) : Calls Tryd.prog 13 #[.agg #[.int .i64 x, .int .i64 y]] w fun e w' => e = .returned (.string (frT x y)) ∧ New w w' := by
  have n0 : New w (w.alloc (.cells #[.int .i64 x, .int .i64 y] 33)) := (New.same w).box _
  have B0 : BoxV (w.alloc (.cells #[.int .i64 x, .int .i64 y] 33)) w.heap.size [.int .i64 x, .int .i64 y] := .two (by go_simp) (by go_simp) (by go_simp) (by go_simp) (by simp)
  cases hv : vfB x y
  · have E := Lib.hid (show frT x y = ⟨#[]⟩ by simp [frT, hv])
    go_enter Tryd.func13, Tryd.ntmps13
    go_wp2_with fail
    generalize (w.alloc (.cells #[.int .i64 x, .int .i64 y] 33)) = W0 at *
    refine (c_l01Frac x y _).mono ?_
    rintro e w1 ⟨rfl, n1⟩
    have ⟨⟨t0, t1⟩, _, tl⟩ := (B0.new n1).at2
    go_wp2
    go_ret
    exact ⟨by rw [E.out]; rfl, n0.step n1⟩
  · by_cases hy : y = 1
    · subst hy
      have E := Lib.hid (show frT x 1 = decT x by simp [frT, hv])
      go_enter Tryd.func13, Tryd.ntmps13
      go_wp2_with fail
      generalize (w.alloc (.cells #[.int .i64 x, .int .i64 1] 33)) = W0 at *
      refine (c_l01Frac x 1 _).mono ?_
      rintro e w1 ⟨rfl, n1⟩
      have ⟨⟨t0, t1⟩, _, tl⟩ := (B0.new n1).at2
      go_wp2_with fail
      refine (c_specDecimal x _ bx.1 bx.2).mono ?_
      rintro e w2 ⟨rfl, n2⟩
      go_wp2
      go_ret
      exact ⟨by rw [E.out]; rfl, (n0.step n1).step n2⟩
    · have E := Lib.hid (show frT x y = decT x ++ ⟨#[47]⟩ ++ decT y by simp [frT, hv, hy])
      have hy1 : decide (y = 1) = false := by simp [hy]
      have z1 := decT_size x bx.1 bx.2
      have z2 := decT_size y by_.1 by_.2
      have z3 : (ByteArray.mk #[47]).size = 1 := rfl
      have s1 : ¬ (9223372036854775807 < (decT x).size + (ByteArray.mk #[47]).size) := by omega
      have s2 : ¬ (9223372036854775807 < (decT x ++ ByteArray.mk #[47]).size + (decT y).size) := by rw [ByteArray.size_append]; omega
      have s3 : ¬ (9223372036854775807 < (decT x).size + (ByteArray.mk #[47]).size + (decT y).size) := by omega
      clear z1 z2 z3
      go_enter Tryd.func13, Tryd.ntmps13
      go_wp2_with fail
      generalize (w.alloc (.cells #[.int .i64 x, .int .i64 y] 33)) = W0 at *
      refine (c_l01Frac x y _).mono ?_
      rintro e w1 ⟨rfl, n1⟩
      have ⟨⟨t0, t1⟩, _, tl⟩ := (B0.new n1).at2
      go_upto_region 5 with fail
      have l0 := Later.cell t0 tl
      have l1 := Later.cell t1 tl
      have C1 := Lib.hid (fun (t : Later w1) => c_specDecimal x t.w bx.1 bx.2)
      have C2 := Lib.hid (fun (t : Later w1) => c_specDecimal y t.w by_.1 by_.2)
      (refine wp_region_later (by kernel_rfl) (by kernel_rfl) ?_; (repeat (go_big_quiet_step ((first | (go_at_call_of 8 (Value.int .i64 x); exact later_of (C1.out _)) | (go_at_call 8; exact later_of (C2.out _)))))); refine wpQuiet_nil ?_; intro wq hw'; obtain ⟨⟨wz, nq⟩, hwz⟩ := hw'; have hwz' : wq = wz := hwz; subst hwz'; clear hwz)
      go_wp2
      go_ret
      exact ⟨by rw [E.out]; rfl, (n0.step n1).step nq⟩
set_option maxRecDepth 20000 in
set_option maxHeartbeats 1000000 in
theorem c_implFracText (x y : Int) (w : World) (bx : -9223372036854775808 ≤ x ∧ x ≤ 9223372036854775807) (by_ : -9223372036854775808 ≤ y ∧ y ≤ 9223372036854775807) (hT : TabW w) : Calls Tryd.prog 15 #[.agg #[.int .i64 x, .int .i64 y]] w fun e w' => e = .returned (.string (frT x y)) ∧ New w w' := by
  have n0 : New w (w.alloc (.cells #[.int .i64 x, .int .i64 y] 33)) := (New.same w).box _
  have B0 : BoxV (w.alloc (.cells #[.int .i64 x, .int .i64 y] 33)) w.heap.size [.int .i64 x, .int .i64 y] := .two (by go_simp) (by go_simp) (by go_simp) (by go_simp) (by simp)
  cases hv : vfB x y
  · have E := Lib.hid (show frT x y = ⟨#[]⟩ by simp [frT, hv])
    go_enter Tryd.func15, Tryd.ntmps15
    go_wp2_with fail
    generalize (w.alloc (.cells #[.int .i64 x, .int .i64 y] 33)) = W0 at *
    refine (c_implValidFrac x y _).mono ?_
    rintro e w1 ⟨rfl, n1⟩
    have ⟨⟨t0, t1⟩, _, tl⟩ := (B0.new n1).at2
    go_wp2
    go_ret
    exact ⟨by rw [E.out]; rfl, n0.step n1⟩
  · by_cases hy : y = 1
    · subst hy
      have E := Lib.hid (show frT x 1 = decT x by simp [frT, hv])
      go_enter Tryd.func15, Tryd.ntmps15
      go_wp2_with fail
      generalize (w.alloc (.cells #[.int .i64 x, .int .i64 1] 33)) = W0 at *
      refine (c_implValidFrac x 1 _).mono ?_
      rintro e w1 ⟨rfl, n1⟩
      have ⟨⟨t0, t1⟩, _, tl⟩ := (B0.new n1).at2
      have HT := tab_new hT (n0.step n1)
      go_wp2_with fail
      refine (c_implDecimal x _ bx.1 bx.2 HT).mono ?_
      rintro e w2 ⟨rfl, n2⟩
      go_wp2
      go_ret
      exact ⟨by rw [E.out]; rfl, (n0.step n1).step n2⟩
    · have E := Lib.hid (show frT x y = decT x ++ ⟨#[47]⟩ ++ decT y by simp [frT, hv, hy])
      have hy1 : decide (y = 1) = false := by simp [hy]
      have z1 := decT_size x bx.1 bx.2
      have z2 := decT_size y by_.1 by_.2
      have z3 : (ByteArray.mk #[47]).size = 1 := rfl
      have s1 : ¬ (9223372036854775807 < (decT x).size + (ByteArray.mk #[47]).size) := by omega
      have s2 : ¬ (9223372036854775807 < (decT x ++ ByteArray.mk #[47]).size + (decT y).size) := by rw [ByteArray.size_append]; omega
      have s3 : ¬ (9223372036854775807 < (decT x).size + (ByteArray.mk #[47]).size + (decT y).size) := by omega
      clear z1 z2 z3
      go_enter Tryd.func15, Tryd.ntmps15
      go_wp2_with fail
      generalize (w.alloc (.cells #[.int .i64 x, .int .i64 y] 33)) = W0 at *
      refine (c_implValidFrac x y _).mono ?_
      rintro e w1 ⟨rfl, n1⟩
      have ⟨⟨t0, t1⟩, _, tl⟩ := (B0.new n1).at2
      have HT := tab_new hT (n0.step n1)
      go_upto_region 5 with fail
      have l0 := Later.cell t0 tl
      have l1 := Later.cell t1 tl
      have C1 := Lib.hid (fun (t : Later w1) => c_implDecimal x t.w bx.1 bx.2 (tab_new HT t.new))
      have C2 := Lib.hid (fun (t : Later w1) => c_implDecimal y t.w by_.1 by_.2 (tab_new HT t.new))
      (refine wp_region_later (by kernel_rfl) (by kernel_rfl) ?_; (repeat (go_big_quiet_step ((first | (go_at_call_of 9 (Value.int .i64 x); exact later_of (C1.out _)) | (go_at_call 9; exact later_of (C2.out _)))))); refine wpQuiet_nil ?_; intro wq hw'; obtain ⟨⟨wz, nq⟩, hwz⟩ := hw'; have hwz' : wq = wz := hwz; subst hwz'; clear hwz)
      go_wp2
      go_ret
      exact ⟨by rw [E.out]; rfl, (n0.step n1).step nq⟩
set_option maxHeartbeats 400000 in
theorem c_toFrac (x y : Int) (w : World) : Calls Tryd.prog 14 #[.agg #[.int .i64 x, .int .i64 y]] w fun e w' => e = .returned (.agg #[.int .i64 x, .int .i64 y]) ∧ New w w' := by
  go_enter Tryd.func14, Tryd.ntmps14
  go_wp2
  exact bodyPost_ret (v := .agg #[.int .i64 x, .int .i64 y]) (by simp [results, Tryd.results14, go_sem]) rfl ⟨rfl, by go_grown⟩
end Go.Proofs.YthoobnepcbbdeaaDoor
