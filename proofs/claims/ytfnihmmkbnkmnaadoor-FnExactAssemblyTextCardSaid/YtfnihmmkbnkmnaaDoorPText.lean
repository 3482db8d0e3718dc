/- Contracts of the functions that write a point as a text. -/
import Derived.Test.YtfnihmmkbnkmnaaDoorDec
import Derived.Test.YtfnihmmkbnkmnaaDoorPt
import Derived.Test.YtfnihmmkbnkmnaaDoorBox
import Derived.Test.YtfnihmmkbnkmnaaDoorLater
import Derived.Deep.DeepCutAuto
import Derived.Shelf.Abstract
namespace Go.Proofs.YtfnihmmkbnkmnaaDoor
open Go.RowKit Go.Deep
set_option linter.unusedVariables false
set_option linter.unusedSimpArgs false

/-- a point's text -/
def ptT (x y : Int) : ByteArray := if vpB x y then decT x ++ ⟨#[44]⟩ ++ decT y else ⟨#[]⟩

set_option maxRecDepth 20000 in
set_option maxHeartbeats 1000000 in
theorem c_specPointText (x y : Int) (w : World) (bx : -9223372036854775808 ≤ x ∧ x ≤ 9223372036854775807) (by_ : -9223372036854775808 ≤ y ∧ y ≤ 9223372036854775807) : Calls Tryd.prog 78 #[.agg #[.int .i64 x, .int .i64 y]] w fun e w' => e = .returned (.string (ptT x y)) ∧ New w w' := by
  have n0 : New w (w.alloc (.cells #[.int .i64 x, .int .i64 y] 55)) := (New.same w).box _
  have B0 : BoxV (w.alloc (.cells #[.int .i64 x, .int .i64 y] 55)) w.heap.size [.int .i64 x, .int .i64 y] := .two (by go_simp) (by go_simp) (by go_simp) (by go_simp) (by simp)
  cases hv : vpB x y
  · have E := Lib.hid (show ptT x y = ⟨#[]⟩ by simp [ptT, hv])
    go_enter Tryd.func78, Tryd.ntmps78
    go_wp2_with fail
    generalize (w.alloc (.cells #[.int .i64 x, .int .i64 y] 55)) = W0 at *
    refine (c_l01Point x y _).mono ?_
    rintro e w1 ⟨rfl, n1⟩
    have ⟨⟨t0, t1⟩, _, tl⟩ := (B0.new n1).at2
    go_wp2
    go_ret
    exact ⟨by rw [E.out]; rfl, n0.step n1⟩
  · have E := Lib.hid (show ptT x y = decT x ++ ⟨#[44]⟩ ++ decT y by simp [ptT, hv])
    have z1 := decT_size x bx.1 bx.2
    have z2 := decT_size y by_.1 by_.2
    have z3 : (ByteArray.mk #[44]).size = 1 := rfl
    have s1 : ¬ (9223372036854775807 < (decT x).size + (ByteArray.mk #[44]).size) := by omega
    have s2 : ¬ (9223372036854775807 < (decT x ++ ByteArray.mk #[44]).size + (decT y).size) := by rw [ByteArray.size_append]; omega
    have s3 : ¬ (9223372036854775807 < (decT x).size + (ByteArray.mk #[44]).size + (decT y).size) := by omega
    clear z1 z2 z3
    go_enter Tryd.func78, Tryd.ntmps78
    go_wp2_with fail
    generalize (w.alloc (.cells #[.int .i64 x, .int .i64 y] 55)) = W0 at *
    refine (c_l01Point x y _).mono ?_
    rintro e w1 ⟨rfl, n1⟩
    have ⟨⟨t0, t1⟩, _, tl⟩ := (B0.new n1).at2
    go_upto_region 3 with fail
    have l0 := Later.cell t0 tl
    have l1 := Later.cell t1 tl
    have C1 := Lib.hid (fun (t : Later w1) => c_specDecimal x t.w bx.1 bx.2)
    have C2 := Lib.hid (fun (t : Later w1) => c_specDecimal y t.w by_.1 by_.2)
    (refine wp_region_later (by kernel_rfl) (by kernel_rfl) ?_; (repeat (go_big_quiet_step ((first | (go_at_call_of 65 (Value.int .i64 x); exact later_of (C1.out _)) | (go_at_call 65; exact later_of (C2.out _)))))); refine wpQuiet_nil ?_; intro wq hw'; obtain ⟨⟨wz, nq⟩, hwz⟩ := hw'; have hwz' : wq = wz := hwz; subst hwz'; clear hwz)
    go_wp2
    go_ret
    exact ⟨by rw [E.out]; rfl, (n0.step n1).step nq⟩
set_option maxRecDepth 20000 in
set_option maxHeartbeats 1000000 in
theorem c_implPointText (x y : Int) (w : World) (bx : -9223372036854775808 ≤ x ∧ x ≤ 9223372036854775807) (by_ : -9223372036854775808 ≤ y ∧ y ≤ 9223372036854775807) (hT : TabW w) : Calls Tryd.prog 84 #[.agg #[.int .i64 x, .int .i64 y]] w fun e w' => e = .returned (.string (ptT x y)) ∧ New w w' := by
  have n0 : New w (w.alloc (.cells #[.int .i64 x, .int .i64 y] 55)) := (New.same w).box _
  have B0 : BoxV (w.alloc (.cells #[.int .i64 x, .int .i64 y] 55)) w.heap.size [.int .i64 x, .int .i64 y] := .two (by go_simp) (by go_simp) (by go_simp) (by go_simp) (by simp)
  cases hv : vpB x y
  · have E := Lib.hid (show ptT x y = ⟨#[]⟩ by simp [ptT, hv])
    go_enter Tryd.func84, Tryd.ntmps84
    go_wp2_with fail
    generalize (w.alloc (.cells #[.int .i64 x, .int .i64 y] 55)) = W0 at *
    refine (c_implValidPoint x y _).mono ?_
    rintro e w1 ⟨rfl, n1⟩
    have ⟨⟨t0, t1⟩, _, tl⟩ := (B0.new n1).at2
    go_wp2
    go_ret
    exact ⟨by rw [E.out]; rfl, n0.step n1⟩
  · have E := Lib.hid (show ptT x y = decT x ++ ⟨#[44]⟩ ++ decT y by simp [ptT, hv])
    have z1 := decT_size x bx.1 bx.2
    have z2 := decT_size y by_.1 by_.2
    have z3 : (ByteArray.mk #[44]).size = 1 := rfl
    have s1 : ¬ (9223372036854775807 < (decT x).size + (ByteArray.mk #[44]).size) := by omega
    have s2 : ¬ (9223372036854775807 < (decT x ++ ByteArray.mk #[44]).size + (decT y).size) := by rw [ByteArray.size_append]; omega
    have s3 : ¬ (9223372036854775807 < (decT x).size + (ByteArray.mk #[44]).size + (decT y).size) := by omega
    clear z1 z2 z3
    go_enter Tryd.func84, Tryd.ntmps84
    go_wp2_with fail
    generalize (w.alloc (.cells #[.int .i64 x, .int .i64 y] 55)) = W0 at *
    refine (c_implValidPoint x y _).mono ?_
    rintro e w1 ⟨rfl, n1⟩
    have ⟨⟨t0, t1⟩, _, tl⟩ := (B0.new n1).at2
    have HT := tab_new hT (n0.step n1)
    go_upto_region 3 with fail
    have l0 := Later.cell t0 tl
    have l1 := Later.cell t1 tl
    have C1 := Lib.hid (fun (t : Later w1) => c_implDecimal x t.w bx.1 bx.2 (tab_new HT t.new))
    have C2 := Lib.hid (fun (t : Later w1) => c_implDecimal y t.w by_.1 by_.2 (tab_new HT t.new))
    (refine wp_region_later (by kernel_rfl) (by kernel_rfl) ?_; (repeat (go_big_quiet_step ((first | (go_at_call_of 73 (Value.int .i64 x); exact later_of (C1.out _)) | (go_at_call 73; exact later_of (C2.out _)))))); refine wpQuiet_nil ?_; intro wq hw'; obtain ⟨⟨wz, nq⟩, hwz⟩ := hw'; have hwz' : wq = wz := hwz; subst hwz'; clear hwz)
    go_wp2
    go_ret
    exact ⟨by rw [E.out]; rfl, (n0.step n1).step nq⟩
end Go.Proofs.YtfnihmmkbnkmnaaDoor
