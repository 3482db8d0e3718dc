/- What the law on reading points needs besides: the library's limit, points compared. -/
import Derived.Test.YthoobnepcbbdeaaDoorTab2
import Derived.Test.YthoobnepcbbdeaaDoorReadPt
namespace Go.Proofs.YthoobnepcbbdeaaDoor
open Go.RowKit Go.Deep

theorem blk_lt {w : World} {g o : Nat} {v : Value} (h : w.cell? ⟨g, o, none⟩ = some v) : g < w.heap.size := by
  rcases Nat.lt_or_ge g w.heap.size with h' | h'
  · exact h'
  · exfalso
    simp [World.cell?, Array.getElem?_eq_none h'] at h
/-- the library's limit holds some number -/
def MaxW (w : World) : Prop := ∃ m, w.cell? ⟨3, 0, none⟩ = some (.int .i64 m)
theorem maxw_of {W : World} (h : W.ShapedOpen Tryd.prog) : MaxW W := Tryd.laysM145.s1_3 W h
theorem max_new {w w2 : World} (h : MaxW w) (n : New w w2) : MaxW w2 := by
  obtain ⟨m, hm⟩ := h
  exact ⟨m, (n.cell (p := ⟨3, 0, none⟩) (blk_lt hm)).trans hm⟩
set_option maxHeartbeats 1000000 in
theorem c_eqPoint (p q : Int × Int) (w : World) : Calls Tryd.prog 20 #[.agg #[.int .i64 p.1, .int .i64 p.2], .agg #[.int .i64 q.1, .int .i64 q.2]] w fun e w' => e = .returned (.bool (decide (p = q))) ∧ New w w' := by
  by_cases h0 : p.1 = q.1
  · by_cases h1 : p.2 = q.2
    · have E := Lib.hid (show decide (p = q) = true from decide_eq_true (Prod.ext h0 h1))
      have g0 : (p.1 != q.1) = false := by simpa using h0
      have g1 : (p.2 != q.2) = false := by simpa using h1
      have k0 : (p.1 == q.1) = true := by simpa using h0
      have k1 : (p.2 == q.2) = true := by simpa using h1
      clear h0 h1
      go_enter Tryd.func20, Tryd.ntmps20
      go_wp2
      go_ret
      exact ⟨ret_bool E.out.symm, by go_grown⟩
    · have E := Lib.hid (show decide (p = q) = false from decide_eq_false (fun e => h1 (by rw [e])))
      have g0 : (p.1 != q.1) = false := by simpa using h0
      have g1 : (p.2 != q.2) = true := by simpa using h1
      have k0 : (p.1 == q.1) = true := by simpa using h0
      have k1 : (p.2 == q.2) = false := by simpa using h1
      clear h0 h1
      go_enter Tryd.func20, Tryd.ntmps20
      go_wp2
      go_ret
      exact ⟨ret_bool E.out.symm, by go_grown⟩
  · have E := Lib.hid (show decide (p = q) = false from decide_eq_false (fun e => h0 (by rw [e])))
    have g0 : (p.1 != q.1) = true := by simpa using h0
    have k0 : (p.1 == q.1) = false := by simpa using h0
    clear h0
    go_enter Tryd.func20, Tryd.ntmps20
    go_wp2
    go_ret
    exact ⟨ret_bool E.out.symm, by go_grown⟩
theorem c_eqPt_self (x y : Int) (w : World) : Calls Tryd.prog 20 #[.agg #[.int .i64 x, .int .i64 y], .agg #[.int .i64 x, .int .i64 y]] w fun e w' => e = .returned (.bool true) ∧ New w w' := by
  have := c_eqPoint (x, y) (x, y) w
  rw [decide_eq_true (rfl : (x, y) = (x, y))] at this
  exact this
end Go.Proofs.YthoobnepcbbdeaaDoor
