/- Boxes of four cells; what is kept of two boxes. -/
import Derived.Test.YtfnihmmkbnkmnaaDoorBox
namespace Go.Proofs.YtfnihmmkbnkmnaaDoor
open Go.RowKit Go.Deep
set_option linter.unusedVariables false

theorem BoxV.four {w : World} {b : Nat} {x y z u : Value} (h1 : w.cell? ⟨b, 0, none⟩ = some x) (h2 : w.cell? ⟨b, 1, none⟩ = some y) (h3 : w.cell? ⟨b, 2, none⟩ = some z) (h4 : w.cell? ⟨b, 3, none⟩ = some u) (f1 : w.frozen? ⟨b, 0, none⟩ = false) (f2 : w.frozen? ⟨b, 1, none⟩ = false) (f3 : w.frozen? ⟨b, 2, none⟩ = false) (f4 : w.frozen? ⟨b, 3, none⟩ = false) (h5 : b < w.heap.size) : BoxV w b [x, y, z, u] := by
  refine ⟨fun j v hj => ?_, fun j hj => ?_, h5⟩
  · match j, hj with
    | 0, hj => simp at hj; subst hj; exact h1
    | 1, hj => simp at hj; subst hj; exact h2
    | 2, hj => simp at hj; subst hj; exact h3
    | 3, hj => simp at hj; subst hj; exact h4
  · match j, hj with
    | 0, _ => exact f1
    | 1, _ => exact f2
    | 2, _ => exact f3
    | 3, _ => exact f4
theorem BoxV.at4 {w : World} {b : Nat} {x y z u : Value} (h : BoxV w b [x, y, z, u]) : (w.cell? ⟨b, 0, none⟩ = some x ∧ w.cell? ⟨b, 1, none⟩ = some y ∧ w.cell? ⟨b, 2, none⟩ = some z ∧ w.cell? ⟨b, 3, none⟩ = some u) ∧ (w.frozen? ⟨b, 0, none⟩ = false ∧ w.frozen? ⟨b, 1, none⟩ = false ∧ w.frozen? ⟨b, 2, none⟩ = false ∧ w.frozen? ⟨b, 3, none⟩ = false) ∧ b < w.heap.size :=
  ⟨⟨h.cell 0 x rfl, h.cell 1 y rfl, h.cell 2 z rfl, h.cell 3 u rfl⟩, ⟨h.free 0 (by simp), h.free 1 (by simp), h.free 2 (by simp), h.free 3 (by simp)⟩, h.lt⟩
theorem keepVB {w1 w2 : World} {b0 b1 : Nat} {x0 y0 x1 : Value} (n : New w1 w2) (h0 : BoxV w1 b0 [x0, y0]) (h1 : BoxV w1 b1 [x1]) :
    w2.cell? ⟨b0, 0, none⟩ = some x0 ∧ w2.cell? ⟨b0, 1, none⟩ = some y0 ∧ w2.cell? ⟨b1, 0, none⟩ = some x1 :=
  ⟨(h0.new n).at2.1.1, (h0.new n).at2.1.2, (h1.new n).cell 0 _ rfl⟩
theorem keepV4 {w1 w2 : World} {b0 b1 : Nat} {x0 y0 z0 u0 x1 y1 z1 u1 : Value} (n : New w1 w2) (h0 : BoxV w1 b0 [x0, y0, z0, u0]) (h1 : BoxV w1 b1 [x1, y1, z1, u1]) :
    w2.cell? ⟨b0, 0, none⟩ = some x0 ∧ w2.cell? ⟨b0, 1, none⟩ = some y0 ∧ w2.cell? ⟨b0, 2, none⟩ = some z0 ∧ w2.cell? ⟨b0, 3, none⟩ = some u0 ∧ w2.cell? ⟨b1, 0, none⟩ = some x1 ∧ w2.cell? ⟨b1, 1, none⟩ = some y1 ∧ w2.cell? ⟨b1, 2, none⟩ = some z1 ∧ w2.cell? ⟨b1, 3, none⟩ = some u1 :=
  ⟨(h0.new n).at4.1.1, (h0.new n).at4.1.2.1, (h0.new n).at4.1.2.2.1, (h0.new n).at4.1.2.2.2, (h1.new n).at4.1.1, (h1.new n).at4.1.2.1, (h1.new n).at4.1.2.2.1, (h1.new n).at4.1.2.2.2⟩
end Go.Proofs.YtfnihmmkbnkmnaaDoor
