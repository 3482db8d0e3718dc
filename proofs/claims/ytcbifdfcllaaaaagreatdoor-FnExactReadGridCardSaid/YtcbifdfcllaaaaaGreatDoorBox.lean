/- A block of its own that holds a struct: its cells and that they may be written, as one word that is carried from world to world. -/
import Derived.Test.YtcbifdfcllaaaaaGreatDoorMem
namespace Go.Proofs.YtcbifdfcllaaaaaGreatDoor
open Go.RowKit Go.Deep

/-- block b of the world w holds the cells cs, and they may be written -/
structure BoxV (w : World) (b : Nat) (cs : List Value) : Prop where
  cell : ∀ j u, cs[j]? = some u → w.cell? ⟨b, j, none⟩ = some u
  free : ∀ j, j < cs.length → w.frozen? ⟨b, j, none⟩ = false
  lt : b < w.heap.size
theorem BoxV.new {w w' : World} {b : Nat} {cs : List Value} (h : BoxV w b cs) (n : New w w') : BoxV w' b cs :=
  ⟨fun j u hj => (n.cell (p := ⟨b, j, none⟩) h.lt).trans (h.cell j u hj), fun j hj => (n.frozen (p := ⟨b, j, none⟩) h.lt).trans (h.free j hj), Nat.lt_of_lt_of_le h.lt n.size⟩
theorem BoxV.below {w w' : World} {b B : Nat} {cs : List Value} (h : BoxV w b cs) (n : Below B w w') (hb : b < B) : BoxV w' b cs :=
  ⟨fun j u hj => (n.cell (p := ⟨b, j, none⟩) hb).trans (h.cell j u hj), fun j hj => (n.frozen (p := ⟨b, j, none⟩) hb).trans (h.free j hj), Nat.lt_of_lt_of_le h.lt n.size⟩
theorem BoxV.fr {w w' : World} {b lo hi : Nat} {cs : List Value} (h : BoxV w b cs) (n : Fr lo hi w w') (hb : b < lo ∨ hi ≤ b) : BoxV w' b cs :=
  ⟨fun j u hj => (World.cell?_of_block (a := ⟨b, j, none⟩) (n.block b h.lt hb)).trans (h.cell j u hj), fun j hj => (World.frozen?_of_block (a := ⟨b, j, none⟩) (n.block b h.lt hb)).trans (h.free j hj), Nat.lt_of_lt_of_le h.lt n.size⟩

theorem BoxV.two {w : World} {b : Nat} {x y : Value} (h1 : w.cell? ⟨b, 0, none⟩ = some x) (h2 : w.cell? ⟨b, 1, none⟩ = some y) (h3 : w.frozen? ⟨b, 0, none⟩ = false) (h4 : w.frozen? ⟨b, 1, none⟩ = false) (h5 : b < w.heap.size) : BoxV w b [x, y] := by
  refine ⟨fun j u hj => ?_, fun j hj => ?_, h5⟩
  · match j, hj with
    | 0, hj => simp at hj; subst hj; exact h1
    | 1, hj => simp at hj; subst hj; exact h2
  · match j, hj with
    | 0, _ => exact h3
    | 1, _ => exact h4
theorem BoxV.at2 {w : World} {b : Nat} {x y : Value} (h : BoxV w b [x, y]) : (w.cell? ⟨b, 0, none⟩ = some x ∧ w.cell? ⟨b, 1, none⟩ = some y) ∧ (w.frozen? ⟨b, 0, none⟩ = false ∧ w.frozen? ⟨b, 1, none⟩ = false) ∧ b < w.heap.size :=
  ⟨⟨h.cell 0 x rfl, h.cell 1 y rfl⟩, ⟨h.free 0 (by simp), h.free 1 (by simp)⟩, h.lt⟩
theorem BoxV.put2 {w : World} {b : Nat} {x y : Value} (h : BoxV w b [x, y]) (u : Value) : BoxV (w.setCell ⟨b, 1, none⟩ u) b [x, u] := by
  obtain ⟨⟨c, d⟩, ⟨f, g⟩, z⟩ := h.at2
  exact .two (by simp [go_sem, *]) (by simp [go_sem, *]) (by simp [go_sem, *]) (by simp [go_sem, *]) (by simp [go_sem, *])
theorem BoxV.both {w : World} {b : Nat} {x y : Value} (h : BoxV w b [x, y]) (u v : Value) : BoxV ((w.setCell ⟨b, 0, none⟩ u).setCell ⟨b, 1, none⟩ v) b [u, v] := by
  obtain ⟨⟨c, d⟩, ⟨f, g⟩, z⟩ := h.at2
  exact .two (by simp [go_sem, *]) (by simp [go_sem, *]) (by simp [go_sem, *]) (by simp [go_sem, *]) (by simp [go_sem, *])
theorem BoxV.off {w : World} {b : Nat} {cs : List Value} (h : BoxV w b cs) {p : Addr} (hp : p.block ≠ b) (u : Value) : BoxV (w.setCell p u) b cs := by
  have hb : (w.setCell p u).heap[b]? = w.heap[b]? := Below.heap_setCell _ _ _ _ (Ne.symm hp)
  have hc : ∀ j, (w.setCell p u).cell? ⟨b, j, none⟩ = w.cell? ⟨b, j, none⟩ := fun j => World.cell?_of_block (a := ⟨b, j, none⟩) hb
  have hf : ∀ j, (w.setCell p u).frozen? ⟨b, j, none⟩ = w.frozen? ⟨b, j, none⟩ := fun j => World.frozen?_of_block (a := ⟨b, j, none⟩) hb
  exact ⟨fun j v hj => (hc j).trans (h.cell j v hj), fun j hj => (hf j).trans (h.free j hj), by simpa [World.setCell] using h.lt⟩
theorem BoxV.drew {w : World} {b : Nat} {cs : List Value} (h : BoxV w b cs) : BoxV w.drew b cs := h.new ((New.same w).drew_)
theorem ownsRow_new {w w' : World} {base C n : Nat} {e : TypeId} {v : Value} {xs : List Value} (h : w.ownsRow base e C v n xs) (hn : New w w') : w'.ownsRow base e C v n xs := ((Own.of h).new hn).1
theorem New.set {a b c : World} (h : New a b) (k : New a c) (o : Nat) (v : Value) : New a (b.setCell ⟨c.heap.size, o, none⟩ v) := Below.setCell h k.size v
theorem keepV2 {w1 w2 : World} {b0 b1 : Nat} {x0 y0 x1 y1 : Value} (n : New w1 w2) (h0 : BoxV w1 b0 [x0, y0]) (h1 : BoxV w1 b1 [x1, y1]) :
    w2.cell? ⟨b0, 0, none⟩ = some x0 ∧ w2.cell? ⟨b0, 1, none⟩ = some y0 ∧ w2.cell? ⟨b1, 0, none⟩ = some x1 ∧ w2.cell? ⟨b1, 1, none⟩ = some y1 :=
  ⟨(h0.new n).at2.1.1, (h0.new n).at2.1.2, (h1.new n).at2.1.1, (h1.new n).at2.1.2⟩

end Go.Proofs.YtcbifdfcllaaaaaGreatDoor
