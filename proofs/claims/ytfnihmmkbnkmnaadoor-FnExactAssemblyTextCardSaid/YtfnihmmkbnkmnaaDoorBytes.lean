/- Bytes that a call owns, and a builder kept. Plain lemmas. -/
import Derived.Test.YtfnihmmkbnkmnaaDoorBuild
import Derived.Test.YtfnihmmkbnkmnaaDoorBox
import Derived.Test.YtfnihmmkbnkmnaaDoorLater
namespace Go.Proofs.YtfnihmmkbnkmnaaDoor
open Go.RowKit Go.Deep
set_option linter.unusedVariables false
set_option linter.unusedSimpArgs false

theorem info_U8 : (Tryd.prog.info? 5).map (fun i => (i.zero, i.size, i.bytes)) = some (some (.int .u8 0), 1, 1) := by kernel_rfl
theorem row_U8 : ElemRow Tryd.prog 81 5 1 1 := elemRow Tryd.underlying81 info_U8 rfl (by omega)
theorem bytes_one (l : List UInt8) (c : UInt8) : Lib.byteCells (l ++ [c]) = Lib.byteCells l ++ [.int .u8 (c.toNat : Int)] := by simp [Lib.byteCells]
theorem own_bytes {w : World} {base n g c : Nat} {e : TypeId} {l : List UInt8} (h : w.ownsRow base e 1 (.slice (some ⟨g, 0, none⟩) n c) n (Lib.byteCells l)) : ∀ j (hj : j < l.length), w.cell? (Addr.add ⟨g, 0, none⟩ j) = some (.int .u8 (l[j].toNat : Int)) := by
  intro j hj
  have hr := (Own.of h).rd
  have hbl := Lib.byteCells_length l
  have hn : n = l.length := by have := h.1; omega
  have hpl : (⟨g, 0, none⟩ : Addr).add j = ⟨g, j, none⟩ := by unfold Addr.add; split <;> simp_all
  rw [hpl]
  obtain ⟨_, _, _, A, cc, he, hrd⟩ := hr
  obtain ⟨b, off, rfl, _, _, hc⟩ := hrd (by omega)
  cases he
  have := hc j (.int .u8 (l[j].toNat : Int)) (by simp [Lib.byteCells, hj])
  simpa using this

theorem Bld.new {b : Nat} {l : List UInt8} {w w' : World} (h : Bld b l w) (n : New w w') : Bld b l w' := by
  have key : ∀ p, Lib.BuilderAt 87 5 b b p (Lib.byteCells l) w → Lib.BuilderAt 87 5 b b p (Lib.byteCells l) w' := by
    rintro p ⟨h1, v, h2, h3, h4⟩
    have hlt : b < w.heap.size := by
      rcases Nat.lt_or_ge b w.heap.size with h' | h'
      · exact h'
      · simp [Array.getElem?_eq_none h'] at h2
    exact ⟨h1, v, (n.block b hlt).trans h2, ownsRow_new h3 n, h4⟩
  rcases h with h | h
  · exact .inl (key _ h)
  · exact .inr (key _ h)
theorem Bld.lt {b : Nat} {l : List UInt8} {w : World} (h : Bld b l w) : b < w.heap.size := by
  rcases h with h | h
  · exact h.lt
  · exact h.lt
end Go.Proofs.YtfnihmmkbnkmnaaDoor
