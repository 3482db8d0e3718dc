/- Slices whose elements hold a slice of numbers each (tiles: a name and a slice; rows of rows): reading, owning, making. Plain lemmas; no program. -/
import Derived.Test.YtcbifdfcllaaaaaGreatDoorOpen
import Derived.Test.YtcbifdfcllaaaaaGreatDoorInts
namespace Go.Proofs.YtcbifdfcllaaaaaGreatDoor
open Go.RowKit Go.WideShapes Go.ChangeShapes Go.Deep
set_option linter.unusedVariables false

/-- the cells of a slice of elements: each made of the element and the value of its own slice -/
def nestC {α : Type} (mk : α → Value → List Value) (xs : List α) (sv : List Value) : List Value := (xs.zip sv).flatMap fun p => mk p.1 p.2

/-- v reads as the elements xs; their own slices are sv -/
structure RdN {α : Type} (mk : α → Value → List Value) (inner : α → List Int) (C : Nat) (w : World) (lo hi : Nat) (v : Value) (xs : List α) (sv : List Value) : Prop where
  len : sv.length = xs.length
  outer : Rd w lo hi C v xs.length (nestC mk xs sv)
  each : ∀ k (h : k < xs.length) (h' : k < sv.length), Rd w lo hi 1 sv[k] (inner xs[k]).length ((inner xs[k]).map (Value.int .i64))

section
variable {α : Type} {mk : α → Value → List Value} {inner : α → List Int} {C : Nat} {w w' : World} {lo hi lo' hi' : Nat} {v : Value} {xs : List α} {sv : List Value}

theorem RdN.new (h : RdN mk inner C w lo hi v xs sv) (n : New w w') : RdN mk inner C w' lo hi v xs sv := ⟨h.len, h.outer.new n, fun k hk hk' => (h.each k hk hk').new n⟩
theorem RdN.fr (h : RdN mk inner C w lo hi v xs sv) (f : Fr lo' hi' w w') (ho : hi ≤ lo' ∨ hi' ≤ lo) : RdN mk inner C w' lo hi v xs sv := ⟨h.len, h.outer.fr f ho, fun k hk hk' => (h.each k hk hk').fr f ho⟩
theorem RdN.wide (h : RdN mk inner C w lo hi v xs sv) (h1 : lo' ≤ lo) (h2 : hi ≤ hi') (h3 : hi' ≤ w.heap.size) : RdN mk inner C w lo' hi' v xs sv := ⟨h.len, h.outer.wide h1 h2 h3, fun k hk hk' => (h.each k hk hk').wide h1 h2 h3⟩

theorem nestC_len (hmk : ∀ x u, (mk x u).length = C) (xs : List α) (sv : List Value) (h : sv.length = xs.length) : (nestC mk xs sv).length = xs.length * C := by
  unfold nestC
  rw [flat_len (fun p : α × Value => mk p.1 p.2) C (fun p => hmk _ _)]
  simp [h]
theorem nestC_get (hmk : ∀ x u, (mk x u).length = C) {xs : List α} {sv : List Value} {k r : Nat} (hk : k < xs.length) (hk' : k < sv.length) (hr : r < C) : (nestC mk xs sv)[k * C + r]? = (mk xs[k] sv[k])[r]? := by
  unfold nestC
  rw [flat_get (fun p : α × Value => mk p.1 p.2) C (fun p => hmk _ _) (xs.zip sv) k r (by simp; omega) hr]
  simp
theorem nestC_snoc (xs : List α) (sv : List Value) (h : sv.length = xs.length) (x : α) (u : Value) : nestC mk (xs ++ [x]) (sv ++ [u]) = nestC mk xs sv ++ mk x u := by
  unfold nestC
  rw [List.zip_append h.symm, List.flatMap_append]
  simp
theorem nestC_nil : nestC mk ([] : List α) [] = [] := rfl

/-- a slice that is read: a cell of the k-th element -/
theorem rd_cell {w wr : World} {lo hi C : Nat} {v : Value} {n : Nat} {cs : List Value} (h : Rd w lo hi C v n cs) (m : New w wr) {b off c : Nat} (hv : v = .slice (some ⟨b, off, none⟩) n c) (hn : 0 < n) {j : Nat} {u : Value} (hj : cs[j]? = some u) :
    wr.cell? ⟨b, off + j, none⟩ = some u ∧ b < wr.heap.size := by
  obtain ⟨_, _, hh, A, c', hv', hrd⟩ := h
  rw [hv] at hv'
  obtain ⟨b', off', e, _, hb, hc⟩ := hrd hn
  have hA : A = some ⟨b, off, none⟩ := by cases hv'; rfl
  rw [hA] at e
  obtain ⟨rfl, rfl⟩ : b = b' ∧ off = off' := by simpa using e
  have hs := m.size
  exact ⟨(m.cell (p := ⟨b, off + j, none⟩) (by simp; omega)).trans (hc j _ hj), by omega⟩
theorem rd_form {w : World} {lo hi C : Nat} {v : Value} {n : Nat} {cs : List Value} (h : Rd w lo hi C v n cs) : ∃ A c, v = .slice A n c ∧ n ≤ 9223372036854775807 ∧ (0 < n → ∃ b off, A = some ⟨b, off, none⟩) := by
  obtain ⟨_, hn, _, A, c, rfl, hrd⟩ := h
  exact ⟨A, c, rfl, hn, fun h => by obtain ⟨b, off, e, _⟩ := hrd h; exact ⟨b, off, e⟩⟩

/-- rows of numbers that the call owns, one behind the other from lo to below hi -/
def OwnEach (e : TypeId) (w : World) : Nat → Nat → List (List Int) → List Value → Prop
  | lo, hi, [], [] => lo ≤ hi ∧ hi ≤ w.heap.size
  | lo, hi, x :: xs, v :: sv => ∃ mid, lo ≤ mid ∧ Own w lo mid e 1 v x.length (x.map (Value.int .i64)) ∧ OwnEach e w mid hi xs sv
  | _, _, _, _ => False

section
variable {e : TypeId}
theorem OwnEach.le {e : TypeId} {w : World} : ∀ {lo hi : Nat} {xs : List (List Int)} {sv : List Value}, OwnEach e w lo hi xs sv → lo ≤ hi ∧ hi ≤ w.heap.size ∧ sv.length = xs.length
  | _, _, [], [], h => ⟨h.1, h.2, rfl⟩
  | _, _, [], _ :: _, h => h.elim
  | _, _, _ :: _, [], h => h.elim
  | _, _, x :: xs, v :: sv, h => by
    obtain ⟨mid, h1, _, h3⟩ := h
    obtain ⟨a, b, c⟩ := h3.le
    exact ⟨Nat.le_trans h1 a, b, by simp [c]⟩
theorem OwnEach.snoc {e : TypeId} {w : World} : ∀ {lo mid hi : Nat} {xs : List (List Int)} {sv : List Value} {x : List Int} {v : Value}, OwnEach e w lo mid xs sv → mid ≤ hi → Own w mid hi e 1 v x.length (x.map (Value.int .i64)) → OwnEach e w lo hi (xs ++ [x]) (sv ++ [v])
  | lo, mid, hi, [], [], x, v, h, h1, h2 => ⟨hi, Nat.le_trans h.1 h1, h2.wide h.1 (Nat.le_refl _) h2.2.1, Nat.le_refl _, h2.2.1⟩
  | _, _, _, [], _ :: _, _, _, h, _, _ => h.elim
  | _, _, _, _ :: _, [], _, _, h, _, _ => h.elim
  | lo, mid, hi, y :: ys, u :: us, x, v, h, h1, h2 => by
    obtain ⟨m, a, b, c⟩ := h
    exact ⟨m, a, b, c.snoc h1 h2⟩
theorem OwnEach.fr {e : TypeId} {w w' : World} {lo' hi' : Nat} (f : Fr lo' hi' w w') : ∀ {lo hi : Nat} {xs : List (List Int)} {sv : List Value}, OwnEach e w lo hi xs sv → (hi ≤ lo' ∨ hi' ≤ lo) → OwnEach e w' lo hi xs sv
  | _, _, [], [], h, _ => ⟨h.1, Nat.le_trans h.2 f.size⟩
  | _, _, [], _ :: _, h, _ => h.elim
  | _, _, _ :: _, [], h, _ => h.elim
  | lo, hi, x :: xs, v :: sv, h, ho => by
    obtain ⟨m, a, b, c⟩ := h
    have := c.le
    exact ⟨m, a, b.fr f (by omega), c.fr f (by omega)⟩
theorem OwnEach.new {e : TypeId} {w w' : World} (n : New w w') : ∀ {lo hi : Nat} {xs : List (List Int)} {sv : List Value}, OwnEach e w lo hi xs sv → OwnEach e w' lo hi xs sv
  | _, _, [], [], h => ⟨h.1, Nat.le_trans h.2 n.size⟩
  | _, _, [], _ :: _, h => h.elim
  | _, _, _ :: _, [], h => h.elim
  | lo, hi, x :: xs, v :: sv, h => by
    obtain ⟨m, a, b, c⟩ := h
    exact ⟨m, a, b.new n, c.new n⟩
theorem OwnEach.rd {e : TypeId} {w : World} : ∀ {lo hi : Nat} {xs : List (List Int)} {sv : List Value}, OwnEach e w lo hi xs sv → ∀ k (h : k < xs.length) (h' : k < sv.length), Rd w lo hi 1 sv[k] xs[k].length (xs[k].map (Value.int .i64))
  | _, _, [], [], h, k, hk, _ => absurd hk (Nat.not_lt_zero _)
  | _, _, [], _ :: _, h, _, _, _ => h.elim
  | _, _, _ :: _, [], h, _, _, _ => h.elim
  | lo, hi, x :: xs, v :: sv, h, k, hk, hk' => by
    obtain ⟨m, a, b, c⟩ := h
    have hl := c.le
    cases k with
    | zero => exact b.rd.wide (Nat.le_refl _) hl.1 hl.2.1
    | succ k => exact (c.rd k (by simpa using hk) (by simpa using hk')).wide a (Nat.le_refl _) hl.2.1
theorem OwnEach.wide {e : TypeId} {w : World} {lo lo' hi hi' : Nat} {xs : List (List Int)} {sv : List Value} (h : OwnEach e w lo hi xs sv) (h1 : lo' ≤ lo) (h2 : hi ≤ hi') (h3 : hi' ≤ w.heap.size) : OwnEach e w lo' hi' xs sv := by
  induction xs generalizing lo lo' sv with
  | nil => cases sv with
    | nil => exact ⟨Nat.le_trans h1 (Nat.le_trans h.1 h2), h3⟩
    | cons => exact h.elim
  | cons x xs ih => cases sv with
    | nil => exact h.elim
    | cons v sv =>
      obtain ⟨m, a, b, c⟩ := h
      exact ⟨m, Nat.le_trans h1 a, b.wide h1 (Nat.le_refl _) (Nat.le_trans c.le.1 c.le.2.1), ih c (Nat.le_refl _)⟩

/-- v is a row of elements that the call owns, and so are their own slices, in blocks behind it -/
structure OwnN (mk : α → Value → List Value) (inner : α → List Int) (C : Nat) (eo ei : TypeId) (w : World) (lo hi : Nat) (v : Value) (xs : List α) (sv : List Value) : Prop where
  mid : ∃ m, lo ≤ m ∧ Own w lo m eo C v xs.length (nestC mk xs sv) ∧ OwnEach ei w m hi (xs.map inner) sv
variable {eo ei : TypeId}
theorem OwnN.rd (h : OwnN mk inner C eo ei w lo hi v xs sv) : RdN mk inner C w lo hi v xs sv := by
  obtain ⟨m, h1, h2, h3⟩ := h
  have hl := h3.le
  refine ⟨by simpa using hl.2.2, h2.rd.wide (Nat.le_refl _) hl.1 hl.2.1, fun k hk hk' => ?_⟩
  have := (h3.rd k (by simpa using hk) hk').wide h1 (Nat.le_refl _) hl.2.1
  simpa using this
theorem OwnN.new (h : OwnN mk inner C eo ei w lo hi v xs sv) (n : New w w') : OwnN mk inner C eo ei w' lo hi v xs sv := by
  obtain ⟨m, h1, h2, h3⟩ := h
  exact ⟨m, h1, h2.new n, h3.new n⟩
theorem OwnN.fr (h : OwnN mk inner C eo ei w lo hi v xs sv) (f : Fr lo' hi' w w') (ho : hi ≤ lo' ∨ hi' ≤ lo) : OwnN mk inner C eo ei w' lo hi v xs sv := by
  obtain ⟨m, h1, h2, h3⟩ := h
  have := h3.le
  exact ⟨m, h1, h2.fr f (by omega), h3.fr f (by omega)⟩
theorem OwnN.wide (h : OwnN mk inner C eo ei w lo hi v xs sv) (h1 : lo' ≤ lo) (h2 : hi ≤ hi') (h3 : hi' ≤ w.heap.size) : OwnN mk inner C eo ei w lo' hi' v xs sv := by
  obtain ⟨m, a, b, c⟩ := h
  have := c.le
  exact ⟨m, Nat.le_trans h1 a, b.wide h1 (Nat.le_refl _) (by omega), c.wide (Nat.le_refl _) h2 h3⟩
theorem OwnN.bounds (h : OwnN mk inner C eo ei w lo hi v xs sv) : lo ≤ hi ∧ hi ≤ w.heap.size := by
  obtain ⟨m, a, b, c⟩ := h
  have := c.le
  omega
end
end

/-! ### Opening -/
section
variable {H : Type} {enc : TypeId × Value → H} {P : Program} {W : World} {spare : Nat → Bool} {held : Bool}

/-- a slice of elements, each with a slice of numbers, that can be read as data -/
theorem rdn_of_trod {α : Type} (mk : α → Value → List Value) (inner : α → List Int) (good : α → Prop) {t e : TypeId} {C fuel : Nat} {v : Value} {x : DataW H × List MemPlace}
    (hC : P.cellsOf e = C) (hC0 : 0 < C) (hf : ∀ x u, (mk x u).length = C)
    (hdec : ∀ n cs' y, DataW.trod enc P W 0 spare held n e cs' = some y → (∀ p ∈ y.2, p.block < W.heap.size) → ∃ x u, cs' = mk x u ∧ good x ∧ Rd W 0 W.heap.size 1 u (inner x).length ((inner x).map (Value.int .i64)))
    (ht : P.underlying t = some (.slice e)) (h : DataW.trod enc P W 0 spare held fuel t [v] = some x) (hlt : ∀ p ∈ x.2, p.block < W.heap.size) :
    ∃ (xs : List α) (sv : List Value), RdN mk inner C W 0 W.heap.size v xs sv ∧ ∀ x ∈ xs, good x := by
  obtain ⟨ps, h1, h2⟩ := rd_of_trod (fun p : α × Value => mk p.1 p.2) (fun p => good p.1 ∧ Rd W 0 W.heap.size 1 p.2 (inner p.1).length ((inner p.1).map (Value.int .i64))) hC hC0 (fun p => hf _ _)
    (fun n cs' y hy hl => by obtain ⟨x, u, e1, e2, e3⟩ := hdec n cs' y hy hl; exact ⟨(x, u), e1, e2, e3⟩) ht h hlt
  have hz : (ps.map Prod.fst).zip (ps.map Prod.snd) = ps := by rw [List.zip_map']; simp
  refine ⟨ps.map Prod.fst, ps.map Prod.snd, ⟨by simp, ?_, fun k hk hk' => ?_⟩, fun x hx => ?_⟩
  · unfold nestC
    rw [hz, List.length_map]
    exact h1
  · have := (h2 (ps[k]'(by simpa using hk)) (List.getElem_mem _)).2
    simpa using this
  · obtain ⟨p, hp, rfl⟩ := List.mem_map.1 hx
    exact (h2 p hp).1
end

end Go.Proofs.YtcbifdfcllaaaaaGreatDoor
