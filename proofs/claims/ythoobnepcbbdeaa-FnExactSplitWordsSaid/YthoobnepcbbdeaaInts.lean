/- Contracts of the laws' own helpers on slices of 64-bit integers: copying, comparing, marking. -/
import Derived.Test.YthoobnepcbbdeaaNum
namespace Go.Proofs.Ythoobnepcbbdeaa
open Go.RowKit

theorem info_int64 : (Try.prog.info? 2).map (fun i => (i.zero, i.size, i.bytes)) = some (some (.int .i64 0), 1, 8) := by kernel_rfl

theorem fill_step {w : World} {base g : Nat} {e : TypeId} {zs : List Int} {k : Nat} (h : Fill w base e 1 g zs.length zs.length ((zs.take k).map (Value.int .i64))) (hk : k < zs.length) :
    Fill (w.setCell ⟨g, k, none⟩ (.int .i64 zs[k])) base e 1 g zs.length zs.length ((zs.take (k + 1)).map (Value.int .i64)) := by
  have hl : ((zs.take k).map (Value.int .i64)).length = k := by simp; omega
  have := h.put (by omega) (.int .i64 zs[k])
  rw [hl] at this
  rw [List.take_succ_eq_append_getElem hk, List.map_append]
  exact this

theorem fill_end {w w' : World} {e : TypeId} {zs : List Int} (h : Fill w' w.heap.size e 1 w.heap.size zs.length zs.length ((zs.take zs.length).map (Value.int .i64))) :
    Own w' w.heap.size w'.heap.size e 1 (.slice (some ⟨w.heap.size, 0, none⟩) zs.length zs.length) zs.length (zs.map (Value.int .i64)) := by
  rw [List.take_length] at h
  exact Own.of (h.done (by simp))


/-- two lists are one -/
def eqL {α : Type} [DecidableEq α] (xs ys : List α) : Bool := decide (xs = ys)
theorem eqL_self {α : Type} [DecidableEq α] (xs : List α) : eqL xs xs = true := by simp [eqL]
theorem eqL_len {α : Type} [DecidableEq α] {xs ys : List α} (h : xs.length ≠ ys.length) : eqL xs ys = false := by
  unfold eqL
  exact decide_eq_false (fun e => h (by rw [e]))
theorem eqL_at {α : Type} [DecidableEq α] {xs ys : List α} {k : Nat} (h1 : k < xs.length) (h2 : k < ys.length) (h : xs[k] ≠ ys[k]) : eqL xs ys = false := by
  unfold eqL
  exact decide_eq_false (fun e => h (by subst e; rfl))
theorem eqL_all {α : Type} [DecidableEq α] {xs ys : List α} (hl : xs.length = ys.length) (h : xs.take xs.length = ys.take xs.length) : eqL xs ys = true := by
  unfold eqL
  rw [List.take_length, hl, List.take_length] at h
  exact decide_eq_true h
theorem take_more {α : Type} {xs ys : List α} {k : Nat} (h : xs.take k = ys.take k) (h1 : k < xs.length) (h2 : k < ys.length) (he : xs[k] = ys[k]) : xs.take (k + 1) = ys.take (k + 1) := by
  rw [List.take_succ_eq_append_getElem h1, List.take_succ_eq_append_getElem h2, h, he]


/-- the numbers from m on -/
def marks (m : Int) (n : Nat) : List Int := (List.range n).map fun (i : Nat) => m + (i : Int)
theorem marks_len (m : Int) (n : Nat) : (marks m n).length = n := by simp [marks]
theorem marks_succ (m : Int) (n : Nat) : marks m (n + 1) = marks m n ++ [m + (n : Int)] := by simp [marks, List.range_succ]
theorem marks_get (m : Int) (n k : Nat) (h : k < n) : (marks m n)[k]? = some (m + (k : Int)) := by simp [marks, h]

/-- A call marks a row: it hands back the next number; the row holds the numbers; nothing else has turned. -/
def Marked (w : World) (lo hi : Nat) (e : TypeId) (v : Value) (m : Int) (n : Nat) (E : Ending) (w' : World) : Prop :=
  E = .returned (.int .i64 (m + (n : Int))) ∧ Own w' lo hi e 1 v n ((marks m n).map (Value.int .i64)) ∧ Fr lo hi w w'

theorem mark_step {w : World} {base g n c : Nat} {e : TypeId} {m : Int} {k : Nat} (h : Fill w base e 1 g n c ((marks m k).map (Value.int .i64))) (hk : k < n) :
    Fill (w.setCell ⟨g, k, none⟩ (.int .i64 (m + (k : Int)))) base e 1 g n c ((marks m (k + 1)).map (Value.int .i64)) := by
  have hl : ((marks m k).map (Value.int .i64)).length = k := by simp [marks_len]
  have := h.put (by omega) (.int .i64 (m + (k : Int)))
  rw [hl] at this
  rw [marks_succ, List.map_append]
  exact this

theorem mark_end {w w' : World} {lo hi g n c : Nat} {e : TypeId} {m : Int} (h : Fill w' lo e 1 g n c ((marks m n).map (Value.int .i64))) (hh : hi ≤ w.heap.size) (hn : Fr lo hi w w') (hg : g < hi) :
    Own w' lo hi e 1 (.slice (some ⟨g, 0, none⟩) n c) n ((marks m n).map (Value.int .i64)) :=
  ⟨h.done (by simp [marks_len]), Nat.le_trans hh hn.size, fun g' hg' => by simp [Value.ownBlock] at hg'; omega⟩



end Go.Proofs.Ythoobnepcbbdeaa
