/- The text of a set in plain words. No program. -/
import Derived.Test.YtfnihmmkbnkmnaaDoorSetOk
import Derived.Test.YtfnihmmkbnkmnaaDoorDec
namespace Go.Proofs.YtfnihmmkbnkmnaaDoor
open Go.RowKit Go.Deep
set_option linter.unusedVariables false
set_option linter.unusedSimpArgs false

/-- the bytes of a string -/
def bL (s : ByteArray) : List UInt8 := s.data.toList
theorem bL_len (s : ByteArray) : (bL s).length = s.size := Array.length_toList
theorem bL_cells (l : List UInt8) (s : ByteArray) : Lib.byteCells (l ++ bL s) = Lib.byteCells l ++ Lib.strCells s := by simp [Lib.byteCells, Lib.strCells, bL]
theorem bL_len2 (l : List UInt8) (s : ByteArray) : (l ++ bL s).length = l.length + s.size := by rw [List.length_append, bL_len]
/-- a glue's row -/
def glS (g : ByteArray × Int) : ByteArray := (⟨#[103, 108, 117, 101, 32]⟩ : ByteArray) ++ g.1 ++ ⟨#[32]⟩ ++ decT g.2 ++ ⟨#[10]⟩
/-- the name of a glue by its number -/
def gnT (G : List (ByteArray × Int)) (g : Int) : ByteArray := if g = 0 then ⟨#[45]⟩ else (G.getD (g - 1).toNat default).1
def tlS (t : ByteArray × List Int) : ByteArray := (⟨#[116, 105, 108, 101, 32]⟩ : ByteArray) ++ t.1
def sdS (G : List (ByteArray × Int)) (g : Int) : ByteArray := (⟨#[32]⟩ : ByteArray) ++ gnT G g
theorem sdS_zero (G : List (ByteArray × Int)) {g : Int} (h : g = 0) : sdS G g = ⟨#[32, 45]⟩ := by
  subst h
  simp only [sdS, gnT, if_pos]
  rfl
theorem sdS_pos (G : List (ByteArray × Int)) {g : Int} (h : g ≠ 0) {j : Nat} (hj : j < G.length) (e : g - 1 = (j : Int)) : sdS G g = (⟨#[32]⟩ : ByteArray) ++ G[j].1 := by
  have : (g - 1).toNat = j := by omega
  simp [sdS, gnT, h, this, List.getD_eq_getElem?_getD, hj]
theorem gnT_zero (G : List (ByteArray × Int)) {g : Int} (h : g = 0) : gnT G g = ⟨#[45]⟩ := by simp [gnT, h]
theorem gnT_pos (G : List (ByteArray × Int)) {g : Int} (h : g ≠ 0) {j : Nat} (hj : j < G.length) (e : g - 1 = (j : Int)) : gnT G g = G[j].1 := by
  have : (g - 1).toNat = j := by omega
  simp [gnT, h, this, List.getD_eq_getElem?_getD, hj]
/-- the text of n glues -/
def gLx (G : List (ByteArray × Int)) (n : Nat) : List UInt8 := (G.take n).flatMap fun g => bL (glS g)
/-- a tile's row behind k sides -/
def tiL (G : List (ByteArray × Int)) (t : ByteArray × List Int) (k : Nat) : List UInt8 := bL (tlS t) ++ (t.2.take k).flatMap fun g => bL (sdS G g)
/-- the text behind n tiles -/
def xL (G : List (ByteArray × Int)) (T : List (ByteArray × List Int)) (n : Nat) : List UInt8 := gLx G G.length ++ (T.take n).flatMap fun t => tiL G t t.2.length ++ [10]
theorem gLx_zero (G : List (ByteArray × Int)) : gLx G 0 = [] := rfl
theorem gLx_succ {G : List (ByteArray × Int)} {n : Nat} (h : n < G.length) : gLx G (n + 1) = gLx G n ++ bL (glS G[n]) := by
  unfold gLx
  rw [List.take_succ_eq_append_getElem h, List.flatMap_append]
  simp
theorem tiL_zero (G : List (ByteArray × Int)) (t : ByteArray × List Int) : tiL G t 0 = bL (tlS t) := by simp [tiL]
theorem tiL_succ (G : List (ByteArray × Int)) {t : ByteArray × List Int} {k : Nat} (h : k < t.2.length) : tiL G t (k + 1) = tiL G t k ++ bL (sdS G t.2[k]) := by
  unfold tiL
  rw [List.take_succ_eq_append_getElem h, List.flatMap_append, List.append_assoc]
  simp
theorem xL_zero (G : List (ByteArray × Int)) (T : List (ByteArray × List Int)) : xL G T 0 = gLx G G.length := by simp [xL]
theorem xL_succ {G : List (ByteArray × Int)} {T : List (ByteArray × List Int)} {n : Nat} (h : n < T.length) : xL G T (n + 1) = xL G T n ++ tiL G T[n] T[n].2.length ++ [10] := by
  unfold xL
  rw [List.take_succ_eq_append_getElem h, List.flatMap_append]
  simp [List.append_assoc]
/-- a set's text -/
def setT (G : List (ByteArray × Int)) (T : List (ByteArray × List Int)) : ByteArray := if setB G T then ⟨(xL G T T.length).toArray⟩ else ⟨#[]⟩

theorem nameB_in {s : ByteArray} (h : nameB s = true) : 1 ≤ s.size ∧ s.size ≤ 12 := by
  simp only [nameB, Bool.and_eq_true, decide_eq_true_eq] at h
  exact h.1
/-- what a valid set's names and strengths keep to -/
theorem set_names {G : List (ByteArray × Int)} {T : List (ByteArray × List Int)} (h : setB G T = true) : (∀ k (hk : k < G.length), (1 ≤ G[k].1.size ∧ G[k].1.size ≤ 12) ∧ 1 ≤ G[k].2 ∧ G[k].2 ≤ 4) ∧ ∀ k (hk : k < T.length), 1 ≤ T[k].1.size ∧ T[k].1.size ≤ 12 := by
  simp only [setB, Bool.and_eq_true, decide_eq_true_eq] at h
  obtain ⟨_, h3, h4⟩ := h
  refine ⟨fun k hk => ?_, fun k hk => ?_⟩
  · have := List.all_eq_true.1 h3 k (List.mem_range.2 hk)
    rw [gOk_at hk] at this
    simp only [Bool.and_eq_true] at this
    exact ⟨nameB_in this.1, inB_iff.1 this.2.1⟩
  · have := List.all_eq_true.1 h4 k (List.mem_range.2 hk)
    rw [tOk_at hk] at this
    simp only [Bool.and_eq_true] at this
    exact nameB_in this.1
theorem glS_size {g : ByteArray × Int} (h : g.1.size ≤ 12) (h1 : 1 ≤ g.2) (h2 : g.2 ≤ 4) : (glS g).size ≤ 40 := by
  have := decT_size g.2 (by omega) (by omega)
  have a1 : (⟨#[103, 108, 117, 101, 32]⟩ : ByteArray).size = 5 := rfl
  have a2 : (⟨#[32]⟩ : ByteArray).size = 1 := rfl
  have a3 : (⟨#[10]⟩ : ByteArray).size = 1 := rfl
  simp only [glS, ByteArray.size_append, a1, a2, a3]
  omega
theorem tlS_size {t : ByteArray × List Int} (h : t.1.size ≤ 12) : (tlS t).size ≤ 17 := by
  have a1 : (⟨#[116, 105, 108, 101, 32]⟩ : ByteArray).size = 5 := rfl
  simp only [tlS, ByteArray.size_append, a1]
  omega
theorem gnT_size {G : List (ByteArray × Int)} (hG : ∀ k (hk : k < G.length), (1 ≤ G[k].1.size ∧ G[k].1.size ≤ 12) ∧ 1 ≤ G[k].2 ∧ G[k].2 ≤ 4) {g : Int} (h0 : 0 ≤ g) (h1 : g ≤ G.length) : (gnT G g).size ≤ 12 := by
  by_cases h : g = 0
  · rw [gnT_zero G h]; exact Nat.le_of_ble_eq_true rfl
  · rw [gnT_pos G h (j := (g - 1).toNat) (by omega) (by omega)]
    exact (hG _ _).1.2
theorem sdS_size {G : List (ByteArray × Int)} (hG : ∀ k (hk : k < G.length), (1 ≤ G[k].1.size ∧ G[k].1.size ≤ 12) ∧ 1 ≤ G[k].2 ∧ G[k].2 ≤ 4) {g : Int} (h0 : 0 ≤ g) (h1 : g ≤ G.length) : (sdS G g).size ≤ 13 := by
  have := gnT_size hG h0 h1
  have a2 : (⟨#[32]⟩ : ByteArray).size = 1 := rfl
  simp only [sdS, ByteArray.size_append, a2]
  omega
theorem gLx_len {G : List (ByteArray × Int)} (hG : ∀ k (hk : k < G.length), (1 ≤ G[k].1.size ∧ G[k].1.size ≤ 12) ∧ 1 ≤ G[k].2 ∧ G[k].2 ≤ 4) (n : Nat) (hn : n ≤ G.length) : (gLx G n).length ≤ 40 * n := by
  induction n with
  | zero => simp [gLx]
  | succ n ih =>
    rw [gLx_succ (by omega), bL_len2]
    obtain ⟨⟨_, a⟩, b, c⟩ := hG n (by omega)
    have := glS_size a b c
    have := ih (by omega)
    omega
theorem tiL_len {G : List (ByteArray × Int)} (hG : ∀ k (hk : k < G.length), (1 ≤ G[k].1.size ∧ G[k].1.size ≤ 12) ∧ 1 ≤ G[k].2 ∧ G[k].2 ≤ 4) {t : ByteArray × List Int} (ht : t.1.size ≤ 12) (hs : ∀ d (hd : d < t.2.length), 0 ≤ t.2[d] ∧ t.2[d] ≤ G.length) (k : Nat) (hk : k ≤ t.2.length) : (tiL G t k).length ≤ 17 + 13 * k := by
  induction k with
  | zero => rw [tiL_zero, bL_len]; have := tlS_size ht; omega
  | succ k ih =>
    rw [tiL_succ G (by omega), bL_len2]
    obtain ⟨a, b⟩ := hs k (by omega)
    have := sdS_size hG a b
    have := ih (by omega)
    omega
theorem xL_len {G : List (ByteArray × Int)} {T : List (ByteArray × List Int)} (h : setB G T = true) (n : Nat) (hn : n ≤ T.length) : (xL G T n).length ≤ 8000 + 70 * n := by
  obtain ⟨hG, hT⟩ := set_names h
  obtain ⟨i1, _, _, i4⟩ := set_in h
  induction n with
  | zero => rw [xL_zero]; have := gLx_len hG G.length (Nat.le_refl _); omega
  | succ n ih =>
    rw [xL_succ (by omega), List.length_append, List.length_append]
    have := tiL_len hG (hT n (by omega)).2 (i4 n (by omega)).2 T[n].2.length (Nat.le_refl _)
    have := (i4 n (by omega)).1
    have := ih (by omega)
    simp only [List.length_cons, List.length_nil]
    omega
end Go.Proofs.YtfnihmmkbnkmnaaDoor
