/- What reading a grid gives: plain words. No program. -/
import Derived.Test.YtcbifdfcllaaaaaGreatDoorRdP
import Derived.Test.YtcbifdfcllaaaaaGreatDoorWordsI
import Derived.Test.YtcbifdfcllaaaaaGreatDoorShapeP
import Derived.Test.YtcbifdfcllaaaaaGreatDoorSetOk2
namespace Go.Proofs.YtcbifdfcllaaaaaGreatDoor
open Go.RowKit
set_option linter.unusedVariables false
set_option linter.unusedSimpArgs false

open Classical in
/-- what reading a number gives, as a function -/
noncomputable def rdN (s : ByteArray) : Int × Bool := if h : ∃ p : Int × Bool, RnT s p.1 p.2 then h.choose else (0, false)
theorem rdN_of {s : ByteArray} {n : Int} {b : Bool} (h : RnT s n b) : rdN s = (n, b) := by
  have hx : ∃ p : Int × Bool, RnT s p.1 p.2 := ⟨(n, b), h⟩
  unfold rdN
  rw [dif_pos hx]
  obtain ⟨e1, e2⟩ := hx.choose_spec.unique h
  exact Prod.ext e1 e2

def dotS : ByteArray := ⟨#[46]⟩
/-- is a word the number of one of m tiles -/
noncomputable def wdOk (m : Nat) (s : ByteArray) : Bool := (rdN s).2 && inB (rdN s).1 0 ((m : Int) - 1)
/-- a word that may not stand at x in row y -/
noncomputable def wdBad (m : Nat) (y : Int) (x : Nat) (s : ByteArray) : Bool := (!decide (s = dotS) && !wdOk m s) || !vpB x y
abbrev Pl3 := (Int × Int) × Int
/-- the tiles of a row, and the code; b tiles are there already -/
noncomputable def rowG (m : Nat) (y : Int) (b : Nat) : Nat → List ByteArray → List Pl3 → List Pl3 × Int
  | _, [], acc => (acc, 0)
  | x, s :: r, acc => if wdBad m y x s then (acc, 6) else if s = dotS then rowG m y b (x + 1) r acc else if 500 ≤ b + acc.length then (acc, 4) else rowG m y b (x + 1) r (acc ++ [(((x : Int), y), (rdN s).1)])
theorem rowG_nil (m : Nat) (y : Int) (b x : Nat) (acc : List Pl3) : rowG m y b x [] acc = (acc, 0) := rfl
section
variable {m b x : Nat} {y : Int} {ws : List ByteArray} {acc : List Pl3}
theorem rowG_bad (h : x < ws.length) (e : wdBad m y x ws[x] = true) : rowG m y b x (ws.drop x) acc = (acc, 6) := by
  rw [List.drop_eq_getElem_cons h, rowG, if_pos e]
theorem rowG_dot (h : x < ws.length) (e : wdBad m y x ws[x] = false) (e2 : ws[x] = dotS) : rowG m y b x (ws.drop x) acc = rowG m y b (x + 1) (ws.drop (x + 1)) acc := by
  rw [List.drop_eq_getElem_cons h, rowG, if_neg (by simp [e]), if_pos e2]
theorem rowG_full (h : x < ws.length) (e : wdBad m y x ws[x] = false) (e2 : ws[x] ≠ dotS) (e3 : 500 ≤ b + acc.length) : rowG m y b x (ws.drop x) acc = (acc, 4) := by
  rw [List.drop_eq_getElem_cons h, rowG, if_neg (by simp [e]), if_neg e2, if_pos e3]
theorem rowG_add (h : x < ws.length) (e : wdBad m y x ws[x] = false) (e2 : ws[x] ≠ dotS) (e3 : ¬ 500 ≤ b + acc.length) : rowG m y b x (ws.drop x) acc = rowG m y b (x + 1) (ws.drop (x + 1)) (acc ++ [(((x : Int), y), (rdN ws[x]).1)]) := by
  rw [List.drop_eq_getElem_cons h, rowG, if_neg (by simp [e]), if_neg e2, if_neg e3]
end
theorem rowG_end (m : Nat) (y : Int) (b : Nat) (ws : List ByteArray) (acc : List Pl3) : rowG m y b ws.length (ws.drop ws.length) acc = (acc, 0) := by
  rw [List.drop_length]; rfl

/-- in order -/
def AscP (zs : List Pl3) : Prop := zs.Pairwise fun p q => ltQ p.1 q.1 = true
/-- a row's tiles are in order, in row y, and no more than there may be -/
theorem rowG_spec (m : Nat) (y : Int) (b : Nat) : ∀ (ws : List ByteArray) (x : Nat) (acc : List Pl3), AscP acc → (∀ p ∈ acc, p.1.2 = y ∧ p.1.1 < (x : Int)) → b + acc.length ≤ 500 →
    AscP (rowG m y b x ws acc).1 ∧ (∀ p ∈ (rowG m y b x ws acc).1, p.1.2 = y) ∧ b + (rowG m y b x ws acc).1.length ≤ 500
  | [], x, acc, h1, h2, h3 => ⟨h1, fun p hp => (h2 p hp).1, h3⟩
  | s :: r, x, acc, h1, h2, h3 => by
    unfold rowG
    by_cases e1 : wdBad m y x s = true
    · rw [if_pos e1]; exact ⟨h1, fun p hp => (h2 p hp).1, h3⟩
    · rw [if_neg e1]
      by_cases e2 : s = dotS
      · rw [if_pos e2]
        exact rowG_spec m y b r (x + 1) acc h1 (fun p hp => ⟨(h2 p hp).1, by have := (h2 p hp).2; omega⟩) h3
      · rw [if_neg e2]
        by_cases e3 : 500 ≤ b + acc.length
        · rw [if_pos e3]; exact ⟨h1, fun p hp => (h2 p hp).1, h3⟩
        · rw [if_neg e3]
          refine rowG_spec m y b r (x + 1) _ ?_ ?_ ?_
          · unfold AscP
            rw [List.pairwise_append]
            refine ⟨h1, List.pairwise_singleton _ _, fun p hp q hq => ?_⟩
            simp only [List.mem_singleton] at hq
            subst hq
            exact ltQ_iff.2 (.inr ⟨(h2 p hp).1, (h2 p hp).2⟩)
          · intro p hp
            rcases List.mem_append.1 hp with hp | hp
            · exact ⟨(h2 p hp).1, by have := (h2 p hp).2; omega⟩
            · simp only [List.mem_singleton] at hp
              subst hp
              exact ⟨rfl, by show (x : Int) < ((x + 1 : Nat) : Int); omega⟩
          · rw [List.length_append]; simp only [List.length_cons, List.length_nil]; omega
theorem rowG_code (m : Nat) (y : Int) (b : Nat) : ∀ (ws : List ByteArray) (x : Nat) (acc : List Pl3), (rowG m y b x ws acc).2 = 0 ∨ (rowG m y b x ws acc).2 = 6 ∨ (rowG m y b x ws acc).2 = 4
  | [], x, acc => .inl rfl
  | s :: r, x, acc => by
    unfold rowG
    split
    · exact .inr (.inl rfl)
    · split
      · exact rowG_code m y b r (x + 1) acc
      · split
        · exact .inr (.inr rfl)
        · exact rowG_code m y b r (x + 1) _

/-- a whole row -/
noncomputable def rwG (m : Nat) (acc : List Pl3) (y : Int) (l : ByteArray) : List Pl3 × Int := rowG m y acc.length 0 (wds l 0 0) []
/-- the rows from the last line up -/
noncomputable def gridR (m : Nat) : Nat → List ByteArray → List Pl3 → List Pl3 × Int × Int
  | _, [], acc => (acc, 0, 0)
  | y, l :: r, acc => if (rwG m acc (y : Int) l).2 = 0 then gridR m (y + 1) r (acc ++ (rwG m acc (y : Int) l).1) else ([], (r.length : Int) + 1, (rwG m acc (y : Int) l).2)
/-- the rows above line i: what is left when the lines below have been read -/
noncomputable def gridAt (m : Nat) (L : List ByteArray) (i : Nat) (acc : List Pl3) : List Pl3 × Int × Int := gridR m (L.length - i) (L.take i).reverse acc
theorem gridAt_zero (m : Nat) (L : List ByteArray) (acc : List Pl3) : gridAt m L 0 acc = (acc, 0, 0) := by simp [gridAt, gridR]
theorem take_rev {L : List ByteArray} {i : Nat} (h : i < L.length) : (L.take (i + 1)).reverse = L[i] :: (L.take i).reverse := by
  rw [List.take_succ_eq_append_getElem h, List.reverse_append]; rfl
section
variable {m i : Nat} {L : List ByteArray} {acc : List Pl3}
theorem gridAt_ok (h : i < L.length) (e : (rwG m acc ((L.length - 1 - i : Nat) : Int) L[i]).2 = 0) : gridAt m L (i + 1) acc = gridAt m L i (acc ++ (rwG m acc ((L.length - 1 - i : Nat) : Int) L[i]).1) := by
  unfold gridAt
  rw [take_rev h, gridR, show L.length - (i + 1) = L.length - 1 - i by omega, if_pos e, show L.length - 1 - i + 1 = L.length - i by omega]
theorem gridAt_err (h : i < L.length) (e : (rwG m acc ((L.length - 1 - i : Nat) : Int) L[i]).2 ≠ 0) : gridAt m L (i + 1) acc = ([], (i : Int) + 1, (rwG m acc ((L.length - 1 - i : Nat) : Int) L[i]).2) := by
  unfold gridAt
  rw [take_rev h, gridR, show L.length - (i + 1) = L.length - 1 - i by omega, if_neg e]
  simp [show min i L.length = i by omega]
end
/-- what the tiles keep between two rows -/
def Laid (y : Int) (acc : List Pl3) : Prop := AscP acc ∧ (∀ p ∈ acc, p.1.2 < y) ∧ acc.length ≤ 500
theorem laid_nil (y : Int) : Laid y [] := ⟨List.Pairwise.nil, by simp, by simp⟩
theorem laid_row {m : Nat} {y : Int} {acc : List Pl3} {l : ByteArray} (h : Laid y acc) : Laid (y + 1) (acc ++ (rwG m acc y l).1) ∧ AscP (rwG m acc y l).1 ∧ acc.length + (rwG m acc y l).1.length ≤ 500 := by
  obtain ⟨h1, h2, h3⟩ := h
  obtain ⟨r1, r2, r3⟩ := rowG_spec m y acc.length (wds l 0 0) 0 [] List.Pairwise.nil (by simp) (by simpa using h3)
  refine ⟨⟨?_, ?_, by rw [List.length_append]; exact r3⟩, r1, r3⟩
  · unfold AscP
    rw [List.pairwise_append]
    exact ⟨h1, r1, fun p hp q hq => ltQ_iff.2 (.inl (by have := h2 p hp; have := r2 q hq; omega))⟩
  · intro p hp
    rcases List.mem_append.1 hp with hp | hp
    · have := h2 p hp; omega
    · have := r2 p hp; omega
/-- what reading a grid answers: the tiles, the line, the code -/
noncomputable def gridV (G : List (ByteArray × Int)) (T : List (ByteArray × List Int)) (n : Nat) (L : List ByteArray) : List Pl3 × Int × Int := if setB G T then (if 20000 < n then ([], 0, 2) else gridAt T.length L L.length []) else ([], 0, 1)
theorem gridR_le (m : Nat) : ∀ (r : List ByteArray) (y : Nat) (acc : List Pl3), Laid (y : Int) acc → (gridR m y r acc).1.length ≤ 500
  | [], y, acc, h => h.2.2
  | l :: r, y, acc, h => by
    unfold gridR
    split
    · exact gridR_le m r (y + 1) _ (by have := (laid_row (m := m) (l := l) h).1; exact_mod_cast this)
    · simp
theorem gridV_le (G : List (ByteArray × Int)) (T : List (ByteArray × List Int)) (n : Nat) (L : List ByteArray) : (gridV G T n L).1.length ≤ 500 := by
  unfold gridV
  split
  · split
    · simp
    · exact gridR_le _ _ _ _ (laid_nil _)
  · simp
/-- a sorted copy of tiles that are in order is the tiles -/
theorem sorted_same {zs ys : List Pl3} (hp : ys.Perm zs) (hs : ys.Pairwise fun p q => ltQ q.1 p.1 = false) (hz : AscP zs) : ys = zs := by
  refine hp.eq_of_pairwise (le := fun p q => ltQ q.1 p.1 = false) ?_ hs (hz.imp fun {p q} h => ltQ_asymm h)
  intro p q hpm hqm h1 h2
  have hpz : p ∈ zs := hp.mem_iff.1 hpm
  obtain ⟨i, hi, rfl⟩ := List.getElem_of_mem hpz
  obtain ⟨j, hj, rfl⟩ := List.getElem_of_mem hqm
  have hz' := List.pairwise_iff_getElem.1 hz
  rcases Nat.lt_trichotomy i j with e | e | e
  · have := hz' i j hi hj e
    rw [h2] at this; cases this
  · subst e; rfl
  · have := hz' j i hj hi e
    rw [h1] at this; cases this
end Go.Proofs.YtcbifdfcllaaaaaGreatDoor
