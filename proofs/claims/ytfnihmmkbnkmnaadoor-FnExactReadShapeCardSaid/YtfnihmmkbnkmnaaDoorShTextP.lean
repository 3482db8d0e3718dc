/- Plain lemmas on the text of a shape. No program. -/
import Derived.Test.YtfnihmmkbnkmnaaDoorHas
import Derived.Lib.Join
namespace Go.Proofs.YtfnihmmkbnkmnaaDoor

theorem bnd60 {zs : List (Int × Int)} (h : shpB zs = true) : ((-60 ≤ lowX zs ∧ lowX zs ≤ hghX zs) ∧ hghX zs ≤ 60) ∧ (-60 ≤ lowY zs ∧ lowY zs ≤ hghY zs) ∧ hghY zs ≤ 60 := by
  obtain ⟨hn, _⟩ := shpB_len h
  have hb := vp_bd (shpB_vp h)
  cases zs with
  | nil => simp at hn
  | cons x r =>
    have h0 := hb x (by simp)
    have m1 : ∀ z ∈ (x :: r).map Prod.fst, -60 ≤ z ∧ z ≤ 60 := by
      intro z hz; obtain ⟨a, ha, rfl⟩ := List.mem_map.1 hz; exact (hb a ha).1
    have m2 : ∀ z ∈ (x :: r).map Prod.snd, -60 ≤ z ∧ z ≤ 60 := by
      intro z hz; obtain ⟨a, ha, rfl⟩ := List.mem_map.1 hz; exact (hb a ha).2
    have b1 := minL_bd (x := x.1) (b := -60) (by omega) (fun z hz => (m1 z hz).1)
    have b2 := minL_bd (x := x.2) (b := -60) (by omega) (fun z hz => (m2 z hz).1)
    have c1 := maxL_bd (x := x.1) (b := 60) (by omega) (fun z hz => (m1 z hz).2)
    have c2 := maxL_bd (x := x.2) (b := 60) (by omega) (fun z hz => (m2 z hz).2)
    unfold lowX lowY hghX hghY
    simp only [List.headD_cons]
    omega

/-- the first n signs of the row y -/
def rwT (zs : List (Int × Int)) (y : Int) (n : Nat) : List UInt8 := (List.range n).map fun i : Nat => if hasB zs (lowX zs + (i : Int), y) then 35 else 46
theorem rwT_len (zs : List (Int × Int)) (y : Int) (n : Nat) : (rwT zs y n).length = n := by simp [rwT]
theorem rwT_zero (zs : List (Int × Int)) (y : Int) : rwT zs y 0 = [] := rfl
theorem rwT_yes {zs : List (Int × Int)} {y : Int} {n : Nat} (h : hasB zs (lowX zs + (n : Int), y) = true) : rwT zs y (n + 1) = rwT zs y n ++ [35] := by
  unfold rwT
  rw [List.range_succ, List.map_append]
  simp [h]
theorem rwT_no {zs : List (Int × Int)} {y : Int} {n : Nat} (h : hasB zs (lowX zs + (n : Int), y) = false) : rwT zs y (n + 1) = rwT zs y n ++ [46] := by
  unfold rwT
  rw [List.range_succ, List.map_append]
  simp [h]
def wdN (zs : List (Int × Int)) : Nat := (hghX zs - lowX zs + 1).toNat
def htN (zs : List (Int × Int)) : Nat := (hghY zs - lowY zs + 1).toNat
/-- the rows from the top down -/
def rowsT (zs : List (Int × Int)) (m : Nat) : List (List UInt8) := (List.range m).map fun j : Nat => rwT zs (hghY zs - (j : Int)) (wdN zs)
theorem rowsT_succ (zs : List (Int × Int)) (m : Nat) : rowsT zs (m + 1) = rowsT zs m ++ [rwT zs (hghY zs - (m : Int)) (wdN zs)] := by
  unfold rowsT
  rw [List.range_succ, List.map_append]
  rfl
theorem rowsT_len (zs : List (Int × Int)) (m : Nat) : (rowsT zs m).length = m := by simp [rowsT]
/-- a shape's text -/
def shT (zs : List (Int × Int)) : List UInt8 := Lib.join (rowsT zs (htN zs)) [47]
def accS (zs : List (Int × Int)) (m : Nat) : List UInt8 := (rowsT zs m).flatMap (· ++ [47])
theorem accS_zero (zs : List (Int × Int)) : accS zs 0 = [] := rfl
theorem accS_succ (zs : List (Int × Int)) (m : Nat) : accS zs (m + 1) = accS zs m ++ rwT zs (hghY zs - (m : Int)) (wdN zs) ++ [47] := by
  unfold accS
  rw [rowsT_succ, List.flatMap_append]
  simp
theorem accS_len (zs : List (Int × Int)) (m : Nat) : (accS zs m).length = m * (wdN zs + 1) := by
  induction m with
  | zero => simp [accS_zero]
  | succ m ih => rw [accS_succ]; simp [ih, rwT_len, Nat.add_mul]
theorem join_snoc (xs : List (List UInt8)) (r : List UInt8) : Lib.join (xs ++ [r]) [47] = xs.flatMap (· ++ [47]) ++ r := by
  cases xs with
  | nil => simp [Lib.join_one]
  | cons x ys =>
    rw [List.cons_append, Lib.join_cons]
    induction ys generalizing x with
    | nil => simp [Lib.joinTail]
    | cons y ys ih =>
      have := ih y
      simp only [Lib.joinTail, List.cons_append, List.map_cons, List.flatten_cons, List.flatMap_cons, List.append_assoc] at this ⊢
      rw [this]
theorem shT_last (zs : List (Int × Int)) (m : Nat) (h : htN zs = m + 1) : shT zs = accS zs m ++ rwT zs (hghY zs - (m : Int)) (wdN zs) := by
  unfold shT
  rw [h, rowsT_succ, join_snoc]
  rfl
theorem acc_bd {zs : List (Int × Int)} (hs : shpB zs = true) {m : Nat} (hm : m ≤ htN zs) : (accS zs m).length ≤ 20000 := by
  obtain ⟨⟨⟨a1, a2⟩, a3⟩, ⟨b1, b2⟩, b3⟩ := bnd60 hs
  rw [accS_len]
  have h1 : m ≤ 121 := by unfold htN at hm; omega
  have h2 : wdN zs + 1 ≤ 122 := by unfold wdN; omega
  have := Nat.mul_le_mul h1 h2
  omega
theorem sh_len {zs : List (Int × Int)} (hs : shpB zs = true) : 0 < (shT zs).length ∧ (shT zs).length ≤ 20121 := by
  obtain ⟨⟨⟨a1, a2⟩, a3⟩, ⟨b1, b2⟩, b3⟩ := bnd60 hs
  obtain ⟨m, hm⟩ : ∃ m, htN zs = m + 1 := ⟨htN zs - 1, by unfold htN; omega⟩
  rw [shT_last zs m hm, List.length_append, rwT_len]
  have := acc_bd hs (m := m) (by omega)
  have : wdN zs ≤ 121 ∧ 0 < wdN zs := by unfold wdN; omega
  omega
/-- what ShapeText hands back -/
def shTxt (zs : List (Int × Int)) : ByteArray := if shpB zs then ⟨(shT zs).toArray⟩ else ⟨#[]⟩
theorem shp_ascP {zs : List (Int × Int)} (h : shpB zs = true) : Asc zs := by
  simp only [shpB, Bool.and_eq_true] at h
  have h1 := List.all_eq_true.1 h.1
  have key : ∀ i j (hi : i < zs.length) (hj : j < zs.length), i < j → ltQ zs[i] zs[j] = true := by
    intro i j hi hj hij
    induction j with
    | zero => omega
    | succ j ih =>
      have h2 := h1 (j + 1) (List.mem_range.2 hj)
      rw [okAt_suc hj (by omega : j < zs.length) rfl, Bool.and_eq_true] at h2
      by_cases e : i = j
      · subst e; exact h2.2
      · exact ltQ_trans (ih (by omega) (by omega)) h2.2
  exact List.pairwise_iff_getElem.2 fun i j hi hj hij => key i j hi hj hij
end Go.Proofs.YtfnihmmkbnkmnaaDoor
