/- Plain lemmas on reading a shape's text. No program. -/
import Derived.Test.YtfnihmmkbnkmnaaDoorShTextP
import Derived.Test.YtfnihmmkbnkmnaaDoorSplit
import Derived.Lib.SplitLaws
import Derived.Lib.IndexLaws
import Derived.Lib.Strings
namespace Go.Proofs.YtfnihmmkbnkmnaaDoor
open Go.RowKit Go.Deep

/-- the points that the first n bytes of a row give -/
def rowA (y : Int) (r : List UInt8) (n : Nat) : List (Int × Int) := ((List.range n).filter fun i => decide (r.getD i 0 = 35)).map fun i : Nat => ((i : Int), y)
theorem rowA_zero (y : Int) (r : List UInt8) : rowA y r 0 = [] := rfl
theorem rowA_yes {y : Int} {r : List UInt8} {n : Nat} (hn : n < r.length) (h : r[n] = 35) : rowA y r (n + 1) = rowA y r n ++ [((n : Int), y)] := by
  simp [rowA, List.range_succ, List.getD_eq_getElem?_getD, hn, h]
theorem rowA_no {y : Int} {r : List UInt8} {n : Nat} (hn : n < r.length) (h : r[n] ≠ 35) : rowA y r (n + 1) = rowA y r n := by
  simp [rowA, List.range_succ, List.getD_eq_getElem?_getD, hn, h]
theorem rowA_len (y : Int) (r : List UInt8) (n : Nat) : (rowA y r n).length ≤ n := by
  have := List.length_filter_le (fun i => decide (r.getD i 0 = 35)) (List.range n)
  simpa [rowA] using this
/-- the row that is y-th from the last -/
def backR (R : List (List UInt8)) (y : Nat) : List UInt8 := R.getD (R.length - 1 - y) []
/-- the points of the last m rows -/
def ptsA (R : List (List UInt8)) (m : Nat) : List (Int × Int) := (List.range m).flatMap fun y : Nat => rowA (y : Int) (backR R y) (backR R y).length
theorem ptsA_zero (R : List (List UInt8)) : ptsA R 0 = [] := rfl
theorem ptsA_succ (R : List (List UInt8)) (m : Nat) : ptsA R (m + 1) = ptsA R m ++ rowA (m : Int) (backR R m) (backR R m).length := by
  simp [ptsA, List.range_succ]
/-- how many bytes the last m rows have -/
def bytA (R : List (List UInt8)) (m : Nat) : Nat := ((List.range m).map fun y : Nat => (backR R y).length).sum
theorem bytA_succ (R : List (List UInt8)) (m : Nat) : bytA R (m + 1) = bytA R m + (backR R m).length := by simp [bytA, List.range_succ]
theorem ptsA_len (R : List (List UInt8)) : ∀ m, (ptsA R m).length ≤ bytA R m
  | 0 => by simp [ptsA]
  | m + 1 => by
    have h1 := ptsA_len R m
    have h2 := rowA_len (m : Int) (backR R m) (backR R m).length
    rw [ptsA_succ, bytA_succ, List.length_append]
    omega
theorem backR_at {R : List (List UInt8)} {y : Nat} (h : y < R.length) : backR R y = R[R.length - 1 - y] := by
  simp [backR, List.getD_eq_getElem?_getD, show R.length - 1 - y < R.length by omega]
theorem backR_rev {R : List (List UInt8)} {y : Nat} (h : y < R.length) : backR R y = R.reverse[y]'(by simpa using h) := by
  rw [backR_at h, List.getElem_reverse]
theorem bytA_rev (R : List (List UInt8)) : ∀ m, m ≤ R.length → bytA R m = ((R.reverse.take m).map List.length).sum
  | 0, _ => by simp [bytA]
  | m + 1, h => by
    have h1 := bytA_rev R m (by omega)
    have hl : m < R.reverse.length := by simp; omega
    rw [bytA_succ, List.take_succ_eq_append_getElem hl, h1, backR_rev (by omega)]
    simp
theorem bytA_le {R : List (List UInt8)} {m : Nat} (h : m ≤ R.length) : bytA R m ≤ (R.map List.length).sum := by
  rw [bytA_rev R m h]
  have e : (R.map List.length).sum = ((R.reverse.take m).map List.length).sum + ((R.reverse.drop m).map List.length).sum := by
    rw [← List.sum_append, ← List.map_append, List.take_append_drop, List.map_reverse, List.sum_reverse]
  omega
theorem spl_sum (c : UInt8) : ∀ (l cur : List UInt8), ((spl c cur l).map List.length).sum + (spl c cur l).length = cur.length + l.length + 1
  | [], cur => by simp [spl]
  | x :: r, cur => by
    unfold spl
    split
    · have := spl_sum c r []
      simp only [List.map_cons, List.sum_cons, List.length_cons, List.length_nil] at this ⊢
      omega
    · have := spl_sum c r (cur ++ [x])
      simp only [List.length_append, List.length_cons, List.length_nil] at this ⊢
      omega

theorem spl_cut {c : UInt8} : ∀ (a b cur : List UInt8), c ∉ a → spl c cur (a ++ c :: b) = (cur ++ a) :: spl c [] b
  | [], b, cur, _ => by simp [spl]
  | x :: a, b, cur, h => by
    have hx : x ≠ c := fun e => h (by simp [e])
    simp only [List.cons_append]
    rw [spl, if_neg hx, spl_cut a b _ (fun e => h (by simp [e]))]
    simp
/-- what the library's Split gives -/
theorem splitK_spl (c : UInt8) : ∀ (n : Nat) (l : List UInt8), l.length ≤ n → Lib.splitK [c] 0 (Lib.count l [c]) l = spl c [] l
  | n, l, hn => by
    have hi1 : Lib.index l [c] = Lib.indexByte l c := Lib.index_one l c
    rcases (show Lib.indexByte l c < 0 ∨ 0 ≤ Lib.indexByte l c by omega) with hi | hi
    · have hge := Lib.indexByte_ge l c
      have hm : Lib.indexByte l c = -1 := by omega
      have hc : c ∉ l := by
        intro h
        obtain ⟨k, hk⟩ := List.mem_iff_getElem?.1 h
        exact Lib.indexByte_none hm k hk
      rw [Lib.count_miss (by rw [hi1, hm]), spl_free c l [] hc]
      rfl
    · obtain ⟨o, ho⟩ := Int.eq_ofNat_of_zero_le hi
      obtain ⟨h1, h2⟩ := Lib.indexByte_some ho
      have hol : o < l.length := (List.getElem?_eq_some_iff.1 h1).1
      have he : l = l.take o ++ c :: l.drop (o + 1) := by
        have e1 : l[o] = c := (List.getElem?_eq_some_iff.1 h1).2
        have := List.take_append_drop o l
        rw [List.drop_eq_getElem_cons hol, e1] at this
        exact this.symm
      have hnc : c ∉ l.take o := by
        intro hm
        obtain ⟨k, hk⟩ := List.mem_iff_getElem?.1 hm
        have hk2 : k < o := by have := (List.getElem?_eq_some_iff.1 hk).1; rw [List.length_take] at this; omega
        rw [List.getElem?_take, if_pos hk2] at hk
        exact h2 k hk2 hk
      have hix : Lib.index l [c] = (o : Int) := by rw [hi1]; exact ho
      match n, hn with
      | 0, hn => omega
      | n + 1, hn =>
        have ih := splitK_spl c n (l.drop (o + 1)) (by rw [List.length_drop]; omega)
        have hcnt : Lib.count l [c] = Lib.count (l.drop (o + 1)) [c] + 1 := by
          rw [Lib.count_hit (by simp) hix]; simp; omega
        rw [hcnt, Lib.splitK, if_neg (by rw [hix]; simp), hix]
        simp only [Int.toNat_natCast, Nat.add_zero, List.length_singleton]
        rw [ih]
        conv => rhs; rw [he]
        rw [spl_cut _ _ [] hnc]
        rfl
/-- the rows of a text -/
def rsR (s : ByteArray) : List (List UInt8) := spl 47 [] s.data.toList
def rsZ (s : ByteArray) : List (Int × Int) := ptsA (rsR s) (rsR s).length
def rsB (s : ByteArray) : Bool := shpB (rsZ s) && decide (shTxt (rsZ s) = s)
def rsL (s : ByteArray) : List (Int × Int) := if rsB s then rsZ s else []
def rsC (s : ByteArray) : Int := if rsB s then 0 else 6
theorem rsR_ne (s : ByteArray) : rsR s ≠ [] := spl_ne _ _ _
theorem rsR_pos (s : ByteArray) : 0 < (rsR s).length := List.length_pos_iff.2 (rsR_ne s)
theorem rs_sum (s : ByteArray) : ((rsR s).map List.length).sum + (rsR s).length = s.size + 1 := by
  have := spl_sum 47 s.data.toList []
  rw [Array.length_toList] at this
  simpa [rsR] using this
theorem spl_rows : ∀ (ys : List (List UInt8)) (x : List UInt8), (47 : UInt8) ∉ x → (∀ y ∈ ys, (47 : UInt8) ∉ y) → spl 47 [] (x ++ ys.flatMap (fun r => 47 :: r)) = x :: ys
  | [], x, hx, _ => by simpa using spl_free 47 x [] hx
  | y :: ys, x, hx, h => by
    have ih := spl_rows ys y (h y (by simp)) fun z hz => h z (by simp [hz])
    simp only [List.flatMap_cons, List.cons_append]
    rw [spl_cut x _ [] hx, ih]
    simp
theorem tail_flat : ∀ ys : List (List UInt8), (ys.map (fun x => ([47] : List UInt8) ++ x)).flatten = ys.flatMap (fun r => 47 :: r)
  | [] => rfl
  | y :: ys => by
    rw [List.map_cons, List.flatten_cons, List.flatMap_cons, tail_flat ys]
    simp
theorem join_flat (ys : List (List UInt8)) (x : List UInt8) : Lib.join (x :: ys) [47] = x ++ ys.flatMap (fun r => 47 :: r) := by
  rw [Lib.join_cons, ← tail_flat]
  rfl
theorem rwT_signs {zs : List (Int × Int)} {y : Int} {n : Nat} : ∀ c ∈ rwT zs y n, c = 35 ∨ c = 46 := by
  intro c hc
  obtain ⟨i, _, rfl⟩ := List.mem_map.1 hc
  split
  · exact .inl rfl
  · exact .inr rfl
theorem rowsT_mem {zs : List (Int × Int)} {m : Nat} {r : List UInt8} (h : r ∈ rowsT zs m) : r.length = wdN zs ∧ ∀ c ∈ r, c = 35 ∨ c = 46 := by
  obtain ⟨j, _, rfl⟩ := List.mem_map.1 h
  exact ⟨rwT_len _ _ _, rwT_signs⟩
theorem spl_shT {zs : List (Int × Int)} (hs : shpB zs = true) : spl 47 [] (shT zs) = rowsT zs (htN zs) := by
  obtain ⟨_, ⟨b1, b2⟩, b3⟩ := bnd60 hs
  have hh : 0 < (rowsT zs (htN zs)).length := by rw [rowsT_len]; unfold htN; omega
  have hm : ∀ r ∈ rowsT zs (htN zs), (47 : UInt8) ∉ r := by
    intro r hr h47
    rcases (rowsT_mem hr).2 47 h47 with h | h <;> exact absurd h (by decide)
  unfold shT
  cases hr : rowsT zs (htN zs) with
  | nil => rw [hr] at hh; simp at hh
  | cons x ys =>
    rw [hr] at hm
    rw [join_flat, spl_rows ys x (hm x (by simp)) fun y hy => hm y (by simp [hy])]
theorem rs_good {s : ByteArray} (h : rsB s = true) : ∀ r ∈ rsR s, r.length = wdN (rsZ s) ∧ ∀ c ∈ r, c = 35 ∨ c = 46 := by
  unfold rsB at h
  rw [Bool.and_eq_true, decide_eq_true_eq] at h
  obtain ⟨h1, h2⟩ := h
  have h3 : s.data.toList = shT (rsZ s) := by
    have : shTxt (rsZ s) = ⟨(shT (rsZ s)).toArray⟩ := by simp [shTxt, h1]
    rw [this] at h2
    rw [← congrArg (fun b : ByteArray => b.data.toList) h2]
  intro r hr
  have e : rsR s = rowsT (rsZ s) (htN (rsZ s)) := by
    have := spl_shT h1
    rw [← h3] at this
    exact this
  rw [e] at hr
  exact rowsT_mem hr
theorem rs_bad1 {s : ByteArray} {y : Nat} (hy : y < (rsR s).length) (h : (backR (rsR s) y).length ≠ ((rsR s)[0]'(rsR_pos s)).length) : rsB s = false := by
  cases hb : rsB s
  · rfl
  · have h1 := (rs_good hb _ (List.getElem_mem (rsR_pos s))).1
    have h2 := (rs_good hb (backR (rsR s) y) (by rw [backR_at hy]; exact List.getElem_mem _)).1
    exact absurd (h2.trans h1.symm) h
theorem rs_bad2 {s : ByteArray} {y x : Nat} (hy : y < (rsR s).length) (hx : x < (backR (rsR s) y).length) (h1 : (backR (rsR s) y)[x] ≠ 35) (h2 : (backR (rsR s) y)[x] ≠ 46) : rsB s = false := by
  cases hb : rsB s
  · rfl
  · rcases (rs_good hb (backR (rsR s) y) (by rw [backR_at hy]; exact List.getElem_mem _)).2 _ (List.getElem_mem hx) with h | h
    · exact absurd h h1
    · exact absurd h h2
theorem rs_len (s : ByteArray) : (rsZ s).length ≤ s.size := by
  have h1 := ptsA_len (rsR s) (rsR s).length
  have h2 := bytA_le (R := rsR s) (m := (rsR s).length) (Nat.le_refl _)
  have h3 := rs_sum s
  have h4 := rsR_pos s
  unfold rsZ
  omega
theorem rsL_len (s : ByteArray) : (rsL s).length ≤ s.size := by
  have := rs_len s
  unfold rsL
  split
  · exact this
  · simp
theorem rs_yes {s : ByteArray} (h : rsB s = true) : rsL s = rsZ s ∧ rsC s = 0 := by simp [rsL, rsC, h]
theorem rs_no {s : ByteArray} (h : rsB s = false) : rsL s = [] ∧ rsC s = 6 := by simp [rsL, rsC, h]
theorem ptsA_le {s : ByteArray} {m : Nat} (h : m ≤ (rsR s).length) : (ptsA (rsR s) m).length + (rsR s).length ≤ s.size + 1 := by
  have h1 := ptsA_len (rsR s) m
  have h2 := bytA_le (R := rsR s) (m := m) h
  have h3 := rs_sum s
  omega
theorem ptsA_part {s : ByteArray} {m x : Nat} (h : m < (rsR s).length) (hx : x ≤ (backR (rsR s) m).length) : (ptsA (rsR s) m ++ rowA (m : Int) (backR (rsR s) m) x).length + (rsR s).length ≤ s.size + 1 := by
  have h1 := ptsA_len (rsR s) m
  have h2 := bytA_le (R := rsR s) (m := m + 1) h
  have h3 := rs_sum s
  have h4 := rowA_len (m : Int) (backR (rsR s) m) x
  rw [bytA_succ] at h2
  rw [List.length_append]
  omega
end Go.Proofs.YtfnihmmkbnkmnaaDoor
