/- A set without the glues that no side has and without a tile like an earlier one: plain words. No program. -/
import Derived.Test.YtcbifdfcllaaaaaSetOk
namespace Go.Proofs.Ytcbifdfcllaaaaa
open Go.RowKit Go.Deep
set_option linter.unusedVariables false
set_option linter.unusedSimpArgs false

/-- has some side the glue n + 1 -/
def usB (T : List (ByteArray × List Int)) (n : Nat) : Bool := T.any fun t => t.2.any fun s => decide (s = (n : Int) + 1)
/-- the glues of the first n that some side has -/
def kpN (T : List (ByteArray × List Int)) (n : Nat) : List Nat := (List.range n).filter (usB T)
def oG (G : List (ByteArray × Int)) (T : List (ByteArray × List Int)) (n : Nat) : List (ByteArray × Int) := (kpN T n).map fun i => G.getD i default
theorem kpN_zero (T : List (ByteArray × List Int)) : kpN T 0 = [] := rfl
theorem kpN_yes {T : List (ByteArray × List Int)} {n : Nat} (h : usB T n = true) : kpN T (n + 1) = kpN T n ++ [n] := by simp [kpN, List.range_succ, h]
theorem kpN_no {T : List (ByteArray × List Int)} {n : Nat} (h : usB T n = false) : kpN T (n + 1) = kpN T n := by simp [kpN, List.range_succ, h]
theorem oG_zero (G : List (ByteArray × Int)) (T : List (ByteArray × List Int)) : oG G T 0 = [] := rfl
theorem oG_len (G : List (ByteArray × Int)) (T : List (ByteArray × List Int)) (n : Nat) : (oG G T n).length = (kpN T n).length := by simp [oG]
theorem oG_yes {G : List (ByteArray × Int)} {T : List (ByteArray × List Int)} {n : Nat} (h : usB T n = true) (hn : n < G.length) : oG G T (n + 1) = oG G T n ++ [G[n]] := by
  unfold oG
  rw [kpN_yes h, List.map_append]
  simp [List.getD_eq_getElem?_getD, hn]
theorem oG_no {G : List (ByteArray × Int)} {T : List (ByteArray × List Int)} {n : Nat} (h : usB T n = false) : oG G T (n + 1) = oG G T n := by
  unfold oG
  rw [kpN_no h]
theorem kpN_le (T : List (ByteArray × List Int)) (n : Nat) : (kpN T n).length ≤ n := by
  unfold kpN
  exact Nat.le_trans (List.length_filter_le _ _) (by simp)
/-- the numbers that the first n glues have now -/
def nowF (T : List (ByteArray × List Int)) (n j : Nat) : Int := if 1 ≤ j ∧ j ≤ n ∧ usB T (j - 1) = true then ((kpN T j).length : Int) else 0
def nowL (m : Nat) (T : List (ByteArray × List Int)) (n : Nat) : List Int := (List.range (m + 1)).map (nowF T n)
theorem nowL_len (m : Nat) (T : List (ByteArray × List Int)) (n : Nat) : (nowL m T n).length = m + 1 := by simp [nowL]
theorem nowL_get {m : Nat} {T : List (ByteArray × List Int)} {n j : Nat} (h : j < (nowL m T n).length) : (nowL m T n)[j] = nowF T n j := by simp [nowL]
theorem nowL_zero (m : Nat) (T : List (ByteArray × List Int)) : nowL m T 0 = List.replicate (m + 1) 0 := by
  apply List.ext_getElem
  · simp [nowL]
  · intro j h1 h2
    rw [nowL_get, List.getElem_replicate]
    unfold nowF
    rw [if_neg (by omega)]
theorem nowL_no {m : Nat} {T : List (ByteArray × List Int)} {n : Nat} (h : usB T n = false) : nowL m T (n + 1) = nowL m T n := by
  apply List.ext_getElem
  · simp [nowL]
  · intro j h1 h2
    rw [nowL_get, nowL_get]
    unfold nowF
    by_cases e : j = n + 1
    · subst e
      rw [if_neg (by simp [h]), if_neg (by omega)]
    · by_cases c : 1 ≤ j ∧ j ≤ n ∧ usB T (j - 1) = true
      · rw [if_pos c, if_pos ⟨c.1, by omega, c.2.2⟩]
      · rw [if_neg c, if_neg (fun q => c ⟨q.1, by omega, q.2.2⟩)]
theorem nowL_yes {m : Nat} {T : List (ByteArray × List Int)} {n : Nat} (h : usB T n = true) (hn : n < m) : nowL m T (n + 1) = (nowL m T n).set (n + 1) ((kpN T (n + 1)).length : Int) := by
  apply List.ext_getElem
  · simp [nowL]
  · intro j h1 h2
    rw [nowL_get, List.getElem_set]
    by_cases e : n + 1 = j
    · subst e
      rw [if_pos rfl]
      unfold nowF
      rw [if_pos ⟨by omega, Nat.le_refl _, by simpa using h⟩]
    · rw [if_neg e, nowL_get]
      unfold nowF
      by_cases c : 1 ≤ j ∧ j ≤ n ∧ usB T (j - 1) = true
      · rw [if_pos c, if_pos ⟨c.1, by omega, c.2.2⟩]
      · rw [if_neg c, if_neg (fun q => c ⟨q.1, by omega, q.2.2⟩)]
/-- the number of a side's glue now -/
def trV (T : List (ByteArray × List Int)) (g : Int) : Int := if g = 0 then 0 else ((kpN T g.toNat).length : Int)
def trS (T : List (ByteArray × List Int)) (s : List Int) : List Int := s.map (trV T)
theorem us_of {T : List (ByteArray × List Int)} {k d : Nat} (hk : k < T.length) (hd : d < T[k].2.length) {j : Nat} (e : T[k].2[d] = (j : Int) + 1) : usB T j = true := by
  unfold usB
  exact List.any_eq_true.2 ⟨T[k], List.getElem_mem hk, List.any_eq_true.2 ⟨_, List.getElem_mem hd, by simpa using e⟩⟩
theorem now_side {m : Nat} {T : List (ByteArray × List Int)} {k d : Nat} (hk : k < T.length) (hd : d < T[k].2.length) (h0 : 0 ≤ T[k].2[d]) (h1 : T[k].2[d] ≤ (m : Int)) (hj : T[k].2[d].toNat < (nowL m T m).length) : (nowL m T m)[T[k].2[d].toNat] = trV T T[k].2[d] := by
  rw [nowL_get]
  unfold nowF trV
  by_cases c : T[k].2[d] = 0
  · rw [if_pos c, if_neg (by omega)]
  · rw [if_neg c, if_pos ⟨by omega, by omega, us_of hk hd (by omega)⟩]
/-- one tile more: like an earlier one, or new -/
def stT (T : List (ByteArray × List Int)) (p : List (ByteArray × List Int) × List Int) (t : ByteArray × List Int) : List (ByteArray × List Int) × List Int :=
  if idxF (fun u : ByteArray × List Int => eqL u.2 (trS T t.2)) p.1 < 0 then (p.1 ++ [(t.1, trS T t.2)], p.2 ++ [(p.1.length : Int)]) else (p.1, p.2 ++ [idxF (fun u : ByteArray × List Int => eqL u.2 (trS T t.2)) p.1])
def oT (T : List (ByteArray × List Int)) (n : Nat) : List (ByteArray × List Int) := ((T.take n).foldl (stT T) ([], [])).1
def oA (T : List (ByteArray × List Int)) (n : Nat) : List Int := ((T.take n).foldl (stT T) ([], [])).2
def lkF (T : List (ByteArray × List Int)) (n : Nat) (s : List Int) : Int := idxF (fun u : ByteArray × List Int => eqL u.2 s) (oT T n)
theorem oT_zero (T : List (ByteArray × List Int)) : oT T 0 = [] := rfl
theorem oA_zero (T : List (ByteArray × List Int)) : oA T 0 = [] := rfl
theorem o_succ {T : List (ByteArray × List Int)} {n : Nat} (h : n < T.length) : (T.take (n + 1)).foldl (stT T) ([], []) = stT T (oT T n, oA T n) T[n] := by
  rw [List.take_succ_eq_append_getElem h, List.foldl_append]
  rfl
theorem o_new {T : List (ByteArray × List Int)} {n : Nat} (h : n < T.length) (hi : lkF T n (trS T T[n].2) < 0) : oT T (n + 1) = oT T n ++ [(T[n].1, trS T T[n].2)] ∧ oA T (n + 1) = oA T n ++ [((oT T n).length : Int)] := by
  unfold oT oA at *
  rw [o_succ h]
  unfold stT
  rw [if_pos (show idxF (fun u : ByteArray × List Int => eqL u.2 (trS T T[n].2)) (oT T n, oA T n).1 < 0 from hi)]
  exact ⟨rfl, rfl⟩
theorem o_old {T : List (ByteArray × List Int)} {n : Nat} (h : n < T.length) (hi : ¬ lkF T n (trS T T[n].2) < 0) : oT T (n + 1) = oT T n ∧ oA T (n + 1) = oA T n ++ [lkF T n (trS T T[n].2)] := by
  unfold oT oA at *
  rw [o_succ h]
  unfold stT
  rw [if_neg (show ¬ idxF (fun u : ByteArray × List Int => eqL u.2 (trS T T[n].2)) (oT T n, oA T n).1 < 0 from hi)]
  exact ⟨rfl, rfl⟩
theorem oT_le (T : List (ByteArray × List Int)) : ∀ n, n ≤ T.length → (oT T n).length ≤ n ∧ (oA T n).length = n
  | 0, _ => ⟨Nat.le_refl _, rfl⟩
  | n + 1, h => by
    have ih := oT_le T n (by omega)
    by_cases hi : lkF T n (trS T T[n].2) < 0
    · obtain ⟨e1, e2⟩ := o_new (T := T) (n := n) (by omega) hi
      rw [e1, e2, List.length_append, List.length_append]
      simp only [List.length_cons, List.length_nil]
      omega
    · obtain ⟨e1, e2⟩ := o_old (T := T) (n := n) (by omega) hi
      rw [e1, e2, List.length_append]
      simp only [List.length_cons, List.length_nil]
      omega
/-- what TrimSet answers -/
def tmG (G : List (ByteArray × Int)) (T : List (ByteArray × List Int)) : List (ByteArray × Int) := if setB G T then oG G T G.length else []
def tmT (G : List (ByteArray × Int)) (T : List (ByteArray × List Int)) : List (ByteArray × List Int) := if setB G T then oT T T.length else []
def tmA (G : List (ByteArray × Int)) (T : List (ByteArray × List Int)) : List Int := if setB G T then oA T T.length else []
def tmC (G : List (ByteArray × Int)) (T : List (ByteArray × List Int)) : Int := if setB G T then 0 else 1

theorem set_new {G : List (ByteArray × Int)} {T : List (ByteArray × List Int)} (h : setB G T = true) : ∀ i j (hi : i < G.length) (hj : j < G.length), i < j → G[i].1 ≠ G[j].1 := by
  intro i j hi hj hij e
  simp only [setB, Bool.and_eq_true, decide_eq_true_eq] at h
  have := List.all_eq_true.1 h.2.1 j (List.mem_range.2 hj)
  rw [gOk_at hj] at this
  simp only [Bool.and_eq_true] at this
  have hn := this.2.2
  unfold newAt at hn
  rw [Bool.not_eq_true', List.any_eq_false] at hn
  exact hn G[i] (List.mem_take_iff_getElem.2 ⟨i, by omega, rfl⟩) (by simp [e])
theorem idx_app_miss {α : Type} (p : α → Bool) : ∀ (xs ys : List α), (∀ x ∈ xs, p x = false) → idxF p (xs ++ ys) = if idxF p ys < 0 then -1 else (xs.length : Int) + idxF p ys
  | [], ys, _ => by
    have := (idxF_bd p ys).1
    rw [List.nil_append]
    by_cases h : idxF p ys < 0
    · rw [if_pos h]; omega
    · rw [if_neg h]; simp
  | x :: xs, ys, h => by
    have ih := idx_app_miss p xs ys (fun y hy => h y (List.mem_cons_of_mem _ hy))
    simp only [List.cons_append, idxF, h x (List.mem_cons_self ..), Bool.false_eq_true, if_false, ih, List.length_cons]
    have := (idxF_bd p ys).1
    split
    · simp
    · rw [if_neg (by omega)]
      omega
/-- the name of a glue that is kept finds its number -/
theorem named_rank {G : List (ByteArray × Int)} {T : List (ByteArray × List Int)} (h : setB G T = true) {j : Nat} (hj : j < G.length) (hu : usB T j = true) : idxF (nmP G[j].1) (oG G T G.length) + 1 = ((kpN T (j + 1)).length : Int) := by
  have hsp : ∀ d, j + 1 + d ≤ G.length → ∃ ys, oG G T (j + 1 + d) = oG G T j ++ G[j] :: ys := by
    intro d
    induction d with
    | zero => intro _; exact ⟨[], by rw [Nat.add_zero, oG_yes hu hj]⟩
    | succ d ih =>
      intro hd
      obtain ⟨ys, e⟩ := ih (by omega)
      cases q : usB T (j + 1 + d)
      · exact ⟨ys, by rw [← Nat.add_assoc, oG_no q, e]⟩
      · exact ⟨ys ++ [G[j + 1 + d]], by rw [← Nat.add_assoc, oG_yes q (by omega), e]; simp⟩
  obtain ⟨ys, e⟩ := hsp (G.length - (j + 1)) (by omega)
  rw [show j + 1 + (G.length - (j + 1)) = G.length by omega] at e
  rw [e, idx_app_miss]
  · have e2 : idxF (nmP G[j].1) (G[j] :: ys) = 0 := by simp [idxF, nmP]
    rw [e2, if_neg (by omega), oG_len, kpN_yes hu]
    simp
  · intro x hx
    unfold oG at hx
    obtain ⟨i, hi, rfl⟩ := List.mem_map.1 hx
    have hij : i < j := by
      unfold kpN at hi
      exact List.mem_range.1 (List.mem_filter.1 hi).1
    have hil : i < G.length := by omega
    have := set_new h i j hil hj hij
    simp [nmP, List.getD_eq_getElem?_getD, hil, this]
/-- what the name of a side's glue finds -/
theorem named_side {G : List (ByteArray × Int)} {T : List (ByteArray × List Int)} (h : setB G T = true) {k d : Nat} (hk : k < T.length) (hd : d < T[k].2.length) {j : Nat} (hj : j < G.length) (e : T[k].2[d] = (j : Int) + 1) : idxF (nmP G[j].1) (oG G T G.length) + 1 = trV T T[k].2[d] := by
  rw [named_rank h hj (us_of hk hd e)]
  unfold trV
  rw [if_neg (by omega), show T[k].2[d].toNat = j + 1 by omega]
end Go.Proofs.Ytcbifdfcllaaaaa
