/- Plain lemmas on shapes in which each point is a square. No program. -/
import Derived.Test.YthafdlfhkcbjhaaShapeP
namespace Go.Proofs.Ythafdlfhkcbjhaa

/-- the first m points of the reference's list: point by point, row by row -/
def scaT (zs : List (Int × Int)) (K m : Nat) : List (Int × Int) := (List.range m).map fun t => ((zs.getD (t / (K * K)) (0, 0)).1 * K + ((t % (K * K) % K : Nat) : Int), (zs.getD (t / (K * K)) (0, 0)).2 * K + ((t % (K * K) / K : Nat) : Int))
/-- the first m points of the program's list: point by point, column by column -/
def scaI (zs : List (Int × Int)) (K m : Nat) : List (Int × Int) := (List.range m).map fun t => ((K : Int) * (zs.getD (t / K / K) (0, 0)).1 + ((t / K % K : Nat) : Int), (K : Int) * (zs.getD (t / K / K) (0, 0)).2 + ((t % K : Nat) : Int))
theorem scaT_len (zs : List (Int × Int)) (K m : Nat) : (scaT zs K m).length = m := by simp [scaT]
theorem scaI_len (zs : List (Int × Int)) (K m : Nat) : (scaI zs K m).length = m := by simp [scaI]
theorem scaT_succ {zs : List (Int × Int)} {K m i j : Nat} (hm : m = i * (K * K) + j) (hj : j < K * K) (hi : i < zs.length) : scaT zs K (m + 1) = scaT zs K m ++ [(zs[i].1 * (K : Int) + ((j % K : Nat) : Int), zs[i].2 * (K : Int) + ((j / K : Nat) : Int))] := by
  have h1 : m / (K * K) = i := by subst hm; rw [Nat.mul_comm i, Nat.mul_add_div (by omega), Nat.div_eq_of_lt hj]; omega
  have h2 : m % (K * K) = j := by subst hm; rw [Nat.mul_comm i, Nat.mul_add_mod, Nat.mod_eq_of_lt hj]
  have e : zs.getD i (0, 0) = zs[i] := by simp [List.getD_eq_getElem?_getD, hi]
  unfold scaT
  rw [List.range_succ, List.map_append, List.map_cons, List.map_nil]
  simp only [h1, h2, e]
theorem scaI_succ {zs : List (Int × Int)} {K m i a b : Nat} (hm : m = (i * K + a) * K + b) (ha : a < K) (hb : b < K) (hi : i < zs.length) : scaI zs K (m + 1) = scaI zs K m ++ [((K : Int) * zs[i].1 + (a : Int), (K : Int) * zs[i].2 + (b : Int))] := by
  have h1 : m / K = i * K + a := by subst hm; rw [Nat.mul_comm (i * K + a), Nat.mul_add_div (by omega), Nat.div_eq_of_lt hb]; omega
  have h2 : m % K = b := by subst hm; rw [Nat.mul_comm (i * K + a), Nat.mul_add_mod, Nat.mod_eq_of_lt hb]
  have h3 : (i * K + a) / K = i := by rw [Nat.mul_comm i, Nat.mul_add_div (by omega), Nat.div_eq_of_lt ha]; omega
  have h4 : (i * K + a) % K = a := by rw [Nat.mul_comm i, Nat.mul_add_mod, Nat.mod_eq_of_lt ha]
  have e : zs.getD i (0, 0) = zs[i] := by simp [List.getD_eq_getElem?_getD, hi]
  unfold scaI
  rw [List.range_succ, List.map_append, List.map_cons, List.map_nil]
  simp only [h1, h2, h3, h4, e]

theorem scaT_mem {zs : List (Int × Int)} {K : Nat} (q : Int × Int) : q ∈ scaT zs K (zs.length * (K * K)) ↔ ∃ p ∈ zs, ∃ u v : Nat, u < K ∧ v < K ∧ q = ((K : Int) * p.1 + (u : Int), (K : Int) * p.2 + (v : Int)) := by
  simp only [scaT, List.mem_map, List.mem_range]
  constructor
  · rintro ⟨t, ht, rfl⟩
    have hK : 0 < K * K := by
      rcases Nat.eq_zero_or_pos (K * K) with h | h
      · rw [h] at ht; omega
      · exact h
    have hK1 : 0 < K := Nat.pos_of_mul_pos_left hK
    have hi : t / (K * K) < zs.length := (Nat.div_lt_iff_lt_mul hK).2 ht
    refine ⟨zs[t / (K * K)], List.getElem_mem hi, t % (K * K) % K, t % (K * K) / K, Nat.mod_lt _ hK1, (Nat.div_lt_iff_lt_mul hK1).2 (Nat.mod_lt _ hK), ?_⟩
    simp [List.getD_eq_getElem?_getD, hi, Int.mul_comm]
  · rintro ⟨p, hp, u, v, hu, hv, rfl⟩
    obtain ⟨i, hi, rfl⟩ := List.mem_iff_getElem.1 hp
    have hj : v * K + u < K * K := by
      have : (v + 1) * K ≤ K * K := Nat.mul_le_mul_right _ hv
      rw [Nat.add_mul] at this; omega
    have h1 : (i * (K * K) + (v * K + u)) / (K * K) = i := by rw [Nat.mul_comm i, Nat.mul_add_div (by omega), Nat.div_eq_of_lt hj]; omega
    have h2 : (i * (K * K) + (v * K + u)) % (K * K) = v * K + u := by rw [Nat.mul_comm i, Nat.mul_add_mod, Nat.mod_eq_of_lt hj]
    have h3 : (v * K + u) % K = u := by rw [Nat.mul_comm v, Nat.mul_add_mod, Nat.mod_eq_of_lt hu]
    have h4 : (v * K + u) / K = v := by rw [Nat.mul_comm v, Nat.mul_add_div (by omega), Nat.div_eq_of_lt hu]; omega
    refine ⟨i * (K * K) + (v * K + u), ?_, ?_⟩
    · have : (i + 1) * (K * K) ≤ zs.length * (K * K) := Nat.mul_le_mul_right _ hi
      rw [Nat.add_mul] at this; omega
    · rw [h1, h2, h3, h4]
      simp [List.getD_eq_getElem?_getD, hi, Int.mul_comm]
theorem scaI_mem {zs : List (Int × Int)} {K : Nat} (q : Int × Int) : q ∈ scaI zs K (zs.length * (K * K)) ↔ ∃ p ∈ zs, ∃ u v : Nat, u < K ∧ v < K ∧ q = ((K : Int) * p.1 + (u : Int), (K : Int) * p.2 + (v : Int)) := by
  simp only [scaI, List.mem_map, List.mem_range]
  constructor
  · rintro ⟨t, ht, rfl⟩
    have hK : 0 < K * K := by
      rcases Nat.eq_zero_or_pos (K * K) with h | h
      · rw [h] at ht; omega
      · exact h
    have hK1 : 0 < K := Nat.pos_of_mul_pos_left hK
    have hi : t / K / K < zs.length := by rw [Nat.div_div_eq_div_mul]; exact (Nat.div_lt_iff_lt_mul hK).2 ht
    refine ⟨zs[t / K / K], List.getElem_mem hi, t / K % K, t % K, Nat.mod_lt _ hK1, Nat.mod_lt _ hK1, ?_⟩
    simp [List.getD_eq_getElem?_getD, hi]
  · rintro ⟨p, hp, u, v, hu, hv, rfl⟩
    obtain ⟨i, hi, rfl⟩ := List.mem_iff_getElem.1 hp
    have h1 : ((i * K + u) * K + v) / K = i * K + u := by rw [Nat.mul_comm (i * K + u), Nat.mul_add_div (by omega), Nat.div_eq_of_lt hv]; omega
    have h2 : ((i * K + u) * K + v) % K = v := by rw [Nat.mul_comm (i * K + u), Nat.mul_add_mod, Nat.mod_eq_of_lt hv]
    have h3 : (i * K + u) / K = i := by rw [Nat.mul_comm i, Nat.mul_add_div (by omega), Nat.div_eq_of_lt hu]; omega
    have h4 : (i * K + u) % K = u := by rw [Nat.mul_comm i, Nat.mul_add_mod, Nat.mod_eq_of_lt hu]
    refine ⟨(i * K + u) * K + v, ?_, ?_⟩
    · have a1 : (i + 1) * K ≤ zs.length * K := Nat.mul_le_mul_right _ hi
      have a2 : (i * K + u + 1) * K ≤ zs.length * K * K := Nat.mul_le_mul_right _ (by rw [Nat.add_mul] at a1; omega)
      rw [Nat.add_mul] at a2
      rw [← Nat.mul_assoc]; omega
    · rw [h1, h2, h3, h4]
      simp [List.getD_eq_getElem?_getD, hi]
theorem scale_eq {k x y : Int} {u v : Nat} (h : k * x + (u : Int) = k * y + (v : Int)) (hu : (u : Int) < k) (hv : (v : Int) < k) : x = y ∧ u = v := by
  have h1 : x = (k * x + (u : Int)) / k := by rw [Int.mul_add_ediv_left _ _ (by omega), Int.ediv_eq_zero_of_lt (by omega) hu]; omega
  have h2 : y = (k * y + (v : Int)) / k := by rw [Int.mul_add_ediv_left _ _ (by omega), Int.ediv_eq_zero_of_lt (by omega) hv]; omega
  have e : x = y := by rw [h1, h2, h]
  subst e
  exact ⟨rfl, by omega⟩
theorem scaI_nd {zs : List (Int × Int)} {K : Nat} (hd : zs.Nodup) : (scaI zs K (zs.length * (K * K))).Nodup := by
  unfold scaI
  rw [List.Nodup, List.pairwise_map]
  refine (List.pairwise_iff_getElem.2 fun i j hi hj hij => ?_)
  simp only [List.getElem_range]
  simp only [List.length_range] at hi hj
  intro he
  have hK : 0 < K * K := by
    rcases Nat.eq_zero_or_pos (K * K) with h | h
    · rw [h] at hi; omega
    · exact h
  have hK1 : 0 < K := Nat.pos_of_mul_pos_left hK
  have bi : i / K / K < zs.length := by rw [Nat.div_div_eq_div_mul]; exact (Nat.div_lt_iff_lt_mul hK).2 hi
  have bj : j / K / K < zs.length := by rw [Nat.div_div_eq_div_mul]; exact (Nat.div_lt_iff_lt_mul hK).2 hj
  have e1 := (Prod.ext_iff.1 he).1
  have e2 := (Prod.ext_iff.1 he).2
  simp only at e1 e2
  have m1 := Nat.mod_lt (i / K) hK1
  have m2 := Nat.mod_lt (j / K) hK1
  have m3 := Nat.mod_lt i hK1
  have m4 := Nat.mod_lt j hK1
  obtain ⟨x1, u1⟩ := scale_eq e1 (by omega) (by omega)
  obtain ⟨y1, v1⟩ := scale_eq e2 (by omega) (by omega)
  have hz : zs[i / K / K] = zs[j / K / K] := by
    apply Prod.ext
    · simpa [List.getD_eq_getElem?_getD, bi, bj] using x1
    · simpa [List.getD_eq_getElem?_getD, bi, bj] using y1
  have hidx : i / K / K = j / K / K := by
    rcases Nat.lt_trichotomy (i / K / K) (j / K / K) with h | h | h
    · exact absurd hz (List.pairwise_iff_getElem.1 hd _ _ bi bj h)
    · exact h
    · exact absurd hz.symm (List.pairwise_iff_getElem.1 hd _ _ bj bi h)
  have q1 := Nat.div_add_mod (i / K) K
  have q2 := Nat.div_add_mod (j / K) K
  have q3 := Nat.div_add_mod i K
  have q4 := Nat.div_add_mod j K
  have a1 : i / K = j / K := by rw [← q1, ← q2, hidx, u1]
  have a2 : i = j := by rw [← q3, ← q4, a1, v1]
  omega
/-- a shape scaled -/
def scaL (zs : List (Int × Int)) (K : Nat) : List (Int × Int) := sortR (scaI zs K (zs.length * (K * K)))
theorem scaL_T (zs : List (Int × Int)) (K : Nat) : sortR (scaT zs K (zs.length * (K * K))) = scaL zs K := by
  obtain ⟨h1, h2, _⟩ := sortR_spec (scaT zs K (zs.length * (K * K)))
  exact sortR_eq h1 fun q => by rw [h2, scaT_mem, scaI_mem]

end Go.Proofs.Ythafdlfhkcbjhaa
