/- Plain lemmas on shapes read back from a scaled shape. No program. -/
import Derived.Test.YthafdlfhkcbjhaaScaleP
import Derived.Test.YthafdlfhkcbjhaaHome
namespace Go.Proofs.Ythafdlfhkcbjhaa

theorem shp_asc {zs : List (Int × Int)} (h : shpB zs = true) : Asc zs := by
  simp only [shpB, Bool.and_eq_true] at h
  have h1 := List.all_eq_true.1 h.1
  have key : ∀ i j (hi : i < zs.length) (hj : j < zs.length), i < j → ltQ zs[i] zs[j] = true := by
    intro i j hi hj hij
    induction j with
    | zero => omega
    | succ j ih =>
      have h2 := h1 (j + 1) (List.mem_range.2 hj)
      rw [okAt_suc hj (by omega : j < zs.length) rfl, Bool.and_eq_true] at h2
      by_cases e : i = j
      · subst e; exact h2.2
      · exact ltQ_trans (ih (by omega) (by omega)) h2.2
  exact List.pairwise_iff_getElem.2 fun i j hi hj hij => key i j hi hj hij
theorem asc_nd {zs : List (Int × Int)} (h : Asc zs) : zs.Nodup := by
  refine h.imp fun {p q} k e => ?_
  subst e
  rw [ltQ_irr] at k; cases k
theorem shp_nd {zs : List (Int × Int)} (h : shpB zs = true) : zs.Nodup := asc_nd (shp_asc h)
theorem shp_of {zs : List (Int × Int)} (h0 : 1 ≤ zs.length) (h1 : zs.length ≤ 500) (ha : Asc zs) (hb : ∀ z ∈ zs, (-60 ≤ z.1 ∧ z.1 ≤ 60) ∧ -60 ≤ z.2 ∧ z.2 ≤ 60) : shpB zs = true := by
  unfold shpB
  rw [Bool.and_eq_true]
  refine ⟨List.all_eq_true.2 fun k hk => ?_, inB_yes (by omega) (by omega)⟩
  have hk' := List.mem_range.1 hk
  unfold okAt
  rw [Bool.and_eq_true]
  have e : zs.getD k (0, 0) = zs[k] := by simp [List.getD_eq_getElem?_getD, hk']
  refine ⟨?_, ?_⟩
  · rw [e]; exact vpB_iff.2 (hb _ (List.getElem_mem hk'))
  · by_cases h : k = 0
    · simp [h]
    · have hj : k - 1 < zs.length := by omega
      have e2 : zs.getD (k - 1) (0, 0) = zs[k - 1] := by simp [List.getD_eq_getElem?_getD, hj]
      rw [e, e2, List.pairwise_iff_getElem.1 ha (k - 1) k hj hk' (by omega)]
      simp

/-- a point divided, rounded down -/
def fdP (k : Int) (p : Int × Int) : Int × Int := (p.1 / k, p.2 / k)
theorem fd_bd {a k : Int} (h1 : -60 ≤ a) (h2 : a ≤ 60) (k1 : 1 ≤ k) : -60 ≤ a / k ∧ a / k ≤ 60 := by
  constructor
  · refine (Int.le_ediv_iff_mul_le (by omega)).2 ?_
    have : 60 * 1 ≤ 60 * k := Int.mul_le_mul_of_nonneg_left k1 (by omega)
    omega
  · have h3 : a / k ≤ 60 / k := Int.ediv_le_ediv (by omega) h2
    have h4 : (60 : Int) / k ≤ 60 := Int.ediv_le_self _ (by omega)
    omega
def unT (zs : List (Int × Int)) (k : Int) (n : Nat) : List (Int × Int) := (zs.take n).map (fdP k)
/-- the shape read back -/
def unL (zs : List (Int × Int)) (k : Int) : List (Int × Int) := sortR (zs.map (fdP k))
theorem unT_all (zs : List (Int × Int)) (k : Int) : unT zs k zs.length = zs.map (fdP k) := by simp [unT]
theorem unT_len (zs : List (Int × Int)) (k : Int) {n : Nat} (h : n ≤ zs.length) : (unT zs k n).length = n := by simp [unT]; omega
theorem unT_succ {zs : List (Int × Int)} {k : Int} {n : Nat} (h : n < zs.length) : unT zs k (n + 1) = unT zs k n ++ [fdP k zs[n]] := by
  unfold unT
  rw [List.take_succ_eq_append_getElem h, List.map_append]
  rfl
theorem unS_succ {zs : List (Int × Int)} {k : Int} {n : Nat} (h : n < zs.length) : sortR (unT zs k (n + 1)) = putR (sortR (unT zs k n)) (fdP k zs[n]) := by rw [unT_succ h, sortR_snoc]
theorem unT_zero (zs : List (Int × Int)) (k : Int) : unT zs k 0 = [] := rfl
theorem unL_len (zs : List (Int × Int)) (k : Int) : (unL zs k).length ≤ zs.length := by
  have := (sortR_spec (zs.map (fdP k))).2.2
  simpa [unL] using this
theorem unS_len (zs : List (Int × Int)) (k : Int) (n : Nat) : (sortR (unT zs k n)).length ≤ zs.length := by
  have := (sortR_spec (unT zs k n)).2.2
  have h : (unT zs k n).length ≤ zs.length := by simp [unT]; omega
  omega
theorem unL_shp {zs : List (Int × Int)} {k : Int} (h : shpB zs = true) (k1 : 1 ≤ k) : shpB (unL zs k) = true := by
  obtain ⟨h1, h2⟩ := shpB_len h
  obtain ⟨s1, s2, s3⟩ := sortR_spec (zs.map (fdP k))
  have hl := unL_len zs k
  refine shp_of ?_ (by omega) s1 ?_
  · have hm : fdP k zs[0] ∈ unL zs k := (s2 _).2 (List.mem_map.2 ⟨_, List.getElem_mem _, rfl⟩)
    exact List.length_pos_of_mem hm
  · intro z hz
    obtain ⟨p, hp, rfl⟩ := List.mem_map.1 ((s2 z).1 hz)
    obtain ⟨⟨a1, a2⟩, a3, a4⟩ := vp_bd (shpB_vp h) p hp
    exact ⟨fd_bd a1 a2 k1, fd_bd a3 a4 k1⟩
theorem sortR_len {xs : List (Int × Int)} (h : xs.Nodup) : (sortR xs).length = xs.length := by
  obtain ⟨s1, s2, _⟩ := sortR_spec xs
  exact ((List.perm_ext_iff_of_nodup (asc_nd s1) h).2 s2).length_eq
theorem scaL_len {zs : List (Int × Int)} {K : Nat} (h : zs.Nodup) : (scaL zs K).length = zs.length * (K * K) := by
  unfold scaL
  rw [sortR_len (scaI_nd h), scaI_len]

/-- whether the shape is the scaled one of the shape read back -/
def unB (zs : List (Int × Int)) (k : Int) : Bool := decide (scaL (unL zs k) k.toNat = zs)
def unscaleRes (zs : List (Int × Int)) (k : Int) : List (Int × Int) := if shpB zs && inB k 1 60 && unB zs k then unL zs k else []
def unscaleCode (zs : List (Int × Int)) (k : Int) : Int := if shpB zs then (if inB k 1 60 then (if unB zs k then 0 else 3) else 2) else 1
theorem unscaleRes_len (zs : List (Int × Int)) (k : Int) : (unscaleRes zs k).length ≤ 500 := by
  unfold unscaleRes
  split
  · rename_i h
    simp only [Bool.and_eq_true] at h
    have := unL_len zs k
    have := (shpB_len h.1.1).2
    omega
  · simp

/-! floor division -/
theorem down_yes {a k : Int} (h0 : a < 0) (k1 : 1 ≤ k) (h : Int.tmod a k ≠ 0) : Int.tdiv a k - 1 = a / k := by
  rw [Int.tdiv_eq_ediv]
  have h1 : ¬ (0 ≤ a ∨ k ∣ a) := by
    rintro (h2 | h2)
    · omega
    · exact h (Int.tmod_eq_zero_of_dvd h2)
  rw [if_neg h1, Int.sign_eq_one_of_pos (by omega)]
  omega
theorem down_no {a k : Int} (h : Int.tmod a k = 0) : Int.tdiv a k = a / k := by
  have h1 : 0 ≤ a ∨ k ∣ a := .inr (Int.dvd_of_tmod_eq_zero h)
  rw [Int.tdiv_eq_ediv, if_pos h1]
  omega
theorem down_pos {a k : Int} (h : 0 ≤ a) : Int.tdiv a k = a / k := Int.tdiv_eq_ediv_of_nonneg h
theorem fdiv_neg {a k : Int} (k1 : 1 ≤ k) : -((-a + k - 1) / k) = a / k := by
  have hk : k ≠ 0 := by omega
  have e1 := Int.mul_ediv_add_emod a k
  have m1 := Int.emod_nonneg a hk
  have m2 := Int.emod_lt_of_pos a (show 0 < k by omega)
  have : (-a + k - 1) / k = -(a / k) := by
    have e : -a + k - 1 = (k - 1 - a % k) + k * (-(a / k)) := by
      rw [Int.mul_neg]; omega
    rw [e, Int.add_mul_ediv_left _ _ hk, Int.ediv_eq_zero_of_lt (by omega) (by omega)]
    omega
  omega
end Go.Proofs.Ythafdlfhkcbjhaa
