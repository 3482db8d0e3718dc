/- Plain arithmetic of greatest common divisors and reduced fractions. No program. -/
import Derived.Below
namespace Go.Proofs.YthoobnepcbbdeaaDoor

/-- the greatest common divisor, as an integer -/
def gI (a b : Int) : Int := ((Int.gcd a b : Nat) : Int)
theorem gI_nonneg (a b : Int) : 0 ≤ gI a b := Int.natCast_nonneg _
theorem gI_pos {a b : Int} (h : b ≠ 0) : 1 ≤ gI a b := by
  have := Int.gcd_pos_of_ne_zero_right a h
  unfold gI; omega
theorem gI_step (a b : Int) : gI b (a.tmod b) = gI a b := by
  unfold gI
  rw [Int.gcd_eq_natAbs_gcd_natAbs, Int.gcd_eq_natAbs_gcd_natAbs, Int.natAbs_tmod, Nat.gcd_comm b.natAbs, ← Nat.gcd_rec b.natAbs a.natAbs, Nat.gcd_comm]
theorem gI_step' {a b : Int} (h : 0 ≤ a) : gI b (a % b) = gI a b := by
  rw [← Int.tmod_eq_emod_of_nonneg h, gI_step]
theorem gI_zero (a : Int) : gI a 0 = (a.natAbs : Int) := by simp [gI]
theorem gI_neg_left (a b : Int) : gI (-a) b = gI a b := by simp [gI]
theorem gI_neg_right (a b : Int) : gI a (-b) = gI a b := by simp [gI]
theorem gI_abs (a b : Int) : gI (a.natAbs : Int) b = gI a b := by
  rcases Int.natAbs_eq a with h | h
  · rw [← h]
  · have : (a.natAbs : Int) = -a := by omega
    rw [this, gI_neg_left]
theorem gI_dvd_left (a b : Int) : gI a b ∣ a := Int.gcd_dvd_left a b
theorem gI_dvd_right (a b : Int) : gI a b ∣ b := Int.gcd_dvd_right a b
theorem gI_le {a b M : Int} (h : b ≠ 0) (h1 : -M ≤ b) (h2 : b ≤ M) : gI a b ≤ M := by
  have := Int.gcd_le_natAbs_right a h
  unfold gI
  omega
theorem tmod_bd {a b : Int} (h : b ≠ 0) : (a.tmod b).natAbs < b.natAbs := by
  rw [Int.natAbs_tmod]
  exact Nat.mod_lt _ (by omega)
theorem tmod_in {a b M : Int} (h : b ≠ 0) (h1 : -M ≤ b) (h2 : b ≤ M) : -M ≤ a.tmod b ∧ a.tmod b ≤ M := by
  have := tmod_bd (a := a) h
  omega
theorem max_neg (a : Int) : max a (-a) = (a.natAbs : Int) := by omega

/-- the parts of the reduced fraction, its divisor positive -/
def redN (n d : Int) : Int := (if d < 0 then -n else n) / gI n d
def redD (n d : Int) : Int := (if d < 0 then -d else d) / gI n d
theorem redN_pos {n d : Int} (h : 0 < d) : n.tdiv (gI n d) = redN n d := by
  unfold redN
  rw [if_neg (by omega), Int.tdiv_eq_ediv_of_dvd (gI_dvd_left n d)]
theorem redD_pos {n d : Int} (h : 0 < d) : d.tdiv (gI n d) = redD n d := by
  unfold redD
  rw [if_neg (by omega), Int.tdiv_eq_ediv_of_dvd (gI_dvd_right n d)]
theorem redN_neg {n d : Int} (h : d < 0) : n.tdiv (-(gI n d)) = redN n d := by
  unfold redN
  rw [if_pos h, Int.tdiv_neg, ← Int.neg_tdiv, Int.tdiv_eq_ediv_of_dvd (Int.dvd_neg.2 (gI_dvd_left n d))]
theorem redD_neg {n d : Int} (h : d < 0) : d.tdiv (-(gI n d)) = redD n d := by
  unfold redD
  rw [if_pos h, Int.tdiv_neg, ← Int.neg_tdiv, Int.tdiv_eq_ediv_of_dvd (Int.dvd_neg.2 (gI_dvd_right n d))]
theorem redN_neg' {n d : Int} (h : d < 0) : (-n).tdiv (gI n d) = redN n d := by
  unfold redN
  rw [if_pos h, Int.tdiv_eq_ediv_of_dvd (Int.dvd_neg.2 (gI_dvd_left n d))]
theorem redD_neg' {n d : Int} (h : d < 0) : (-d).tdiv (gI n d) = redD n d := by
  unfold redD
  rw [if_pos h, Int.tdiv_eq_ediv_of_dvd (Int.dvd_neg.2 (gI_dvd_right n d))]
theorem ediv_bd {x g M : Int} (hg : 1 ≤ g) (h1 : -M ≤ x) (h2 : x ≤ M) (hM : 0 ≤ M) (hd : g ∣ x) : -M ≤ x / g ∧ x / g ≤ M := by
  obtain ⟨k, rfl⟩ := hd
  rw [Int.mul_ediv_cancel_left k (by omega)]
  constructor
  · rcases Int.lt_or_le k 0 with h | h
    · have : g * k ≤ 1 * k := Int.mul_le_mul_of_nonpos_right hg (by omega)
      omega
    · omega
  · rcases Int.lt_or_le k 0 with h | h
    · omega
    · have : 1 * k ≤ g * k := Int.mul_le_mul_of_nonneg_right hg (by omega)
      omega
theorem redN_bd {n d M : Int} (hd : d ≠ 0) (h1 : -M ≤ n) (h2 : n ≤ M) : -M ≤ redN n d ∧ redN n d ≤ M := by
  unfold redN
  split
  · exact ediv_bd (gI_pos hd) (by omega) (by omega) (by omega) (Int.dvd_neg.2 (gI_dvd_left n d))
  · exact ediv_bd (gI_pos hd) (by omega) (by omega) (by omega) (gI_dvd_left n d)
theorem redD_bd {n d M : Int} (hd : d ≠ 0) (h1 : -M ≤ d) (h2 : d ≤ M) : 1 ≤ redD n d ∧ redD n d ≤ M := by
  have hg := gI_pos (a := n) hd
  have key : ∀ x : Int, 0 < x → x ≤ M → gI n d ∣ x → 1 ≤ x / gI n d ∧ x / gI n d ≤ M := by
    intro x hx hM hdv
    have := ediv_bd hg (by omega : -M ≤ x) hM (by omega) hdv
    obtain ⟨k, rfl⟩ := hdv
    rw [Int.mul_ediv_cancel_left k (by omega)] at this ⊢
    refine ⟨?_, this.2⟩
    rcases Int.lt_or_le k 1 with h | h
    · have : gI n d * k ≤ gI n d * 0 := Int.mul_le_mul_of_nonneg_left (by omega) (by omega)
      omega
    · exact h
  unfold redD
  split
  · exact key _ (by omega) (by omega) (Int.dvd_neg.2 (gI_dvd_right n d))
  · exact key _ (by omega) (by omega) (gI_dvd_right n d)
/-- a reduced fraction has no common divisor -/
theorem red_coprime {n d : Int} (hd : d ≠ 0) : gI (redN n d) (redD n d) = 1 := by
  have hg := gI_pos (a := n) hd
  have key : ∀ x y : Int, gI n d ∣ x → gI n d ∣ y → gI x y = gI n d → gI (x / gI n d) (y / gI n d) = 1 := by
    intro x y hx hy he
    obtain ⟨k, rfl⟩ := hx
    obtain ⟨l, rfl⟩ := hy
    rw [Int.mul_ediv_cancel_left k (by omega), Int.mul_ediv_cancel_left l (by omega)]
    unfold gI at he ⊢
    rw [Int.gcd_mul_left] at he
    have h1 : ((((Int.gcd n d : Nat) : Int)).natAbs * Int.gcd k l : Nat) = Int.gcd n d := by exact_mod_cast he
    rw [Int.natAbs_natCast] at h1
    have h2 : 0 < Int.gcd n d := Int.gcd_pos_of_ne_zero_right n hd
    have : Int.gcd k l = 1 := Nat.eq_of_mul_eq_mul_left h2 (by rw [h1, Nat.mul_one])
    rw [this]; rfl
  unfold redN redD
  split
  · exact key _ _ (Int.dvd_neg.2 (gI_dvd_left n d)) (Int.dvd_neg.2 (gI_dvd_right n d)) (by rw [gI_neg_left, gI_neg_right])
  · exact key _ _ (gI_dvd_left n d) (gI_dvd_right n d) rfl
theorem mul_bd {x y A B : Int} (hA : 0 ≤ A) (hB : 0 ≤ B) (h1 : -A ≤ x) (h2 : x ≤ A) (h3 : -B ≤ y) (h4 : y ≤ B) : -(A * B) ≤ x * y ∧ x * y ≤ A * B := by
  have h : (x * y).natAbs ≤ A.natAbs * B.natAbs := by
    rw [Int.natAbs_mul]
    exact Nat.mul_le_mul (by omega) (by omega)
  have e : (A * B).natAbs = A.natAbs * B.natAbs := Int.natAbs_mul A B
  have p : 0 ≤ A * B := Int.mul_nonneg hA hB
  omega

end Go.Proofs.YthoobnepcbbdeaaDoor
