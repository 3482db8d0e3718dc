/- Contracts of the functions on counters: powers, their limits, the numbers that are counted. -/
import Derived.Test.YthafdlfhkcbjhaaInts
namespace Go.Proofs.Ythafdlfhkcbjhaa
open Go.RowKit

/-- b to the k -/
def pw (b : Int) : Nat → Int
  | 0 => 1
  | k + 1 => pw b k * b
theorem pw_bd {b : Int} (h1 : 2 ≤ b) (h2 : b ≤ 6) {k : Nat} (hk : k ≤ 8) : 1 ≤ pw b k ∧ pw b k ≤ 1679616 := by
  have key : ∀ b ∈ [(2 : Int), 3, 4, 5, 6], ∀ k ∈ List.range 9, 1 ≤ pw b k ∧ pw b k ≤ 1679616 := by decide
  exact key b (by simp; omega) k (by simp; omega)

set_option maxHeartbeats 400000 in
theorem c_power (b n : Int) (w : World) (h1 : 2 ≤ b) (h2 : b ≤ 6) (h3 : 0 ≤ n) (h4 : n ≤ 8) :
    Calls Try.prog 66 #[.int .i64 b, .int .i64 n] w fun e w' => e = .returned (.int .i64 (pw b n.toNat)) ∧ w = w' := by
  obtain ⟨m, rfl⟩ := Int.eq_ofNat_of_zero_le h3
  simp only [Int.toNat_natCast]
  go_enter Try.func66, Try.ntmps66
  go_wp2
  go_loop [5, 7] (fun o i => ∃ k : Nat, k ≤ m ∧ i = .int .i64 k ∧ o = .int .i64 (pw b k)) (fun _ i => m - (intOf i).toNat)
  case atStart => exact ⟨0, Nat.zero_le _, rfl, rfl⟩
  case round =>
    obtain ⟨k, hk, rfl, rfl⟩ := hrel
    by_cases hlt : k < m
    · have hr : pw b k * b = pw b (k + 1) := rfl
      obtain ⟨p1, p2⟩ := pw_bd h1 h2 (show k + 1 ≤ 8 by omega)
      go_wp2
      go_round
      case rel => exact ⟨k + 1, by omega, by go_num, rfl⟩
      case measure => simp [intOf]; omega
    · have hk' : k = m := by omega
      subst hk'
      go_wp2
      go_ret
      exact ⟨rfl, rfl⟩

set_option maxHeartbeats 400000 in
theorem c_l15Power (b n : Int) (w : World) (h1 : 2 ≤ b) (h2 : b ≤ 6) (h3 : 0 ≤ n) (h4 : n ≤ 8) :
    Calls Try.prog 64 #[.int .i64 b, .int .i64 n] w fun e w' => e = .returned (.int .i64 (pw b n.toNat)) ∧ w = w' := by
  obtain ⟨m, rfl⟩ := Int.eq_ofNat_of_zero_le h3
  simp only [Int.toNat_natCast]
  go_enter Try.func64, Try.ntmps64
  go_wp2
  go_loop [5, 6] (fun o i => ∃ k : Nat, k ≤ m ∧ i = .int .i64 ((m : Int) - (k : Int)) ∧ o = .int .i64 (pw b k)) (fun _ i => (intOf i).toNat)
  case atStart => exact ⟨0, Nat.zero_le _, by simp, rfl⟩
  case round =>
    obtain ⟨k, hk, rfl, rfl⟩ := hrel
    by_cases hlt : k < m
    · have hr : pw b k * b = pw b (k + 1) := rfl
      obtain ⟨p1, p2⟩ := pw_bd h1 h2 (show k + 1 ≤ 8 by omega)
      go_wp2
      go_round
      case rel => exact ⟨k + 1, by omega, by go_num, rfl⟩
      case measure => simp [intOf]; omega
    · have hk' : k = m := by omega
      subst hk'
      go_wp2
      go_ret
      exact ⟨rfl, rfl⟩

/-- the limits of a counter's base and digits, and of a number with so many digits -/
def dgB (b d : Int) : Bool := inB b 2 6 && inB d 1 8
def cntB (b d s : Int) : Bool := dgB b d && inB s 0 (pw b d.toNat - 1)

set_option maxHeartbeats 400000 in
theorem c_digitsOk (b d : Int) (w : World) : Calls Try.prog 65 #[.int .i64 b, .int .i64 d] w fun e w' => e = .returned (.bool (dgB b d)) ∧ w = w' := by
  unfold dgB
  cases hb : inB b 2 6
  all_goals
    go_enter Try.func65, Try.ntmps65
    go_wp2_with (go_at_call 58; refine (c_within _ _ _ _).mono ?_; rintro e w' ⟨rfl, rfl⟩)
    go_ret
    exact ⟨ret_bool (by simp), rfl⟩

set_option maxHeartbeats 400000 in
theorem c_countOk (b d s : Int) (w : World) : Calls Try.prog 31 #[.int .i64 b, .int .i64 d, .int .i64 s] w fun e w' => e = .returned (.bool (cntB b d s)) ∧ w = w' := by
  unfold cntB
  cases hb : dgB b d
  · go_enter Try.func31, Try.ntmps31
    go_wp2_with (go_at_call 65; refine (c_digitsOk _ _ _).mono ?_; rintro e w' ⟨rfl, rfl⟩)
    go_ret
    exact ⟨ret_bool (by simp), rfl⟩
  · have hd := hb
    simp only [dgB, Bool.and_eq_true, inB_iff] at hd
    obtain ⟨⟨h1, h2⟩, h3, h4⟩ := hd
    obtain ⟨p1, p2⟩ := pw_bd h1 h2 (show d.toNat ≤ 8 by omega)
    go_enter Try.func31, Try.ntmps31
    go_wp2_with (first | (go_at_call 65; refine (c_digitsOk _ _ _).mono ?_; rintro e w' ⟨rfl, rfl⟩) | (go_at_call 66; refine (c_power _ _ _ h1 h2 (by omega) h4).mono ?_; rintro e w' ⟨rfl, rfl⟩) | (go_at_call 58; refine (c_within _ _ _ _).mono ?_; rintro e w' ⟨rfl, rfl⟩))
    go_ret
    exact ⟨ret_bool (by simp), rfl⟩

set_option maxHeartbeats 400000 in
theorem c_l15Counter (b d s : Int) (w : World) : Calls Try.prog 29 #[.int .i64 b, .int .i64 d, .int .i64 s] w fun e w' => e = .returned (.bool (cntB b d s)) ∧ w = w' := by
  unfold cntB dgB
  cases hb : inB b 2 6
  · go_enter Try.func29, Try.ntmps29
    go_wp2_with (go_at_call 51; refine (c_l00In _ _ _ _).mono ?_; rintro e w' ⟨rfl, rfl⟩)
    go_ret
    exact ⟨ret_bool (by simp), rfl⟩
  · cases hc : inB d 1 8
    · go_enter Try.func29, Try.ntmps29
      go_wp2_with (go_at_call 51; refine (c_l00In _ _ _ _).mono ?_; rintro e w' ⟨rfl, rfl⟩)
      go_ret
      exact ⟨ret_bool (by simp), rfl⟩
    · obtain ⟨h1, h2⟩ := inB_iff.1 hb
      obtain ⟨h3, h4⟩ := inB_iff.1 hc
      obtain ⟨p1, p2⟩ := pw_bd h1 h2 (show d.toNat ≤ 8 by omega)
      go_enter Try.func29, Try.ntmps29
      go_wp2_with (first | (go_at_call 64; refine (c_l15Power _ _ _ h1 h2 (by omega) h4).mono ?_; rintro e w' ⟨rfl, rfl⟩) | (go_at_call 51; refine (c_l00In _ _ _ _).mono ?_; rintro e w' ⟨rfl, rfl⟩))
      go_ret
      exact ⟨ret_bool (by simp), rfl⟩


end Go.Proofs.Ythafdlfhkcbjhaa
