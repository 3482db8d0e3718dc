/- Contracts of the functions on counters: powers, their limits, the numbers that are counted. -/
import Derived.Test.YtcgnbmobemhkiaaInts
namespace Go.Proofs.Ytcgnbmobemhkiaa
open Go.RowKit

/-- b to the k -/
def pw (b : Int) : Nat → Int
  | 0 => 1
  | k + 1 => pw b k * b
theorem pw_bd {b : Int} (h1 : 2 ≤ b) (h2 : b ≤ 6) {k : Nat} (hk : k ≤ 8) : 1 ≤ pw b k ∧ pw b k ≤ 1679616 := by
  have key : ∀ b ∈ [(2 : Int), 3, 4, 5, 6], ∀ k ∈ List.range 9, 1 ≤ pw b k ∧ pw b k ≤ 1679616 := by decide
  exact key b (by simp; omega) k (by simp; omega)

set_option maxHeartbeats 400000 in
theorem c_power (b n : Int) (w : World) (h1 : 2 ≤ b) (h2 : b ≤ 6) (h3 : 0 ≤ n) (h4 : n ≤ 8) :
    Calls Try.prog 56 #[.int .i64 b, .int .i64 n] w fun e w' => e = .returned (.int .i64 (pw b n.toNat)) ∧ w = w' := by
  obtain ⟨m, rfl⟩ := Int.eq_ofNat_of_zero_le h3
  simp only [Int.toNat_natCast]
  go_enter Try.func56, Try.ntmps56
  go_wp2
  go_loop [5, 7] (fun o i => ∃ k : Nat, k ≤ m ∧ i = .int .i64 k ∧ o = .int .i64 (pw b k)) (fun _ i => m - (intOf i).toNat)
  case atStart => exact ⟨0, Nat.zero_le _, rfl, rfl⟩
  case round =>
    obtain ⟨k, hk, rfl, rfl⟩ := hrel
    by_cases hlt : k < m
    · have hr : pw b k * b = pw b (k + 1) := rfl
      obtain ⟨p1, p2⟩ := pw_bd h1 h2 (show k + 1 ≤ 8 by omega)
      go_wp2
      go_round
      case rel => exact ⟨k + 1, by omega, by go_num, rfl⟩
      case measure => simp [intOf]; omega
    · have hk' : k = m := by omega
      subst hk'
      go_wp2
      go_ret
      exact ⟨rfl, rfl⟩

set_option maxHeartbeats 400000 in
theorem c_l15Power (b n : Int) (w : World) (h1 : 2 ≤ b) (h2 : b ≤ 6) (h3 : 0 ≤ n) (h4 : n ≤ 8) :
    Calls Try.prog 60 #[.int .i64 b, .int .i64 n] w fun e w' => e = .returned (.int .i64 (pw b n.toNat)) ∧ w = w' := by
  obtain ⟨m, rfl⟩ := Int.eq_ofNat_of_zero_le h3
  simp only [Int.toNat_natCast]
  go_enter Try.func60, Try.ntmps60
  go_wp2
  go_loop [5, 6] (fun o i => ∃ k : Nat, k ≤ m ∧ i = .int .i64 ((m : Int) - (k : Int)) ∧ o = .int .i64 (pw b k)) (fun _ i => (intOf i).toNat)
  case atStart => exact ⟨0, Nat.zero_le _, by simp, rfl⟩
  case round =>
    obtain ⟨k, hk, rfl, rfl⟩ := hrel
    by_cases hlt : k < m
    · have hr : pw b k * b = pw b (k + 1) := rfl
      obtain ⟨p1, p2⟩ := pw_bd h1 h2 (show k + 1 ≤ 8 by omega)
      go_wp2
      go_round
      case rel => exact ⟨k + 1, by omega, by go_num, rfl⟩
      case measure => simp [intOf]; omega
    · have hk' : k = m := by omega
      subst hk'
      go_wp2
      go_ret
      exact ⟨rfl, rfl⟩

/-- the limits of a counter's base and digits, and of a number with so many digits -/
def dgB (b d : Int) : Bool := inB b 2 6 && inB d 1 8
def cntB (b d s : Int) : Bool := dgB b d && inB s 0 (pw b d.toNat - 1)

set_option maxHeartbeats 400000 in
theorem c_digitsOk (b d : Int) (w : World) : Calls Try.prog 61 #[.int .i64 b, .int .i64 d] w fun e w' => e = .returned (.bool (dgB b d)) ∧ w = w' := by
  unfold dgB
  cases hb : inB b 2 6
  all_goals
    go_enter Try.func61, Try.ntmps61
    go_wp2_with (go_at_call 43; refine (c_within _ _ _ _).mono ?_; rintro e w' ⟨rfl, rfl⟩)
    go_ret
    exact ⟨ret_bool (by simp), rfl⟩

set_option maxHeartbeats 400000 in
theorem c_countOk (b d s : Int) (w : World) : Calls Try.prog 55 #[.int .i64 b, .int .i64 d, .int .i64 s] w fun e w' => e = .returned (.bool (cntB b d s)) ∧ w = w' := by
  unfold cntB
  cases hb : dgB b d
  · go_enter Try.func55, Try.ntmps55
    go_wp2_with (go_at_call 61; refine (c_digitsOk _ _ _).mono ?_; rintro e w' ⟨rfl, rfl⟩)
    go_ret
    exact ⟨ret_bool (by simp), rfl⟩
  · have hd := hb
    simp only [dgB, Bool.and_eq_true, inB_iff] at hd
    obtain ⟨⟨h1, h2⟩, h3, h4⟩ := hd
    obtain ⟨p1, p2⟩ := pw_bd h1 h2 (show d.toNat ≤ 8 by omega)
    go_enter Try.func55, Try.ntmps55
    go_wp2_with (first | (go_at_call 61; refine (c_digitsOk _ _ _).mono ?_; rintro e w' ⟨rfl, rfl⟩) | (go_at_call 56; refine (c_power _ _ _ h1 h2 (by omega) h4).mono ?_; rintro e w' ⟨rfl, rfl⟩) | (go_at_call 43; refine (c_within _ _ _ _).mono ?_; rintro e w' ⟨rfl, rfl⟩))
    go_ret
    exact ⟨ret_bool (by simp), rfl⟩

set_option maxHeartbeats 400000 in
theorem c_l15Counter (b d s : Int) (w : World) : Calls Try.prog 53 #[.int .i64 b, .int .i64 d, .int .i64 s] w fun e w' => e = .returned (.bool (cntB b d s)) ∧ w = w' := by
  unfold cntB dgB
  cases hb : inB b 2 6
  · go_enter Try.func53, Try.ntmps53
    go_wp2_with (go_at_call 42; refine (c_l00In _ _ _ _).mono ?_; rintro e w' ⟨rfl, rfl⟩)
    go_ret
    exact ⟨ret_bool (by simp), rfl⟩
  · cases hc : inB d 1 8
    · go_enter Try.func53, Try.ntmps53
      go_wp2_with (go_at_call 42; refine (c_l00In _ _ _ _).mono ?_; rintro e w' ⟨rfl, rfl⟩)
      go_ret
      exact ⟨ret_bool (by simp), rfl⟩
    · obtain ⟨h1, h2⟩ := inB_iff.1 hb
      obtain ⟨h3, h4⟩ := inB_iff.1 hc
      obtain ⟨p1, p2⟩ := pw_bd h1 h2 (show d.toNat ≤ 8 by omega)
      go_enter Try.func53, Try.ntmps53
      go_wp2_with (first | (go_at_call 60; refine (c_l15Power _ _ _ h1 h2 (by omega) h4).mono ?_; rintro e w' ⟨rfl, rfl⟩) | (go_at_call 42; refine (c_l00In _ _ _ _).mono ?_; rintro e w' ⟨rfl, rfl⟩))
      go_ret
      exact ⟨ret_bool (by simp), rfl⟩

/-- the numbers that are counted -/
def cfX (b d s : Int) (k : Nat) : List Int := (List.range k).map fun (i : Nat) => (s + (i : Int)) % pw b d.toNat
theorem cfX_len (b d s : Int) (k : Nat) : (cfX b d s k).length = k := by simp [cfX]
theorem cfX_succ (b d s : Int) (k : Nat) : cfX b d s (k + 1) = cfX b d s k ++ [(s + (k : Int)) % pw b d.toNat] := by simp [cfX, List.range_succ]
theorem cf_step {w' : World} {base : Nat} {e : TypeId} {v : Value} {b d s : Int} {k : Nat} (h : w'.ownsRow base e 1 v (k + 1) ((cfX b d s k).map (Value.int .i64) ++ [.int .i64 ((s + (k : Int)) % pw b d.toNat)])) :
    w'.ownsRow base e 1 v (k + 1) ((cfX b d s (k + 1)).map (Value.int .i64)) := by
  rw [cfX_succ, List.map_append]
  exact h
def cfOk (b d s r : Int) : Bool := cntB b d s && inB r 0 60
def cfCode (b d s r : Int) : Int := if cfOk b d s r then 0 else 2
def cfList (b d s r : Int) : List Int := if cfOk b d s r then cfX b d s (r + 1).toNat else []

theorem cfList_len (b d s r : Int) : (cfList b d s r).length ≤ 1048576 := by
  unfold cfList
  split
  · rename_i h
    simp only [cfOk, Bool.and_eq_true, inB_iff] at h
    rw [cfX_len]; omega
  · simp

set_option maxHeartbeats 1000000 in
theorem c_specCountFrom (b d s r : Int) (w : World) : Calls Try.prog 36 #[.int .i64 b, .int .i64 d, .int .i64 s, .int .i64 r] w (GivesRowCode w 2 1 (cfList b d s r).length ((cfList b d s r).map (Value.int .i64)) (cfCode b d s r)) := by
  cases hc : cntB b d s
  · have e : cfOk b d s r = false := by simp [cfOk, hc]
    have E1 := Lib.hid (show cfList b d s r = [] by simp [cfList, e])
    have E2 := Lib.hid (show cfCode b d s r = 2 by simp [cfCode, e])
    clear e
    go_enter Try.func36, Try.ntmps36
    go_wp2_with (first | (go_at_call 53; refine (c_l15Counter _ _ _ _).mono ?_; rintro e w' ⟨rfl, rfl⟩) | (go_at_call 42; refine (c_l00In _ _ _ _).mono ?_; rintro e w' ⟨rfl, rfl⟩))
    go_ret2
    rw [E1.out, E2.out]
    exact ⟨_, rfl, ⟨World.ownsRow_nil _ _ _ _, Nat.le_refl _, fun g hg => by cases hg⟩, New.same _⟩
  · cases hr : inB r 0 60
    · have e : cfOk b d s r = false := by simp [cfOk, hr]
      have E1 := Lib.hid (show cfList b d s r = [] by simp [cfList, e])
      have E2 := Lib.hid (show cfCode b d s r = 2 by simp [cfCode, e])
      clear e
      go_enter Try.func36, Try.ntmps36
      go_wp2_with (first | (go_at_call 53; refine (c_l15Counter _ _ _ _).mono ?_; rintro e w' ⟨rfl, rfl⟩) | (go_at_call 42; refine (c_l00In _ _ _ _).mono ?_; rintro e w' ⟨rfl, rfl⟩))
      go_ret2
      rw [E1.out, E2.out]
      exact ⟨_, rfl, ⟨World.ownsRow_nil _ _ _ _, Nat.le_refl _, fun g hg => by cases hg⟩, New.same _⟩
    · have e : cfOk b d s r = true := by simp [cfOk, hc, hr]
      have E1 := Lib.hid (show cfList b d s r = cfX b d s (r + 1).toNat by simp [cfList, e])
      have E2 := Lib.hid (show cfCode b d s r = 0 by simp [cfCode, e])
      clear e
      have hd := hc
      simp only [cntB, dgB, Bool.and_eq_true, inB_iff] at hd
      obtain ⟨⟨⟨h1, h2⟩, h3, h4⟩, h5, h6⟩ := hd
      obtain ⟨h7, h8⟩ := inB_iff.1 hr
      obtain ⟨p1, p2⟩ := pw_bd h1 h2 (show d.toNat ≤ 8 by omega)
      obtain ⟨m, rfl⟩ := Int.eq_ofNat_of_zero_le h7
      go_enter Try.func36, Try.ntmps36
      go_wp2_with (first | (go_at_call 53; refine (c_l15Counter _ _ _ _).mono ?_; rintro e w' ⟨rfl, rfl⟩) | (go_at_call 42; refine (c_l00In _ _ _ _).mono ?_; rintro e w' ⟨rfl, rfl⟩))
      go_loopw [10, 11] (fun v i wr => ∃ k : Nat, k ≤ m + 1 ∧ i = .int .i64 k ∧ wr.ownsRow w.heap.size 2 1 v k ((cfX b d s k).map (Value.int .i64)) ∧ New w wr) (fun _ i _ => m + 1 - (intOf i).toNat)
      case atStart => exact ⟨0, by omega, rfl, World.ownsRow_made w #[] 0 (Nat.le_refl _) (by omega) rfl, (New.same w).box _⟩
      case round =>
        obtain ⟨k, hk, rfl, hown, hN⟩ := hrel
        have hz := hN.size
        by_cases hlt : k ≤ m
        · go_wp2_with (first | (go_at_call 60; refine (c_l15Power _ _ _ h1 h2 (by omega) h4).mono ?_; rintro e w' ⟨rfl, rfl⟩) | (at_builtin; refine wpList_app1 rfl _ _ rfl row_int64 _ w.heap.size hown rfl [.int .i64 ((s + (k : Int)) % pw b d.toNat)] rfl rfl (by simp [Value.oneCell']) (by unfold maxLen; omega) (by omega) hz ?_; intro v1 w1 hown1 hb1 _ _))
          go_roundw
          case rel => exact ⟨k + 1, by omega, by go_num, cf_step hown1, hN.trans hb1⟩
          case measure => simp [intOf]; omega
        · have hk' : k = m + 1 := by omega
          subst hk'
          go_wp2
          go_ret2
          rw [E1.out, E2.out, cfX_len, show ((m : Int) + 1).toNat = m + 1 by omega]
          exact ⟨_, rfl, Own.of hown, hN⟩

set_option maxHeartbeats 1000000 in
theorem c_implCountFrom (b d s r : Int) (w : World) : Calls Try.prog 37 #[.int .i64 b, .int .i64 d, .int .i64 s, .int .i64 r] w (GivesRowCode w 2 1 (cfList b d s r).length ((cfList b d s r).map (Value.int .i64)) (cfCode b d s r)) := by
  cases hc : cntB b d s
  · have e : cfOk b d s r = false := by simp [cfOk, hc]
    have E1 := Lib.hid (show cfList b d s r = [] by simp [cfList, e])
    have E2 := Lib.hid (show cfCode b d s r = 2 by simp [cfCode, e])
    clear e
    go_enter Try.func37, Try.ntmps37
    go_wp2_with (first | (go_at_call 55; refine (c_countOk _ _ _ _).mono ?_; rintro e w' ⟨rfl, rfl⟩) | (go_at_call 43; refine (c_within _ _ _ _).mono ?_; rintro e w' ⟨rfl, rfl⟩))
    go_ret2
    rw [E1.out, E2.out]
    exact ⟨_, rfl, ⟨World.ownsRow_nil _ _ _ _, Nat.le_refl _, fun g hg => by cases hg⟩, New.same _⟩
  · cases hr : inB r 0 60
    · have e : cfOk b d s r = false := by simp [cfOk, hr]
      have E1 := Lib.hid (show cfList b d s r = [] by simp [cfList, e])
      have E2 := Lib.hid (show cfCode b d s r = 2 by simp [cfCode, e])
      clear e
      go_enter Try.func37, Try.ntmps37
      go_wp2_with (first | (go_at_call 55; refine (c_countOk _ _ _ _).mono ?_; rintro e w' ⟨rfl, rfl⟩) | (go_at_call 43; refine (c_within _ _ _ _).mono ?_; rintro e w' ⟨rfl, rfl⟩))
      go_ret2
      rw [E1.out, E2.out]
      exact ⟨_, rfl, ⟨World.ownsRow_nil _ _ _ _, Nat.le_refl _, fun g hg => by cases hg⟩, New.same _⟩
    · have e : cfOk b d s r = true := by simp [cfOk, hc, hr]
      have E1 := Lib.hid (show cfList b d s r = cfX b d s (r + 1).toNat by simp [cfList, e])
      have E2 := Lib.hid (show cfCode b d s r = 0 by simp [cfCode, e])
      clear e
      have hd := hc
      simp only [cntB, dgB, Bool.and_eq_true, inB_iff] at hd
      obtain ⟨⟨⟨h1, h2⟩, h3, h4⟩, h5, h6⟩ := hd
      obtain ⟨h7, h8⟩ := inB_iff.1 hr
      obtain ⟨p1, p2⟩ := pw_bd h1 h2 (show d.toNat ≤ 8 by omega)
      obtain ⟨m, rfl⟩ := Int.eq_ofNat_of_zero_le h7
      go_enter Try.func37, Try.ntmps37
      go_wp2_with (first | (go_at_call 55; refine (c_countOk _ _ _ _).mono ?_; rintro e w' ⟨rfl, rfl⟩) | (go_at_call 43; refine (c_within _ _ _ _).mono ?_; rintro e w' ⟨rfl, rfl⟩))
      go_loopw [10, 24] (fun v i wr => ∃ k : Nat, k ≤ m + 1 ∧ i = .int .i64 k ∧ wr.ownsRow w.heap.size 2 1 v k ((cfX b d s k).map (Value.int .i64)) ∧ New w wr) (fun _ i _ => m + 1 - (intOf i).toNat)
      case atStart => exact ⟨0, by omega, rfl, World.ownsRow_nil _ _ _ _, New.same _⟩
      case round =>
        obtain ⟨k, hk, rfl, hown, hN⟩ := hrel
        have hz := hN.size
        by_cases hlt : k ≤ m
        · go_wp2_with (first | (go_at_call 56; refine (c_power _ _ _ h1 h2 (by omega) h4).mono ?_; rintro e w' ⟨rfl, rfl⟩) | (at_builtin; refine wpList_app1 rfl _ _ rfl row_int64 _ w.heap.size hown rfl [.int .i64 ((s + (k : Int)) % pw b d.toNat)] rfl rfl (by simp [Value.oneCell']) (by unfold maxLen; omega) (by omega) hz ?_; intro v1 w1 hown1 hb1 _ _))
          go_roundw
          case rel => exact ⟨k + 1, by omega, by go_num, cf_step hown1, hN.trans hb1⟩
          case measure => simp [intOf]; omega
        · have hk' : k = m + 1 := by omega
          subst hk'
          go_wp2
          go_ret2
          rw [E1.out, E2.out, cfX_len, show ((m : Int) + 1).toNat = m + 1 by omega]
          exact ⟨_, rfl, Own.of hown, hN⟩

end Go.Proofs.Ytcgnbmobemhkiaa
