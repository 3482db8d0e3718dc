/- Contracts of the functions on points: a point is a pair of integers. -/
import Derived.Test.YtcbifdfcllaaaaaGreatDoorNum
import Derived.StillTailTactics
namespace Go.Proofs.YtcbifdfcllaaaaaGreatDoor
open Go.RowKit

/-- a point as a value -/
abbrev ptV (x y : Int) : Value := .agg #[.int .i64 x, .int .i64 y]


/-- within the limits of a point -/
def vpB (x y : Int) : Bool := inB x (-60) 60 && inB y (-60) 60
theorem vpB_iff {x y : Int} : vpB x y = true ↔ (-60 ≤ x ∧ x ≤ 60) ∧ -60 ≤ y ∧ y ≤ 60 := by simp [vpB, inB_iff]

set_option maxHeartbeats 400000 in
theorem c_l01Point (x y : Int) (w : World) : Calls Tryz.prog 42 #[.agg #[.int .i64 x, .int .i64 y]] w fun e w' => e = .returned (.bool (vpB x y)) ∧ New w w' := by
  unfold vpB
  cases hx : inB x (-60) 60
  all_goals
    go_enter Tryz.func42, Tryz.ntmps42
    go_wp2_with (go_at_call 36; refine (c_l00In _ _ _ _).mono ?_; rintro e w' ⟨rfl, rfl⟩)
    go_ret
    exact ⟨ret_bool (by simp), by go_grown⟩

set_option maxHeartbeats 400000 in
theorem c_implValidPoint (x y : Int) (w : World) : Calls Tryz.prog 52 #[.agg #[.int .i64 x, .int .i64 y]] w fun e w' => e = .returned (.bool (vpB x y)) ∧ New w w' := by
  unfold vpB
  cases hx : inB x (-60) 60
  all_goals
    go_enter Tryz.func52, Tryz.ntmps52
    go_wp2_with (go_at_call 67; refine (c_within _ _ _ _).mono ?_; rintro e w' ⟨rfl, rfl⟩)
    go_ret
    exact ⟨ret_bool (by simp), by go_grown⟩


theorem region_still_tail {P : Program} {id : Nat} {Q : Exit → Act → World → Prop} {a : Act} {w : World} {l : List Oper} (n : Nat) (hm : P.follows .mixedOrders = true) (hB : Region.lexTailB .any l.toArray n = true)
    (h : wpStill P l.toArray w.drew (fun a' => wpList P l.toArray Q (l.drop n) a' w.drew) (l.take n) a) : (Code.region id l.toArray true).wp P Q a w := wp_region_still_tail n hm hB h

theorem still_of {P : Program} {f : FuncId} {args : Array Value} {w : World} {v : Value} (h : Calls P f args w fun e w' => e = .returned v ∧ w = w') : Calls P f args w fun e w' => e = .returned v ∧ w' = w :=
  h.mono fun _ _ ⟨h1, h2⟩ => ⟨h1, h2.symm⟩

/-- the sign of a comparison -/
def cmpI (x y : Int) : Int := if x < y then -1 else if y < x then 1 else 0
theorem cmpI_lt {x y : Int} (h : x < y) : cmpI x y = -1 := by simp [cmpI, h]
theorem cmpI_gt {x y : Int} (h : y < x) : cmpI x y = 1 := by unfold cmpI; rw [if_neg (by omega), if_pos h]
theorem cmpI_eq {x y : Int} (h : x = y) : cmpI x y = 0 := by unfold cmpI; rw [if_neg (by omega), if_neg (by omega)]

/-- the order of points: by y, then by x -/
def orI (c d : Int) : Int := if c = 0 then d else c
def cmpP (ax ay bx b_y : Int) : Int := orI (cmpI ay b_y) (cmpI ax bx)

set_option maxHeartbeats 400000 in
theorem c_isNaN (x : Int) (w : World) : Calls Tryz.prog 101 #[.int .i64 x] w fun e w' => e = .returned (.bool false) ∧ w = w' := by
  go_enter Tryz.func101, Tryz.ntmps101
  go_wp2
  go_ret
  exact ⟨ret_bool (by simp), rfl⟩

set_option maxHeartbeats 400000 in
theorem c_cmp (x y : Int) (w : World) : Calls Tryz.prog 82 #[.int .i64 x, .int .i64 y] w fun e w' => e = .returned (.int .i64 (cmpI x y)) ∧ w = w' := by
  rcases (show x < y ∨ y < x ∨ x = y from by omega) with h | h | h
  · go_enter Tryz.func82, Tryz.ntmps82
    go_wp2_with (go_at_call 101; refine (c_isNaN _ _).mono ?_; rintro e w' ⟨rfl, rfl⟩)
    go_ret
    exact ⟨ret_int (cmpI_lt h).symm, rfl⟩
  · have h' : decide (x < y) = false := by simp; omega
    go_enter Tryz.func82, Tryz.ntmps82
    go_wp2_with (go_at_call 101; refine (c_isNaN _ _).mono ?_; rintro e w' ⟨rfl, rfl⟩)
    go_ret
    exact ⟨ret_int (cmpI_gt h).symm, rfl⟩
  · subst h
    have h' : decide (x < x) = false := by simp
    go_enter Tryz.func82, Tryz.ntmps82
    go_wp2_with (go_at_call 101; refine (c_isNaN _ _).mono ?_; rintro e w' ⟨rfl, rfl⟩)
    go_ret
    exact ⟨ret_int (cmpI_eq rfl).symm, rfl⟩

set_option maxHeartbeats 400000 in
theorem c_or (c d : Int) (g : Nat) (w : World) (h0 : w.cell? ⟨g, 0, none⟩ = some (.int .i64 c)) (h1 : w.cell? ⟨g, 1, none⟩ = some (.int .i64 d)) :
    Calls Tryz.prog 81 #[.slice (some ⟨g, 0, none⟩) 2 2] w fun e w' => e = .returned (.int .i64 (orI c d)) ∧ w = w' := by
  by_cases hc : c = 0
  · subst hc
    by_cases hd : d = 0
    · subst hd
      go_enter Tryz.func81, Tryz.ntmps81
      go_wp2
      go_rounds 3
      go_ret
      exact ⟨ret_int (by simp [orI]), rfl⟩
    · have hd' : (d == 0) = false := by simpa using hd
      have hd'' : (d != 0) = true := by simpa using hd
      go_enter Tryz.func81, Tryz.ntmps81
      go_wp2
      go_rounds 3
      go_ret
      exact ⟨ret_int (by simp [orI]), rfl⟩
  · have hc' : (c == 0) = false := by simpa using hc
    have hc'' : (c != 0) = true := by simpa using hc
    go_enter Tryz.func81, Tryz.ntmps81
    go_wp2
    go_rounds 3
    go_ret
    exact ⟨ret_int (by simp [orI, hc]), rfl⟩

set_option maxRecDepth 100000 in
set_option maxHeartbeats 1000000 in
theorem c_comparePoints (ax ay bx b_y : Int) (w : World) : Calls Tryz.prog 56 #[.agg #[.int .i64 ax, .int .i64 ay], .agg #[.int .i64 bx, .int .i64 b_y]] w fun e w' => e = .returned (.int .i64 (cmpP ax ay bx b_y)) ∧ New w w' := by
  go_enter Tryz.func56, Tryz.ntmps56
  go_wp2_with fail
  refine region_still_tail 10 (by kernel_rfl) (by kernel_rfl) ?_
  simp only [List.take_succ_cons, List.take_zero, List.drop_succ_cons, List.drop_zero]
  repeat still_step
  still_call (still_of (c_cmp _ _ _))
  repeat still_step
  still_call (still_of (c_cmp _ _ _))
  refine wpStill_nil ?_
  go_wp2_with fail
  refine (c_or (cmpI ay b_y) (cmpI ax bx) _ _ (by go_simp) (by go_simp)).mono ?_
  rintro e w' ⟨rfl, rfl⟩
  go_wp2
  go_ret
  exact ⟨rfl, by go_grown⟩

/-- the order of points, as a test -/
def ltP (ax ay bx b_y : Int) : Bool := decide (ay < b_y ∨ ay = b_y ∧ ax < bx)
theorem cmpP_neg {ax ay bx b_y : Int} : decide (cmpP ax ay bx b_y < 0) = ltP ax ay bx b_y := by
  unfold cmpP ltP orI
  rcases (show ay < b_y ∨ b_y < ay ∨ ay = b_y from by omega) with h | h | h
  · rw [cmpI_lt h]; simp; omega
  · rw [cmpI_gt h]; simp; omega
  · rw [cmpI_eq h]
    rcases (show ax < bx ∨ bx < ax ∨ ax = bx from by omega) with k | k | k
    · rw [cmpI_lt k]; simp; omega
    · rw [cmpI_gt k]; simp; omega
    · rw [cmpI_eq k]; simp; omega
theorem ltP_iff {ax ay bx b_y : Int} : ltP ax ay bx b_y = true ↔ ay < b_y ∨ ay = b_y ∧ ax < bx := by simp [ltP]


end Go.Proofs.YtcbifdfcllaaaaaGreatDoor
