/- Contracts of the functions on points: a point is a pair of integers. -/
import Derived.Test.YthoobnepcbbdeaaDoorNum
import Derived.StillTailTactics
namespace Go.Proofs.YthoobnepcbbdeaaDoor
open Go.RowKit

/-- a point as a value -/
abbrev ptV (x y : Int) : Value := .agg #[.int .i64 x, .int .i64 y]

set_option maxHeartbeats 400000 in
theorem c_toPoint (x y : Int) (w : World) : Calls Tryd.prog 11 #[.agg #[.int .i64 x, .int .i64 y]] w fun e w' => e = .returned (.agg #[.int .i64 x, .int .i64 y]) ∧ New w w' := by
  go_enter Tryd.func11, Tryd.ntmps11
  go_wp2
  exact bodyPost_ret (v := .agg #[.int .i64 x, .int .i64 y]) (by simp [results, Tryd.results11, go_sem]) rfl ⟨rfl, by go_grown⟩

/-- within the limits of a point -/
def vpB (x y : Int) : Bool := inB x (-60) 60 && inB y (-60) 60
theorem vpB_iff {x y : Int} : vpB x y = true ↔ (-60 ≤ x ∧ x ≤ 60) ∧ -60 ≤ y ∧ y ≤ 60 := by simp [vpB, inB_iff]

set_option maxHeartbeats 400000 in
theorem c_l01Point (x y : Int) (w : World) : Calls Tryd.prog 22 #[.agg #[.int .i64 x, .int .i64 y]] w fun e w' => e = .returned (.bool (vpB x y)) ∧ New w w' := by
  unfold vpB
  cases hx : inB x (-60) 60
  all_goals
    go_enter Tryd.func22, Tryd.ntmps22
    go_wp2_with (go_at_call 27; refine (c_l00In _ _ _ _).mono ?_; rintro e w' ⟨rfl, rfl⟩)
    go_ret
    exact ⟨ret_bool (by simp), by go_grown⟩

set_option maxHeartbeats 400000 in
theorem c_implValidPoint (x y : Int) (w : World) : Calls Tryd.prog 23 #[.agg #[.int .i64 x, .int .i64 y]] w fun e w' => e = .returned (.bool (vpB x y)) ∧ New w w' := by
  unfold vpB
  cases hx : inB x (-60) 60
  all_goals
    go_enter Tryd.func23, Tryd.ntmps23
    go_wp2_with (go_at_call 29; refine (c_within _ _ _ _).mono ?_; rintro e w' ⟨rfl, rfl⟩)
    go_ret
    exact ⟨ret_bool (by simp), by go_grown⟩


theorem region_still_tail {P : Program} {id : Nat} {Q : Exit → Act → World → Prop} {a : Act} {w : World} {l : List Oper} (n : Nat) (hm : P.follows .mixedOrders = true) (hB : Region.lexTailB .any l.toArray n = true)
    (h : wpStill P l.toArray w.drew (fun a' => wpList P l.toArray Q (l.drop n) a' w.drew) (l.take n) a) : (Code.region id l.toArray true).wp P Q a w := wp_region_still_tail n hm hB h

theorem still_of {P : Program} {f : FuncId} {args : Array Value} {w : World} {v : Value} (h : Calls P f args w fun e w' => e = .returned v ∧ w = w') : Calls P f args w fun e w' => e = .returned v ∧ w' = w :=
  h.mono fun _ _ ⟨h1, h2⟩ => ⟨h1, h2.symm⟩

/-- the sign of a comparison -/
def cmpI (x y : Int) : Int := if x < y then -1 else if y < x then 1 else 0
theorem cmpI_lt {x y : Int} (h : x < y) : cmpI x y = -1 := by simp [cmpI, h]
theorem cmpI_gt {x y : Int} (h : y < x) : cmpI x y = 1 := by unfold cmpI; rw [if_neg (by omega), if_pos h]
theorem cmpI_eq {x y : Int} (h : x = y) : cmpI x y = 0 := by unfold cmpI; rw [if_neg (by omega), if_neg (by omega)]

/-- the order of points: by y, then by x -/
def orI (c d : Int) : Int := if c = 0 then d else c
def cmpP (ax ay bx b_y : Int) : Int := orI (cmpI ay b_y) (cmpI ax bx)



/-- the order of points, as a test -/
def ltP (ax ay bx b_y : Int) : Bool := decide (ay < b_y ∨ ay = b_y ∧ ax < bx)
theorem cmpP_neg {ax ay bx b_y : Int} : decide (cmpP ax ay bx b_y < 0) = ltP ax ay bx b_y := by
  unfold cmpP ltP orI
  rcases (show ay < b_y ∨ b_y < ay ∨ ay = b_y from by omega) with h | h | h
  · rw [cmpI_lt h]; simp; omega
  · rw [cmpI_gt h]; simp; omega
  · rw [cmpI_eq h]
    rcases (show ax < bx ∨ bx < ax ∨ ax = bx from by omega) with k | k | k
    · rw [cmpI_lt k]; simp; omega
    · rw [cmpI_gt k]; simp; omega
    · rw [cmpI_eq k]; simp; omega
theorem ltP_iff {ax ay bx b_y : Int} : ltP ax ay bx b_y = true ↔ ay < b_y ∨ ay = b_y ∧ ax < bx := by simp [ltP]


end Go.Proofs.YthoobnepcbbdeaaDoor
