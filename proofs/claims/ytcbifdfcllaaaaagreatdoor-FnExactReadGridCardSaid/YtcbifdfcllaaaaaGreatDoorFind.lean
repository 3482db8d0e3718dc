/- The first place in a list at which a test holds; slices.IndexFunc and slices.ContainsFunc over integers, whatever the test. -/
import Derived.Test.YtcbifdfcllaaaaaGreatDoorNum
import Derived.Shelf.Abstract
namespace Go.Proofs.YtcbifdfcllaaaaaGreatDoor
open Go.RowKit

/-- the first place at which p holds, or -1 -/
def idxF {α : Type} (p : α → Bool) : List α → Int
  | [] => -1
  | x :: r => if p x then 0 else if idxF p r < 0 then -1 else idxF p r + 1
theorem idxF_bd {α : Type} (p : α → Bool) (zs : List α) : -1 ≤ idxF p zs ∧ idxF p zs < zs.length := by
  induction zs with
  | nil => simp [idxF]
  | cons x r ih =>
    simp only [idxF, List.length_cons]
    split
    · omega
    · split <;> omega
theorem idxF_hit {α : Type} (p : α → Bool) (zs : List α) (k : Nat) (hk : k < zs.length) (h : ∀ j (hj : j < zs.length), j < k → p zs[j] = false) (hp : p zs[k] = true) : idxF p zs = (k : Int) := by
  induction zs generalizing k with
  | nil => simp at hk
  | cons x r ih =>
    cases k with
    | zero =>
      simp only [idxF]
      rw [if_pos (by simpa using hp)]
      rfl
    | succ k =>
      have h0 : p x = false := h 0 (by simp) (by omega)
      have := ih k (by simpa using hk) (fun j hj hjk => h (j + 1) (by simp; omega) (by omega)) (by simpa using hp)
      simp only [idxF]
      rw [if_neg (by simp [h0]), this, if_neg (by omega)]
      omega
theorem idxF_miss {α : Type} (p : α → Bool) (zs : List α) (h : ∀ j (hj : j < zs.length), p zs[j] = false) : idxF p zs = -1 := by
  induction zs with
  | nil => rfl
  | cons x r ih =>
    have h0 : p x = false := h 0 (by simp)
    have := ih (fun j hj => h (j + 1) (by simp; omega))
    simp only [idxF]
    rw [if_neg (by simp [h0]), this]
    rfl
theorem idxF_nonneg {α : Type} (p : α → Bool) (zs : List α) : 0 ≤ idxF p zs ↔ zs.any p = true := by
  induction zs with
  | nil => simp [idxF]
  | cons x r ih =>
    have := (idxF_bd p r).1
    rw [List.any_cons, Bool.or_eq_true, ← ih]
    simp only [idxF]
    by_cases hp : p x = true
    · rw [if_pos hp]
      exact ⟨fun _ => .inl hp, fun _ => Int.le_refl _⟩
    · rw [if_neg hp]
      split
      · exact ⟨fun h => absurd h (by omega), fun h => by rcases h with h | h; exact absurd h hp; omega⟩
      · exact ⟨fun _ => .inr (by omega), fun _ => by omega⟩
theorem idxF_any {α : Type} (p : α → Bool) (zs : List α) : decide (0 ≤ idxF p zs) = zs.any p := by
  cases h : zs.any p
  · exact decide_eq_false (fun k => by rw [(idxF_nonneg p zs).1 k] at h; cases h)
  · exact decide_eq_true ((idxF_nonneg p zs).2 h)

theorem any_hit {α : Type} {p : α → Bool} {zs : List α} {k : Nat} (hk : k < zs.length) (h : p zs[k] = true) : zs.any p = true := List.any_eq_true.2 ⟨_, List.getElem_mem hk, h⟩
theorem any_miss {α : Type} {p : α → Bool} {zs : List α} (h : ∀ j (hj : j < zs.length), p zs[j] = false) : zs.any p = false := by
  rw [List.any_eq_false]
  intro x hx
  obtain ⟨j, hj, rfl⟩ := List.mem_iff_getElem.1 hx
  simp [h j hj]

/-- A call of function g enters it. -/
def EntersIt (P : Program) (g : FuncId) : Prop := ∀ args w, (callFunc g args).run P w = .ok (.enter g args) w

/-- In whatever world has come of w by growth alone the function value answers p of the element that lies in the cells f x. -/
def Tests {α : Type} (P : Program) (g : FuncId) (cb : Array Value) (f : α → Value) (p : α → Bool) (zs : List α) (w : World) : Prop :=
  ∀ (x : α) (W : World), x ∈ zs → New w W → Calls P g (#[f x] ++ cb) W fun e w' => e = .returned (.bool (p x)) ∧ New W w'

set_option maxHeartbeats 1000000 in
theorem c_indexFunc_int64 (g : FuncId) (cb : Array Value) (p : Int → Bool) (eg : EntersIt Tryz.prog g) (lo hi : Nat) (v : Value) (zs : List Int) (w : World) (h : Rd w lo hi 1 v zs.length (zs.map (Value.int .i64)))
    (ht : Tests Tryz.prog g cb (Value.int .i64) p zs w) : Calls Tryz.prog 85 #[v, .func (.func g) #[] cb] w fun e w' => e = .returned (.int .i64 (idxF p zs)) ∧ New w w' := by
  obtain ⟨_, hm, hh, A, c, rfl, hrd⟩ := h
  have EG := Lib.hid ht
  unfold EntersIt at eg
  clear ht
  go_enter Tryz.func85, Tryz.ntmps85
  go_wp2
  go_loopw [5, 8] (fun _ i wr => ∃ k : Nat, k ≤ zs.length ∧ i = .int .i64 k ∧ Hid (∀ j (hj : j < zs.length), j < k → p zs[j] = false) ∧ New w wr) (fun _ i _ => zs.length - (intOf i).toNat)
  case atStart => exact ⟨0, Nat.zero_le _, rfl, Lib.hid (fun j _ hj => absurd hj (Nat.not_lt_zero _)), New.same _⟩
  case round =>
    obtain ⟨k, hk, rfl, HJ, hN⟩ := hrel
    by_cases hlt : k < zs.length
    · obtain ⟨b, off, rfl, _, hb1, hc⟩ := hrd (by omega)
      have hx : wr.cell? ⟨b, off + k, none⟩ = some (.int .i64 zs[k]) := by
        rw [hN.cell (p := ⟨b, off + k, none⟩) (by simp; omega)]
        exact hc k _ (by simp [hlt])
      clear hc hrd
      have hcall := EG.out zs[k] wr (List.getElem_mem hlt) hN
      cases hp : p zs[k]
      · have HP := Lib.hid hp
        rw [hp] at hcall
        clear hp
        have HC := Lib.hid hcall
        clear hcall
        go_wp2_with (go_at_fn g; refine (HC.out).mono ?_; rintro e w1 ⟨rfl, n1⟩)
        go_roundw
        case rel =>
          refine ⟨k + 1, by omega, by go_num, Lib.hid (fun j hj hjk => ?_), hN.step n1⟩
          by_cases e : j = k
          · subst e; exact HP.out
          · exact HJ.out j hj (by omega)
        case measure => simp [intOf]; omega
      · have HP := Lib.hid hp
        rw [hp] at hcall
        clear hp
        have HC := Lib.hid hcall
        clear hcall
        go_wp2_with (go_at_fn g; refine (HC.out).mono ?_; rintro e w1 ⟨rfl, n1⟩)
        go_ret
        exact ⟨congrArg (fun q => Ending.returned (.int .i64 q)) (idxF_hit p zs k hlt HJ.out HP.out).symm, hN.step n1⟩
    · have hk' : k = zs.length := by omega
      subst hk'
      go_wp2
      go_ret
      exact ⟨congrArg (fun q => Ending.returned (.int .i64 q)) (idxF_miss p zs (fun j hj => HJ.out j hj hj)).symm, hN⟩

set_option maxHeartbeats 400000 in
theorem c_containsFunc_int64 (g : FuncId) (cb : Array Value) (p : Int → Bool) (eg : EntersIt Tryz.prog g) (lo hi : Nat) (v : Value) (zs : List Int) (w : World) (h : Rd w lo hi 1 v zs.length (zs.map (Value.int .i64)))
    (ht : Tests Tryz.prog g cb (Value.int .i64) p zs w) : Calls Tryz.prog 69 #[v, .func (.func g) #[] cb] w fun e w' => e = .returned (.bool (zs.any p)) ∧ New w w' := by
  rw [← idxF_any]
  have HT := Lib.hid ht
  have HR := Lib.hid h
  clear ht h
  go_enter Tryz.func69, Tryz.ntmps69
  go_wp2_with (go_at_call 85; refine (c_indexFunc_int64 g cb p eg lo hi v zs w HR.out HT.out).mono ?_; rintro e w1 ⟨rfl, n1⟩)
  go_ret
  exact ⟨rfl, n1⟩

end Go.Proofs.YtcbifdfcllaaaaaGreatDoor
