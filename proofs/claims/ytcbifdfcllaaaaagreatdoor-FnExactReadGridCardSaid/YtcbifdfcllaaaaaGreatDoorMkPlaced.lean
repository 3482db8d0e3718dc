/- Contracts of the functions that mark the elements of a slice of Placed and look for the marks. -/
import Derived.Test.YtcbifdfcllaaaaaGreatDoorMarks
namespace Go.Proofs.YtcbifdfcllaaaaaGreatDoor
open Go.RowKit
set_option linter.unusedVariables false

theorem mark3_step {w : World} {base g n c : Nat} {e : TypeId} {m q : Int} {k : Nat} (h : Fill w base e 3 g n c ((marks m (k * 3)).map (Value.int .i64))) (hk : k < n) (hq : q = m + ((k * 3 : Nat) : Int)) :
    Fill (((w.setCell ⟨g, k * 3, none⟩ (.int .i64 (q))).setCell ⟨g, k * 3 + 1, none⟩ (.int .i64 (q + 1))).setCell ⟨g, k * 3 + 2, none⟩ (.int .i64 (q + 1 + 1))) base e 3 g n c ((marks m ((k + 1) * 3)).map (Value.int .i64)) := by
  subst hq
  have l0 : ((marks m (k * 3)).map (Value.int .i64)).length = k * 3 := by simp [marks_len]
  have h1 := h.put (by omega) (.int .i64 (m + ((k * 3 : Nat) : Int)))
  rw [l0, ← mark_map_succ] at h1
  have l1 : ((marks m (k * 3 + 1)).map (Value.int .i64)).length = k * 3 + 1 := by simp [marks_len]
  have h2 := h1.put (by omega) (.int .i64 (m + ((k * 3 + 1 : Nat) : Int)))
  rw [l1, ← mark_map_succ] at h2
  have l2 : ((marks m (k * 3 + 1 + 1)).map (Value.int .i64)).length = k * 3 + 2 := by simp [marks_len]
  have h3 := h2.put (by omega) (.int .i64 (m + ((k * 3 + 2 : Nat) : Int)))
  rw [l2, ← mark_map_succ] at h3
  have e1 : m + ((k * 3 : Nat) : Int) + 1 = m + ((k * 3 + 1 : Nat) : Int) := by omega
  have e2 : m + ((k * 3 : Nat) : Int) + 1 + 1 = m + ((k * 3 + 2 : Nat) : Int) := by omega
  rw [e2, e1]
  rw [show (k + 1) * 3 = k * 3 + 1 + 1 + 1 by omega]
  exact h3

set_option maxHeartbeats 1000000 in
theorem c_markPlacedS (lo hi : Nat) (v : Value) (n : Nat) (xs : List Value) (m : Int) (w : World) (h : Own w lo hi 85 3 v n xs) (h0 : 0 ≤ m) (h1 : m + ((n * 3 : Nat) : Int) ≤ 4611686018427387904) :
    Calls Tryz.prog 31 #[v, .int .i64 m] w (MarkedC w lo hi 85 v m n 3) := by
  obtain ⟨hown, hh, hg⟩ := h
  rcases hown.2 with ⟨rfl, rfl⟩ | ⟨g, c, cur, rfl, hb, hr⟩
  · go_enter Tryz.func31, Tryz.ntmps31
    go_wp2
    go_rounds 1
    go_ret
    exact ⟨ret_int (by simp), ⟨⟨by simp [marks], .inl ⟨rfl, rfl⟩⟩, hh, hg⟩, Fr.refl _ _ _⟩
  · have hgh := hg g rfl
    have F0 : Fill w lo 85 3 g n c [] := Fill.start hown
    clear hr hown
    go_enter Tryz.func31, Tryz.ntmps31
    go_wp2
    go_loopw [1, 5] (fun q i wr => ∃ k : Nat, ∃ q0 : Int, k ≤ n ∧ i = .int .i64 k ∧ q = .int .i64 q0 ∧ Hid (q0 = m + ((k * 3 : Nat) : Int)) ∧ 0 ≤ q0 ∧ q0 + (3 * (n - k) : Int) ≤ 4611686018427387904 ∧ Fill wr lo 85 3 g n c ((marks m (k * 3)).map (Value.int .i64)) ∧ Fr lo hi w wr) (fun _ i _ => n - (intOf i).toNat)
    case atStart => exact ⟨0, m, Nat.zero_le _, rfl, rfl, Lib.hid (by simp), h0, by omega, F0, Fr.refl _ _ _⟩
    case round =>
      obtain ⟨k, q0, hk, rfl, rfl, HQ, b0, b1, hF, hN⟩ := hrel
      by_cases hlt : k < n
      · obtain ⟨u0, hu0⟩ := hF.cell (j := k * 3) (by omega)
        have hf0 := hF.free (k * 3)
        obtain ⟨u1, hu1⟩ := hF.cell (j := k * 3 + 1) (by omega)
        have hf1 := hF.free (k * 3 + 1)
        obtain ⟨u2, hu2⟩ := hF.cell (j := k * 3 + 2) (by omega)
        have hf2 := hF.free (k * 3 + 2)
        go_wp2
        go_roundw
        case rel => exact ⟨k + 1, q0 + 1 + 1 + 1, by omega, by go_num, rfl, Lib.hid (by have := HQ.out; omega), by omega, by omega, mark3_step hF hlt HQ.out, (((hN.setCell hb hgh _).setCell hb hgh _).setCell hb hgh _)⟩
        case measure => simp [intOf]; omega
      · have hk' : k = n := by omega
        subst hk'
        go_wp2
        go_ret
        exact ⟨ret_int HQ.out, mark_endC hF hh hN hgh, hN⟩

set_option maxHeartbeats 1000000 in
theorem c_heldPlacedS (lo hi : Nat) (v : Value) (n : Nat) (m : Int) (w : World) (h : Rd w lo hi 3 v n ((marks m (n * 3)).map (Value.int .i64))) (h0 : 0 ≤ m) (h1 : m + ((n * 3 : Nat) : Int) ≤ 4611686018427387904) :
    Calls Tryz.prog 32 #[v, .int .i64 m] w fun e w' => e = .returned (.int .i64 (m + ((n * 3 : Nat) : Int))) ∧ New w w' := by
  obtain ⟨_, hm, hh, A, c, rfl, hrd⟩ := h
  go_enter Tryz.func32, Tryz.ntmps32
  go_wp2
  go_loopw [1, 5] (fun q i wr => ∃ k : Nat, ∃ q0 : Int, k ≤ n ∧ i = .int .i64 k ∧ q = .int .i64 q0 ∧ Hid (q0 = m + ((k * 3 : Nat) : Int)) ∧ 0 ≤ q0 ∧ q0 + (3 * (n - k) : Int) ≤ 4611686018427387904 ∧ New w wr) (fun _ i _ => n - (intOf i).toNat)
  case atStart => exact ⟨0, m, Nat.zero_le _, rfl, rfl, Lib.hid (by simp), h0, by omega, New.same _⟩
  case round =>
    obtain ⟨k, q0, hk, rfl, rfl, HQ, b0, b1, hN⟩ := hrel
    by_cases hlt : k < n
    · obtain ⟨b, off, rfl, _, hb1, hc⟩ := hrd (by omega)
      have hx0 : wr.cell? ⟨b, off + k * 3, none⟩ = some (.int .i64 (q0)) := by
        rw [hN.cell (p := ⟨b, off + k * 3, none⟩) (by simp; omega)]
        refine hc (k * 3) _ ?_
        rw [HQ.out]
        exact mark_get_map (by omega) (by omega)
      have hx1 : wr.cell? ⟨b, off + k * 3 + 1, none⟩ = some (.int .i64 (q0 + 1)) := by
        rw [hN.cell (p := ⟨b, off + k * 3 + 1, none⟩) (by simp; omega)]
        refine hc (k * 3 + 1) _ ?_
        rw [HQ.out]
        exact mark_get_map (by omega) (by omega)
      have hx2 : wr.cell? ⟨b, off + k * 3 + 2, none⟩ = some (.int .i64 (q0 + 1 + 1)) := by
        rw [hN.cell (p := ⟨b, off + k * 3 + 2, none⟩) (by simp; omega)]
        refine hc (k * 3 + 2) _ ?_
        rw [HQ.out]
        exact mark_get_map (by omega) (by omega)
      clear hc hrd
      go_wp2
      go_roundw
      case rel => exact ⟨k + 1, q0 + 1 + 1 + 1, by omega, by go_num, rfl, Lib.hid (by have := HQ.out; omega), by omega, by omega, hN⟩
      case measure => simp [intOf]; omega
    · have hk' : k = n := by omega
      subst hk'
      go_wp2
      go_ret
      exact ⟨ret_int HQ.out, hN⟩

end Go.Proofs.YtcbifdfcllaaaaaGreatDoor
