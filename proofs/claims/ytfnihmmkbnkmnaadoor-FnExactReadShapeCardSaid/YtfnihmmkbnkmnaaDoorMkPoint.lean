/- Contracts of the functions that mark the elements of a slice of Point and look for the marks. -/
import Derived.Test.YtfnihmmkbnkmnaaDoorMarks
namespace Go.Proofs.YtfnihmmkbnkmnaaDoor
open Go.RowKit
set_option linter.unusedVariables false

theorem mark2_step {w : World} {base g n c : Nat} {e : TypeId} {m q : Int} {k : Nat} (h : Fill w base e 2 g n c ((marks m (k * 2)).map (Value.int .i64))) (hk : k < n) (hq : q = m + ((k * 2 : Nat) : Int)) :
    Fill ((w.setCell ⟨g, k * 2, none⟩ (.int .i64 (q))).setCell ⟨g, k * 2 + 1, none⟩ (.int .i64 (q + 1))) base e 2 g n c ((marks m ((k + 1) * 2)).map (Value.int .i64)) := by
  subst hq
  have l0 : ((marks m (k * 2)).map (Value.int .i64)).length = k * 2 := by simp [marks_len]
  have h1 := h.put (by omega) (.int .i64 (m + ((k * 2 : Nat) : Int)))
  rw [l0, ← mark_map_succ] at h1
  have l1 : ((marks m (k * 2 + 1)).map (Value.int .i64)).length = k * 2 + 1 := by simp [marks_len]
  have h2 := h1.put (by omega) (.int .i64 (m + ((k * 2 + 1 : Nat) : Int)))
  rw [l1, ← mark_map_succ] at h2
  have e1 : m + ((k * 2 : Nat) : Int) + 1 = m + ((k * 2 + 1 : Nat) : Int) := by omega
  rw [e1]
  rw [show (k + 1) * 2 = k * 2 + 1 + 1 by omega]
  exact h2

set_option maxHeartbeats 1000000 in
theorem c_markPointS (lo hi : Nat) (v : Value) (n : Nat) (xs : List Value) (m : Int) (w : World) (h : Own w lo hi 55 2 v n xs) (h0 : 0 ≤ m) (h1 : m + ((n * 2 : Nat) : Int) ≤ 4611686018427387904) :
    Calls Tryd.prog 9 #[v, .int .i64 m] w (MarkedC w lo hi 55 v m n 2) := by
  obtain ⟨hown, hh, hg⟩ := h
  rcases hown.2 with ⟨rfl, rfl⟩ | ⟨g, c, cur, rfl, hb, hr⟩
  · go_enter Tryd.func9, Tryd.ntmps9
    go_wp2
    go_rounds 1
    go_ret
    exact ⟨ret_int (by simp), ⟨⟨by simp [marks], .inl ⟨rfl, rfl⟩⟩, hh, hg⟩, Fr.refl _ _ _⟩
  · have hgh := hg g rfl
    have F0 : Fill w lo 55 2 g n c [] := Fill.start hown
    clear hr hown
    go_enter Tryd.func9, Tryd.ntmps9
    go_wp2
    go_loopw [1, 5] (fun q i wr => ∃ k : Nat, ∃ q0 : Int, k ≤ n ∧ i = .int .i64 k ∧ q = .int .i64 q0 ∧ Hid (q0 = m + ((k * 2 : Nat) : Int)) ∧ 0 ≤ q0 ∧ q0 + (2 * (n - k) : Int) ≤ 4611686018427387904 ∧ Fill wr lo 55 2 g n c ((marks m (k * 2)).map (Value.int .i64)) ∧ Fr lo hi w wr) (fun _ i _ => n - (intOf i).toNat)
    case atStart => exact ⟨0, m, Nat.zero_le _, rfl, rfl, Lib.hid (by simp), h0, by omega, F0, Fr.refl _ _ _⟩
    case round =>
      obtain ⟨k, q0, hk, rfl, rfl, HQ, b0, b1, hF, hN⟩ := hrel
      by_cases hlt : k < n
      · obtain ⟨u0, hu0⟩ := hF.cell (j := k * 2) (by omega)
        have hf0 := hF.free (k * 2)
        obtain ⟨u1, hu1⟩ := hF.cell (j := k * 2 + 1) (by omega)
        have hf1 := hF.free (k * 2 + 1)
        go_wp2
        go_roundw
        case rel => exact ⟨k + 1, q0 + 1 + 1, by omega, by go_num, rfl, Lib.hid (by have := HQ.out; omega), by omega, by omega, mark2_step hF hlt HQ.out, ((hN.setCell hb hgh _).setCell hb hgh _)⟩
        case measure => simp [intOf]; omega
      · have hk' : k = n := by omega
        subst hk'
        go_wp2
        go_ret
        exact ⟨ret_int HQ.out, mark_endC hF hh hN hgh, hN⟩

set_option maxHeartbeats 1000000 in
theorem c_heldPointS (lo hi : Nat) (v : Value) (n : Nat) (m : Int) (w : World) (h : Rd w lo hi 2 v n ((marks m (n * 2)).map (Value.int .i64))) (h0 : 0 ≤ m) (h1 : m + ((n * 2 : Nat) : Int) ≤ 4611686018427387904) :
    Calls Tryd.prog 10 #[v, .int .i64 m] w fun e w' => e = .returned (.int .i64 (m + ((n * 2 : Nat) : Int))) ∧ New w w' := by
  obtain ⟨_, hm, hh, A, c, rfl, hrd⟩ := h
  go_enter Tryd.func10, Tryd.ntmps10
  go_wp2
  go_loopw [1, 5] (fun q i wr => ∃ k : Nat, ∃ q0 : Int, k ≤ n ∧ i = .int .i64 k ∧ q = .int .i64 q0 ∧ Hid (q0 = m + ((k * 2 : Nat) : Int)) ∧ 0 ≤ q0 ∧ q0 + (2 * (n - k) : Int) ≤ 4611686018427387904 ∧ New w wr) (fun _ i _ => n - (intOf i).toNat)
  case atStart => exact ⟨0, m, Nat.zero_le _, rfl, rfl, Lib.hid (by simp), h0, by omega, New.same _⟩
  case round =>
    obtain ⟨k, q0, hk, rfl, rfl, HQ, b0, b1, hN⟩ := hrel
    by_cases hlt : k < n
    · obtain ⟨b, off, rfl, _, hb1, hc⟩ := hrd (by omega)
      have hx0 : wr.cell? ⟨b, off + k * 2, none⟩ = some (.int .i64 (q0)) := by
        rw [hN.cell (p := ⟨b, off + k * 2, none⟩) (by simp; omega)]
        refine hc (k * 2) _ ?_
        rw [HQ.out]
        exact mark_get_map (by omega) (by omega)
      have hx1 : wr.cell? ⟨b, off + k * 2 + 1, none⟩ = some (.int .i64 (q0 + 1)) := by
        rw [hN.cell (p := ⟨b, off + k * 2 + 1, none⟩) (by simp; omega)]
        refine hc (k * 2 + 1) _ ?_
        rw [HQ.out]
        exact mark_get_map (by omega) (by omega)
      clear hc hrd
      go_wp2
      go_roundw
      case rel => exact ⟨k + 1, q0 + 1 + 1, by omega, by go_num, rfl, Lib.hid (by have := HQ.out; omega), by omega, by omega, hN⟩
      case measure => simp [intOf]; omega
    · have hk' : k = n := by omega
      subst hk'
      go_wp2
      go_ret
      exact ⟨ret_int HQ.out, hN⟩

end Go.Proofs.YtfnihmmkbnkmnaaDoor
