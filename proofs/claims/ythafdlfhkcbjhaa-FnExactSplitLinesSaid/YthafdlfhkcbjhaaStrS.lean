/- Contracts of the laws' own helpers on rows of strings: comparing, marking, looking for the marks. -/
import Derived.Test.YthafdlfhkcbjhaaMarkText
import Derived.Test.YthafdlfhkcbjhaaInts
namespace Go.Proofs.Ythafdlfhkcbjhaa
open Go.RowKit Go.Deep
set_option linter.unusedVariables false
set_option linter.unusedSimpArgs false

/-- the marks from m on, as strings -/
def mkS (m n : Nat) : List ByteArray := (List.range n).map fun k => mtS (m + k)
theorem mkS_len (m n : Nat) : (mkS m n).length = n := by simp [mkS]
theorem mkS_succ (m n : Nat) : mkS m (n + 1) = mkS m n ++ [mtS (m + n)] := by simp [mkS, List.range_succ]
theorem mkS_get (m n k : Nat) (h : k < n) : ((mkS m n).map Value.string)[k]? = some (.string (mtS (m + k))) := by simp [mkS, h]
theorem markS_step {w : World} {base g n c : Nat} {e : TypeId} {m k : Nat} (h : Fill w base e 1 g n c ((mkS m k).map Value.string)) (hk : k < n) :
    Fill (w.setCell ⟨g, k, none⟩ (.string (mtS (m + k)))) base e 1 g n c ((mkS m (k + 1)).map Value.string) := by
  have hl : ((mkS m k).map Value.string).length = k := by simp [mkS_len]
  have := h.put (by omega) (.string (mtS (m + k)))
  rw [hl] at this
  rw [mkS_succ, List.map_append]
  exact this

set_option maxHeartbeats 2000000 in
theorem c_markStringS (lo hi : Nat) (v : Value) (n : Nat) (xs : List Value) (m : Nat) (w : World) (h : Own w lo hi 9 1 v n xs) (h1 : m + n ≤ 4611686018427387904) :
    Calls Try.prog 15 #[v, .int .i64 m] w fun e w' => e = .returned (.int .i64 ((m + n : Nat) : Int)) ∧ Own w' lo hi 9 1 v n ((mkS m n).map Value.string) ∧ Fr lo hi w w' := by
  obtain ⟨hown, hh, hg⟩ := h
  rcases hown.2 with ⟨rfl, rfl⟩ | ⟨g, c, cur, rfl, hb, hr⟩
  · go_enter Try.func15, Try.ntmps15
    go_wp2
    go_rounds 1
    go_ret
    exact ⟨ret_int (by simp), ⟨⟨by simp [mkS], .inl ⟨rfl, rfl⟩⟩, hh, hg⟩, Fr.refl _ _ _⟩
  · have hgh := hg g rfl
    have F0 : Fill w lo 9 1 g n c [] := Fill.start hown
    clear hr hown
    go_enter Try.func15, Try.ntmps15
    go_wp2
    go_loopw [1, 5] (fun q i wr => ∃ k q0 : Nat, k ≤ n ∧ i = .int .i64 k ∧ q = .int .i64 q0 ∧ Hid (q0 = m + k) ∧ q0 + (n - k) ≤ 4611686018427387904 ∧ Fill wr lo 9 1 g n c ((mkS m k).map Value.string) ∧ Fr lo hi w wr) (fun _ i _ => n - (intOf i).toNat)
    case atStart => exact ⟨0, m, Nat.zero_le _, rfl, rfl, Lib.hid rfl, by omega, F0, Fr.refl _ _ _⟩
    case round =>
      obtain ⟨k, q0, hk, rfl, rfl, HQ, b1, hF, hN⟩ := hrel
      by_cases hlt : k < n
      · go_wp2_with fail
        refine (c_markText q0 _ (by omega)).mono ?_
        rintro e w2 ⟨rfl, n2⟩
        have hF2 := hF.new n2
        have hN2 := hN.trans (Fr.of_new (lo := lo) (hi := hi) n2)
        obtain ⟨u0, hu0⟩ := hF2.cell (j := k) (by omega)
        have hf0 := hF2.free k
        have S := Lib.hid (markS_step hF2 hlt)
        have T := Lib.hid (hN2.setCell (p := ⟨g, k, none⟩) hb hgh (.string (mtS (m + k))))
        rw [← HQ.out] at S T
        clear hF hN n2 hF2 hN2
        go_wp2
        go_roundw
        case rel => exact ⟨k + 1, q0 + 1, by omega, by go_num, by go_num, Lib.hid (by have := HQ.out; omega), by omega, S.out, T.out⟩
        case measure => simp [intOf]; omega
      · have hk' : k = n := by omega
        subst hk'
        have E := Lib.hid (show (q0 : Int) = ((m + k : Nat) : Int) by rw [HQ.out])
        go_wp2
        go_ret
        exact ⟨ret_int E.out, ⟨hF.done (by simp [mkS_len]), Nat.le_trans hh hN.size, fun g' hg' => by simp [Value.ownBlock] at hg'; omega⟩, hN⟩

set_option maxHeartbeats 2000000 in
theorem c_heldStringS (lo hi : Nat) (v : Value) (n : Nat) (m : Nat) (w : World) (h : Rd w lo hi 1 v n ((mkS m n).map Value.string)) (h1 : m + n ≤ 4611686018427387904) :
    Calls Try.prog 16 #[v, .int .i64 m] w fun e w' => e = .returned (.int .i64 ((m + n : Nat) : Int)) ∧ New w w' := by
  have HR := Lib.hid h
  obtain ⟨A, c, rfl, hm, ha⟩ := rd_form h
  have HA := Lib.hid ha
  clear ha h
  go_enter Try.func16, Try.ntmps16
  go_wp2
  go_loopw [1, 5] (fun q i wr => ∃ k q0 : Nat, k ≤ n ∧ i = .int .i64 k ∧ q = .int .i64 q0 ∧ Hid (q0 = m + k) ∧ q0 + (n - k) ≤ 4611686018427387904 ∧ New w wr) (fun _ i _ => n - (intOf i).toNat)
  case atStart => exact ⟨0, m, Nat.zero_le _, rfl, rfl, Lib.hid rfl, by omega, New.same _⟩
  case round =>
    obtain ⟨k, q0, hk, rfl, rfl, HQ, b1, hN⟩ := hrel
    by_cases hlt : k < n
    · obtain ⟨b, off, hAe⟩ := HA.out (by omega)
      subst hAe
      obtain ⟨x0, xl⟩ := rd_cell HR.out hN rfl (by omega) (mkS_get m n k hlt)
      rw [← HQ.out] at x0
      have eX : ((mtS q0).toList == (mtS q0).toList) = true := beq_self_eq_true _
      go_upto_region 4 with fail
      have l0 := Later.cell x0 xl
      have C1 := Lib.hid (fun (t : Later wr) => c_markText q0 t.w (by omega))
      (refine wp_region_later (by kernel_rfl) (by kernel_rfl) ?_; (repeat (go_big_quiet_step ((go_at_call 36; exact later_of (C1.out _))))); refine wpQuiet_nil ?_; intro wq hw'; obtain ⟨⟨wz, nq⟩, hwz⟩ := hw'; have hwz' : wq = wz := hwz; subst hwz'; clear hwz)
      go_wp2
      go_roundw
      case rel => exact ⟨k + 1, q0 + 1, by omega, by go_num, by go_num, Lib.hid (by have := HQ.out; omega), by omega, hN.step nq⟩
      case measure => simp [intOf]; omega
    · have hk' : k = n := by omega
      subst hk'
      have E := Lib.hid (show (q0 : Int) = ((m + k : Nat) : Int) by rw [HQ.out])
      go_wp2
      go_ret
      exact ⟨ret_int E.out, hN⟩

set_option maxHeartbeats 2000000 in
theorem c_eqStringS_self (lo hi lo' hi' : Nat) (v u : Value) (xs : List ByteArray) (w : World) (h : Rd w lo hi 1 v xs.length (xs.map Value.string)) (h' : Rd w lo' hi' 1 u xs.length (xs.map Value.string)) :
    Calls Try.prog 14 #[v, u] w fun e w' => e = .returned (.bool true) ∧ New w w' := by
  have HR := Lib.hid h
  have HR' := Lib.hid h'
  obtain ⟨A, c, rfl, hm, ha⟩ := rd_form h
  obtain ⟨A', c', rfl, _, ha'⟩ := rd_form h'
  have HA := Lib.hid ha
  have HA' := Lib.hid ha'
  clear ha h ha' h'
  go_enter Try.func14, Try.ntmps14
  go_wp2
  go_loopw [5] (fun i wr => ∃ k : Nat, k ≤ xs.length ∧ i = .int .i64 k ∧ New w wr) (fun i _ => xs.length - (intOf i).toNat)
  case atStart => exact ⟨0, Nat.zero_le _, rfl, New.same _⟩
  case round =>
    obtain ⟨k, hk, rfl, hN⟩ := hrel
    by_cases hlt : k < xs.length
    · obtain ⟨b, off, hAe⟩ := HA.out (by omega)
      obtain ⟨b', off', hAe'⟩ := HA'.out (by omega)
      subst hAe hAe'
      have hg : (xs.map Value.string)[k]? = some (.string xs[k]) := by simp [hlt]
      obtain ⟨x0, xl⟩ := rd_cell HR.out hN rfl (by omega) hg
      obtain ⟨y0, yl⟩ := rd_cell HR'.out hN rfl (by omega) hg
      clear hg
      have eX : (xs[k].toList == xs[k].toList) = true := beq_self_eq_true _
      go_upto_region 6 with fail
      have l0 := Later.cell x0 xl
      have l1 := Later.cell y0 yl
      (refine wp_region_later (by kernel_rfl) (by kernel_rfl) ?_; (repeat (go_big_quiet_step (fail))); refine wpQuiet_nil ?_; intro wq hw'; obtain ⟨⟨wz, nq⟩, hwz⟩ := hw'; have hwz' : wq = wz := hwz; subst hwz'; clear hwz)
      go_wp2
      go_roundw
      case rel => exact ⟨k + 1, by omega, by go_num, hN.step nq⟩
      case measure => simp [intOf]; omega
    · have hk' : k = xs.length := by omega
      subst hk'
      go_wp2
      go_ret
      exact ⟨rfl, hN⟩
end Go.Proofs.Ythafdlfhkcbjhaa
