/- The digits of a number: spec.l15Digits fills a row from its end. -/
import Derived.Test.YthafdlfhkcbjhaaCount
namespace Go.Proofs.Ythafdlfhkcbjhaa
open Go.RowKit Go.Deep
set_option linter.unusedVariables false
set_option linter.unusedSimpArgs false

/-- the k lowest digits of n, the highest first -/
def dgL (b : Int) : Nat → Int → List Int
  | 0, _ => []
  | k + 1, n => dgL b k (n / b) ++ [n % b]
theorem dgL_len (b : Int) : ∀ (k : Nat) (n : Int), (dgL b k n).length = k
  | 0, _ => rfl
  | k + 1, n => by simp [dgL, dgL_len b k]
/-- a made row whose last cells are the digits found so far -/
def DgRow (w : World) (base : Nat) (e : TypeId) (g d r : Nat) (S : List Int) : Prop := ∃ R : List Value, R.length = r ∧ w.ownsRow base e 1 (.slice (some ⟨g, 0, none⟩) d d) d (R ++ S.map (Value.int .i64))
section
variable {w w' : World} {base : Nat} {e : TypeId} {g d r : Nat} {S : List Int}
theorem DgRow.start {xs : List Value} (h : w.ownsRow base e 1 (.slice (some ⟨g, 0, none⟩) d d) d xs) : DgRow w base e g d d [] := ⟨xs, by have := h.1; omega, by simpa using h⟩
theorem DgRow.ge (h : DgRow w base e g d r S) : base ≤ g ∧ g < w.heap.size := by
  obtain ⟨R, hR, ho⟩ := h
  exact ho.lt g rfl
theorem DgRow.put (h : DgRow w base e g d (r + 1) S) (u : Int) : DgRow (w.setCell ⟨g, r, none⟩ (.int .i64 u)) base e g d r (u :: S) := by
  obtain ⟨R, hR, ho⟩ := h
  refine ⟨R.take r, by rw [List.length_take]; omega, ?_⟩
  have := (ho.stored r (.int .i64 u)).1
  have e1 : (R ++ S.map (Value.int .i64)).set r (.int .i64 u) = R.take r ++ (u :: S).map (Value.int .i64) := by
    rw [List.set_append_left _ _ (by omega), List.set_eq_take_append_cons_drop, if_pos (by omega), List.drop_of_length_le (by omega)]
    simp
  rw [e1] at this
  exact this
theorem DgRow.cell (h : DgRow w base e g d r S) {j : Nat} (hj : j < d) : ∃ u, w.cell? ⟨g, j, none⟩ = some u := by
  obtain ⟨R, hR, ho⟩ := h
  have hl := ho.1
  exact ⟨(R ++ S.map (Value.int .i64))[j]'(by omega), by rw [ho.cellAt j (by omega), List.getElem?_eq_getElem]⟩
theorem DgRow.fz (h : DgRow w base e g d r S) (j : Nat) : w.frozen? ⟨g, j, none⟩ = false := by
  obtain ⟨R, hR, ho⟩ := h
  exact ho.frozenAt j
theorem DgRow.block (h : DgRow w base e g d r S) (hb : w'.heap[g]? = w.heap[g]?) : DgRow w' base e g d r S := by
  obtain ⟨R, hR, hl, ho⟩ := h
  refine ⟨R, hR, hl, ?_⟩
  rcases ho with ⟨hv, _⟩ | ⟨g', cap, cur, hv, hb', hh, r⟩
  · simp at hv
  · simp only [Value.slice.injEq, Option.some.injEq, Addr.mk.injEq, and_true, true_and] at hv
    obtain ⟨rfl, rfl⟩ := hv
    exact .inr ⟨g, d, cur, rfl, hb', hb.trans hh, r⟩
theorem DgRow.done (h : DgRow w base e g d 0 S) : w.ownsRow base e 1 (.slice (some ⟨g, 0, none⟩) d d) d (S.map (Value.int .i64)) := by
  obtain ⟨R, hR, ho⟩ := h
  obtain rfl := List.eq_nil_of_length_eq_zero hR
  exact ho
end

set_option maxHeartbeats 1000000 in
theorem c_l15Digits (b : Int) (d : Nat) (n : Int) (w : World) (h1 : 2 ≤ b) (h2 : b ≤ 6) (h3 : d ≤ 8) (h4 : 0 ≤ n) (h5 : n ≤ 1679616) :
    Calls Try.prog 30 #[.int .i64 b, .int .i64 d, .int .i64 n] w (GivesRow w 2 1 d ((dgL b d n).map (Value.int .i64))) := by
  obtain ⟨i0, hi0, hz0, hz1, hz2⟩ := info_parts info_int64
  go_enter Try.func30, Try.ntmps30
  go_wp2_with (at_make; refine wpList_make_full _ rfl _ _ 22 rfl w.heap.size 2 i0 (.int .i64 0) 1 Try.underlying22 hi0 hz0 hz1 .i64 .i64 d d d rfl rfl rfl rfl (by rw [hz2]; omega) (by unfold maxLen; omega) (Nat.le_refl _) ?_; intro w1 hown hgrow)
  have n1 : New w w1 := (Below.refl _ _).grown hgrow (Nat.le_refl _) (fun k hk => by cases hk)
  have D0 : DgRow w1 w.heap.size 2 w.heap.size d d [] := DgRow.start hown
  clear hown hgrow
  go_loopw [2, 8] (fun m i wr => ∃ (r : Nat) (q : Int) (S : List Int), r ≤ d ∧ i = .int .i64 ((r : Int) - 1) ∧ m = .int .i64 q ∧ 0 ≤ q ∧ q ≤ 1679616 ∧ Hid (dgL b d n = dgL b r q ++ S) ∧ DgRow wr w.heap.size 2 w.heap.size d r S ∧ New w wr) (fun _ i _ => (intOf i + 1).toNat)
  case atStart => exact ⟨d, n, [], Nat.le_refl _, rfl, rfl, h4, h5, Lib.hid (by simp), D0, n1⟩
  case round =>
    obtain ⟨r, q, S, hr, rfl, rfl, q0, q1, HS, hD, hN⟩ := hrel
    by_cases hlt : 0 < r
    · obtain ⟨k, hk⟩ : ∃ k, r = k + 1 := ⟨r - 1, by omega⟩
      have E := Lib.hid (show ((r : Int) - 1) = (k : Int) by omega)
      subst hk
      rw [E.out]
      obtain ⟨u, hu⟩ := hD.cell (j := k) (by omega)
      have hf := hD.fz k
      have HS' := Lib.hid (show dgL b d n = dgL b k (q / b) ++ (q % b :: S) by rw [HS.out]; simp [dgL])
      have HT := Lib.hid (hD.put (q % b))
      have c0 : 0 ≤ q / b := Int.ediv_nonneg q0 (by omega)
      have c1 : q / b ≤ 1679616 := Int.le_trans (Int.ediv_le_self _ q0) q1
      have m0 : 0 ≤ q % b := Int.emod_nonneg _ (by omega)
      have m1 : q % b < b := Int.emod_lt_of_pos _ (by omega)
      clear hD
      go_wp2
      go_roundw
      case rel => exact ⟨k, q / b, q % b :: S, by omega, by go_num, by go_num, c0, c1, HS', HT.out, hN.setCell (by simp) _⟩
      case measure => simp [intOf] <;> omega
    · have hk' : r = 0 := by omega
      subst hk'
      go_wp2
      go_ret
      exact ⟨_, rfl, by rw [HS.out]; exact Own.of hD.done, hN⟩
end Go.Proofs.Ythafdlfhkcbjhaa
