/- Contracts of the laws' own helpers on slices of 64-bit integers: copying, comparing, marking. -/
import Derived.Test.YtcbifdfcllaaaaaGreatDoorNum
namespace Go.Proofs.YtcbifdfcllaaaaaGreatDoor
open Go.RowKit

theorem info_int64 : (Tryz.prog.info? 2).map (fun i => (i.zero, i.size, i.bytes)) = some (some (.int .i64 0), 1, 8) := by kernel_rfl
theorem row_int64 : ElemRow Tryz.prog 69 2 1 8 := elemRow Tryz.underlying69 info_int64 rfl (by omega)

theorem fill_step {w : World} {base g : Nat} {e : TypeId} {zs : List Int} {k : Nat} (h : Fill w base e 1 g zs.length zs.length ((zs.take k).map (Value.int .i64))) (hk : k < zs.length) :
    Fill (w.setCell ⟨g, k, none⟩ (.int .i64 zs[k])) base e 1 g zs.length zs.length ((zs.take (k + 1)).map (Value.int .i64)) := by
  have hl : ((zs.take k).map (Value.int .i64)).length = k := by simp; omega
  have := h.put (by omega) (.int .i64 zs[k])
  rw [hl] at this
  rw [List.take_succ_eq_append_getElem hk, List.map_append]
  exact this

theorem fill_end {w w' : World} {e : TypeId} {zs : List Int} (h : Fill w' w.heap.size e 1 w.heap.size zs.length zs.length ((zs.take zs.length).map (Value.int .i64))) :
    Own w' w.heap.size w'.heap.size e 1 (.slice (some ⟨w.heap.size, 0, none⟩) zs.length zs.length) zs.length (zs.map (Value.int .i64)) := by
  rw [List.take_length] at h
  exact Own.of (h.done (by simp))

set_option maxHeartbeats 1000000 in
theorem c_toInt64S (lo hi : Nat) (v : Value) (zs : List Int) (w : World) (h : Rd w lo hi 1 v zs.length (zs.map (Value.int .i64))) (hn : zs.length ≤ 1048576) :
    Calls Tryz.prog 66 #[v] w (GivesRow w 2 1 zs.length (zs.map (Value.int .i64))) := by
  obtain ⟨i0, hi0, hz0, hz1, hz2⟩ := info_parts info_int64
  obtain ⟨_, _, hh, A, c, rfl, hrd⟩ := h
  go_enter Tryz.func66, Tryz.ntmps66
  go_wp2_with (at_make; refine wpList_make_full _ rfl _ _ 69 rfl w.heap.size 2 i0 (.int .i64 0) 1 Tryz.underlying69 hi0 hz0 hz1 .i64 .i64 zs.length zs.length zs.length rfl rfl rfl rfl (by rw [hz2]; omega) (by unfold maxLen; omega) (Nat.le_refl _) ?_; intro w1 hown hgrow)
  have n1 : New w w1 := (Below.refl _ _).grown hgrow (Nat.le_refl _) (fun k hk => by cases hk)
  have F0 : Fill w1 w.heap.size 2 1 w.heap.size zs.length zs.length [] := Fill.start hown
  clear hown hgrow
  go_loopw [4] (fun i wr => ∃ k : Nat, k ≤ zs.length ∧ i = .int .i64 k ∧ Fill wr w.heap.size 2 1 w.heap.size zs.length zs.length ((zs.take k).map (Value.int .i64)) ∧ New w wr) (fun i _ => zs.length - (intOf i).toNat)
  case atStart => exact ⟨0, Nat.zero_le _, rfl, by simpa using F0, n1⟩
  case round =>
    obtain ⟨k, hk, rfl, hF, hN⟩ := hrel
    by_cases hlt : k < zs.length
    · obtain ⟨b, off, rfl, hb0, hb1, hc⟩ := hrd (by omega)
      have hx : wr.cell? ⟨b, off + k, none⟩ = some (.int .i64 zs[k]) := by
        rw [hN.cell (p := ⟨b, off + k, none⟩) (by simp; omega)]
        exact hc k _ (by simp [hlt])
      obtain ⟨u, hu⟩ := hF.cell (j := k) (by omega)
      have hf := hF.free k
      go_wp2
      go_roundw
      case rel => exact ⟨k + 1, by omega, by go_num, fill_step hF hlt, hN.setCell (by simp) _⟩
      case measure => simp [intOf]; omega
    · have hk' : k = zs.length := by omega
      subst hk'
      go_wp2
      go_ret
      exact ⟨_, rfl, fill_end hF, hN⟩

/-- two lists are one -/
def eqL {α : Type} [DecidableEq α] (xs ys : List α) : Bool := decide (xs = ys)
theorem eqL_self {α : Type} [DecidableEq α] (xs : List α) : eqL xs xs = true := by simp [eqL]
theorem eqL_len {α : Type} [DecidableEq α] {xs ys : List α} (h : xs.length ≠ ys.length) : eqL xs ys = false := by
  unfold eqL
  exact decide_eq_false (fun e => h (by rw [e]))
theorem eqL_at {α : Type} [DecidableEq α] {xs ys : List α} {k : Nat} (h1 : k < xs.length) (h2 : k < ys.length) (h : xs[k] ≠ ys[k]) : eqL xs ys = false := by
  unfold eqL
  exact decide_eq_false (fun e => h (by subst e; rfl))
theorem eqL_all {α : Type} [DecidableEq α] {xs ys : List α} (hl : xs.length = ys.length) (h : xs.take xs.length = ys.take xs.length) : eqL xs ys = true := by
  unfold eqL
  rw [List.take_length, hl, List.take_length] at h
  exact decide_eq_true h
theorem take_more {α : Type} {xs ys : List α} {k : Nat} (h : xs.take k = ys.take k) (h1 : k < xs.length) (h2 : k < ys.length) (he : xs[k] = ys[k]) : xs.take (k + 1) = ys.take (k + 1) := by
  rw [List.take_succ_eq_append_getElem h1, List.take_succ_eq_append_getElem h2, h, he]

set_option maxHeartbeats 1000000 in
theorem c_eqInt64S (lo hi lo' hi' : Nat) (v u : Value) (xs ys : List Int) (w : World) (h : Rd w lo hi 1 v xs.length (xs.map (Value.int .i64))) (h' : Rd w lo' hi' 1 u ys.length (ys.map (Value.int .i64))) :
    Calls Tryz.prog 84 #[v, u] w fun e w' => e = .returned (.bool (eqL xs ys)) ∧ New w w' := by
  obtain ⟨_, hm, hh, A, c, rfl, hrd⟩ := h
  obtain ⟨_, _, hh', A', c', rfl, hrd'⟩ := h'
  by_cases hl : xs.length = ys.length
  · have HL := Lib.hid hl
    have hl1 : xs.length ≤ ys.length := by omega
    have hl2 : ys.length ≤ xs.length := by omega
    clear hl
    go_enter Tryz.func84, Tryz.ntmps84
    go_wp2
    go_loopw [5] (fun i wr => ∃ k : Nat, k ≤ xs.length ∧ i = .int .i64 k ∧ Hid (xs.take k = ys.take k) ∧ New w wr) (fun i _ => xs.length - (intOf i).toNat)
    case atStart => exact ⟨0, Nat.zero_le _, rfl, Lib.hid (by simp), New.same _⟩
    case round =>
      obtain ⟨k, hk, rfl, HT, hN⟩ := hrel
      by_cases hlt : k < xs.length
      · obtain ⟨b, off, rfl, _, hb1, hc⟩ := hrd (by omega)
        obtain ⟨b', off', rfl, _, hb1', hc'⟩ := hrd' (by omega)
        have hx : wr.cell? ⟨b, off + k, none⟩ = some (.int .i64 xs[k]) := by
          rw [hN.cell (p := ⟨b, off + k, none⟩) (by simp; omega)]
          exact hc k _ (by simp [hlt])
        have hy : wr.cell? ⟨b', off' + k, none⟩ = some (.int .i64 (ys[k]'(by omega))) := by
          rw [hN.cell (p := ⟨b', off' + k, none⟩) (by simp; omega)]
          exact hc' k _ (by simp)
        clear hc hc'
        by_cases he : xs[k] = ys[k]'(by omega)
        · have HT' := take_more HT.out hlt (by omega) he
          have HE := Lib.hid he
          have he1 : (xs[k] == ys[k]'(by omega)) = true := by simp [he]
          have he2 : (xs[k] != ys[k]'(by omega)) = false := by simp [he]
          clear he
          go_wp2_with fail
          go_quiet (fail)
          go_wp2
          go_roundw
          case rel => exact ⟨k + 1, by omega, by go_num, HT', hN.draws _⟩
          case measure => simp [intOf]; omega
        · have HE := Lib.hid (eqL_at hlt (by omega) he)
          have he1 : (xs[k] == ys[k]'(by omega)) = false := by simp [he]
          have he2 : (xs[k] != ys[k]'(by omega)) = true := by simp [he]
          clear he
          go_wp2_with fail
          go_quiet (fail)
          go_wp2
          go_ret
          exact ⟨ret_bool HE.out.symm, hN.draws _⟩
      · have hk' : k = xs.length := by omega
        subst hk'
        go_wp2
        go_ret
        exact ⟨ret_bool (eqL_all HL.out HT.out).symm, hN⟩
  · have HL := Lib.hid (eqL_len hl)
    go_enter Tryz.func84, Tryz.ntmps84
    go_wp2
    go_ret
    exact ⟨ret_bool HL.out.symm, New.same _⟩

/-- the numbers from m on -/
def marks (m : Int) (n : Nat) : List Int := (List.range n).map fun (i : Nat) => m + (i : Int)
theorem marks_len (m : Int) (n : Nat) : (marks m n).length = n := by simp [marks]
theorem marks_succ (m : Int) (n : Nat) : marks m (n + 1) = marks m n ++ [m + (n : Int)] := by simp [marks, List.range_succ]
theorem marks_get (m : Int) (n k : Nat) (h : k < n) : (marks m n)[k]? = some (m + (k : Int)) := by simp [marks, h]

/-- A call marks a row: it hands back the next number; the row holds the numbers; nothing else has turned. -/
def Marked (w : World) (lo hi : Nat) (e : TypeId) (v : Value) (m : Int) (n : Nat) (E : Ending) (w' : World) : Prop :=
  E = .returned (.int .i64 (m + (n : Int))) ∧ Own w' lo hi e 1 v n ((marks m n).map (Value.int .i64)) ∧ Fr lo hi w w'

theorem mark_step {w : World} {base g n c : Nat} {e : TypeId} {m : Int} {k : Nat} (h : Fill w base e 1 g n c ((marks m k).map (Value.int .i64))) (hk : k < n) :
    Fill (w.setCell ⟨g, k, none⟩ (.int .i64 (m + (k : Int)))) base e 1 g n c ((marks m (k + 1)).map (Value.int .i64)) := by
  have hl : ((marks m k).map (Value.int .i64)).length = k := by simp [marks_len]
  have := h.put (by omega) (.int .i64 (m + (k : Int)))
  rw [hl] at this
  rw [marks_succ, List.map_append]
  exact this

theorem mark_end {w w' : World} {lo hi g n c : Nat} {e : TypeId} {m : Int} (h : Fill w' lo e 1 g n c ((marks m n).map (Value.int .i64))) (hh : hi ≤ w.heap.size) (hn : Fr lo hi w w') (hg : g < hi) :
    Own w' lo hi e 1 (.slice (some ⟨g, 0, none⟩) n c) n ((marks m n).map (Value.int .i64)) :=
  ⟨h.done (by simp [marks_len]), Nat.le_trans hh hn.size, fun g' hg' => by simp [Value.ownBlock] at hg'; omega⟩

set_option maxHeartbeats 1000000 in
theorem c_markInt64S (lo hi : Nat) (v : Value) (n : Nat) (xs : List Value) (m : Int) (w : World) (h : Own w lo hi 2 1 v n xs) (h0 : 0 ≤ m) (h1 : m + (n : Int) ≤ 4611686018427387904) :
    Calls Tryz.prog 61 #[v, .int .i64 m] w (Marked w lo hi 2 v m n) := by
  obtain ⟨hown, hh, hg⟩ := h
  rcases hown.2 with ⟨rfl, rfl⟩ | ⟨g, c, cur, rfl, hb, hr⟩
  · go_enter Tryz.func61, Tryz.ntmps61
    go_wp2
    go_rounds 1
    go_ret
    exact ⟨ret_int (by simp), ⟨⟨by simp [marks], .inl ⟨rfl, rfl⟩⟩, hh, hg⟩, Fr.refl _ _ _⟩
  · have hgh := hg g rfl
    have F0 : Fill w lo 2 1 g n c [] := Fill.start hown
    clear hr hown
    go_enter Tryz.func61, Tryz.ntmps61
    go_wp2
    go_loopw [1, 5] (fun q i wr => ∃ k : Nat, k ≤ n ∧ i = .int .i64 k ∧ q = .int .i64 (m + (k : Int)) ∧ Fill wr lo 2 1 g n c ((marks m k).map (Value.int .i64)) ∧ Fr lo hi w wr) (fun _ i _ => n - (intOf i).toNat)
    case atStart => exact ⟨0, Nat.zero_le _, rfl, by simp, F0, Fr.refl _ _ _⟩
    case round =>
      obtain ⟨k, hk, rfl, rfl, hF, hN⟩ := hrel
      by_cases hlt : k < n
      · obtain ⟨u, hu⟩ := hF.cell (j := k) (by omega)
        have hf := hF.free k
        go_wp2
        go_roundw
        case rel => exact ⟨k + 1, by omega, by go_num, by go_num, mark_step hF hlt, hN.setCell hb hgh _⟩
        case measure => simp [intOf]; omega
      · have hk' : k = n := by omega
        subst hk'
        go_wp2
        go_ret
        exact ⟨rfl, mark_end hF hh hN hgh, hN⟩


end Go.Proofs.YtcbifdfcllaaaaaGreatDoor
