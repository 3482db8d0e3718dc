/- How many sides have a glue: the reference's count, and what it says; has some tile the glue: the program's test. -/
import Derived.Test.YtcbifdfcllaaaaaSetFn2
import Derived.Test.YtcbifdfcllaaaaaTrimP
namespace Go.Proofs.Ytcbifdfcllaaaaa
open Go.RowKit Go.Deep
set_option linter.unusedVariables false
set_option linter.unusedSimpArgs false

def cnI (g : Int) (s : List Int) : Nat := s.countP fun x => decide (x = g)
def usC (T : List (ByteArray × List Int)) (g : Int) (k : Nat) : Nat := ((T.take k).map fun t => cnI g t.2).sum
theorem usC_zero (T : List (ByteArray × List Int)) (g : Int) : usC T g 0 = 0 := rfl
theorem usC_succ {T : List (ByteArray × List Int)} {g : Int} {k : Nat} (h : k < T.length) : usC T g (k + 1) = usC T g k + cnI g T[k].2 := by
  unfold usC
  rw [List.take_succ_eq_append_getElem h, List.map_append, List.sum_append]
  simp
theorem cn_yes {s : List Int} {g : Int} {d : Nat} (h : d < s.length) (e : s[d] = g) : cnI g (s.take (d + 1)) = cnI g (s.take d) + 1 := by
  unfold cnI
  rw [List.take_succ_eq_append_getElem h, List.countP_append]
  simp [e]
theorem cn_no {s : List Int} {g : Int} {d : Nat} (h : d < s.length) (e : s[d] ≠ g) : cnI g (s.take (d + 1)) = cnI g (s.take d) := by
  unfold cnI
  rw [List.take_succ_eq_append_getElem h, List.countP_append]
  simp [e]
theorem cn_le (g : Int) (s : List Int) : cnI g s ≤ s.length := List.countP_le_length
theorem usC_le {T : List (ByteArray × List Int)} (g : Int) (h4 : ∀ k (hk : k < T.length), T[k].2.length = 4) (k : Nat) (hk : k ≤ T.length) : usC T g k ≤ 4 * k := by
  induction k with
  | zero => simp [usC]
  | succ k ih =>
    rw [usC_succ (by omega)]
    have h1 := cn_le g T[k].2
    have h2 := h4 k (by omega)
    have h3 := ih (by omega)
    omega
theorem usC_pos (T : List (ByteArray × List Int)) (g : Int) : decide (0 < ((usC T g T.length : Nat) : Int)) = T.any fun t => t.2.any fun s => decide (s = g) := by
  have key : ∀ T : List (ByteArray × List Int), (0 < (T.map fun t => cnI g t.2).sum) ↔ ∃ t ∈ T, ∃ s ∈ t.2, s = g := by
    intro T
    induction T with
    | nil => simp
    | cons t r ih =>
      simp only [List.map_cons, List.sum_cons, List.mem_cons, exists_eq_or_imp]
      have h1 : 0 < cnI g t.2 ↔ ∃ s ∈ t.2, s = g := by simp [cnI, List.countP_pos_iff]
      rw [← ih, ← h1]
      omega
  have h := key T
  rw [Bool.eq_iff_iff]
  unfold usC
  rw [List.take_length]
  simp only [decide_eq_true_eq, List.any_eq_true]
  rw [← h]
  omega
theorem usC_us (T : List (ByteArray × List Int)) (n : Nat) : decide (0 < ((usC T ((n : Int) + 1) T.length : Nat) : Int)) = usB T n := by
  rw [usC_pos]
  rfl

set_option maxHeartbeats 1000000 in
theorem c_l02Uses (b0 lo hi : Nat) (gv tv : Value) (G : List (ByteArray × Int)) (T : List (ByteArray × List Int)) (sv : List Value) (g : Int) (w : World) (B0 : BoxV w b0 [gv, tv]) (h : RdS w lo hi gv tv G T sv) (hT : T.length ≤ 160) (h4 : ∀ k (hk : k < T.length), T[k].2.length = 4) :
    Calls Try.prog 17 #[.pointer (some ⟨b0, 0, none⟩), .int .i64 g] w fun e w' => e = .returned (.int .i64 (usC T g T.length : Nat)) ∧ New w w' := by
  obtain ⟨A, c, B, d0, rfl, rfl⟩ := h.form
  have HH := Lib.hid h
  obtain ⟨B', d', e2, hm', hb⟩ := rd_form h.tiles.outer
  obtain ⟨rfl, rfl⟩ : B = B' ∧ d0 = d' := by simpa using e2
  have HB := Lib.hid hb
  have H4 := Lib.hid h4
  have HL := Lib.hid (usC_le g h4)
  clear e2 h hb h4
  have ⟨⟨bx0, by0⟩, _, bl0⟩ := B0.at2
  go_enter Try.func17, Try.ntmps17
  go_wp2
  clear bx0 by0 bl0
  go_loopw [5, 6] (fun c i wr => ∃ k : Nat, k ≤ T.length ∧ i = .int .i64 k ∧ c = .int .i64 (usC T g k : Nat) ∧ New w wr) (fun _ i _ => T.length - (intOf i).toNat)
  case atStart => exact ⟨0, Nat.zero_le _, rfl, rfl, New.same _⟩
  case round =>
    obtain ⟨k, hk, rfl, rfl, hN⟩ := hrel
    have ⟨⟨bx0, by0⟩, _, bl0⟩ := (B0.new hN).at2
    have hu := HL.out k hk
    by_cases hlt : k < T.length
    · obtain ⟨b, off, hAe⟩ := HB.out (by omega)
      subst hAe
      have p0 : (0 : Int) ≤ (k : Int) := by omega
      have p1 : (k : Int) < (T.length : Int) := by omega
      have H4k := Lib.hid (H4.out k hlt)
      have US := Lib.hid (usC_succ (g := g) hlt)
      obtain ⟨wo, hwo⟩ : ∃ wo, wo = wr := ⟨wr, rfl⟩
      subst hwo
      go_wp2
      clear bx0 by0 bl0
      go_loopw [5, 7] (fun c i wq => ∃ d : Nat, d ≤ T[k].2.length ∧ i = .int .i64 d ∧ c = .int .i64 (usC T g k + cnI g (T[k].2.take d) : Nat) ∧ New w wq) (fun _ i _ => T[k].2.length - (intOf i).toNat)
      case atStart => exact ⟨0, Nat.zero_le _, rfl, by simp [cnI], hN⟩
      case round =>
        clear hN
        obtain ⟨d, hd, rfl, rfl, hN⟩ := hrel
        have ⟨⟨bx0, by0⟩, _, bl0⟩ := (B0.new hN).at2
        have hcn : cnI g (T[k].2.take d) ≤ d := Nat.le_trans (cn_le _ _) (by simp; omega)
        by_cases hd4 : d < T[k].2.length
        · have hdb : d < 4 := by have := H4k.out; omega
          have t0 : (d : Int) < 4 := by omega
          have r2 : (0 : Int) ≤ (d : Int) := by omega
          have r4 : (d : Int) < (T[k].2.length : Int) := by omega
          obtain ⟨bs, os, m, ⟨z1, zl⟩, u0, ul⟩ := rd_side HH.out.tiles hN rfl hlt hd4
          by_cases e : T[k].2[d] = g
          · have E := Lib.hid (cn_yes hd4 e)
            have g2 : (T[k].2[d] == g) = true := by simp [e]
            clear e
            go_wp2
            go_roundw
            case rel => exact ⟨d + 1, by omega, by go_num, by rw [E.out]; go_num, hN⟩
            case measure => simp [intOf]; omega
          · have E := Lib.hid (cn_no hd4 e)
            have g2 : (T[k].2[d] == g) = false := by simp [e]
            clear e
            go_wp2
            go_roundw
            case rel => exact ⟨d + 1, by omega, by go_num, by rw [E.out], hN⟩
            case measure => simp [intOf]; omega
        · have ed : d = T[k].2.length := by omega
          subst ed
          have t0 : ¬ ((T[k].2.length : Int) < 4) := by have := H4k.out; omega
          go_wp2
          go_roundw
          case rel => exact ⟨k + 1, by omega, by go_num, by rw [US.out, List.take_length], hN⟩
          case measure => simp [intOf]; omega
    · have hk' : k = T.length := by omega
      subst hk'
      go_wp2
      go_ret
      exact ⟨rfl, hN⟩
end Go.Proofs.Ytcbifdfcllaaaaa
