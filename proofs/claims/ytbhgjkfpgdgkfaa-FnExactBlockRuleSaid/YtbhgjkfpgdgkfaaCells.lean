/- Contracts of the functions on cells of an elementary automaton. -/
import Derived.Test.YtbhgjkfpgdgkfaaInts
import Derived.Test.YtbhgjkfpgdgkfaaFind
namespace Go.Proofs.Ytbhgjkfpgdgkfaa
open Go.RowKit
set_option linter.unusedVariables false

/-- the next state of a cell between two others -/
def nxI (n a b c : Int) : Int := bits BinOp.and IntKind.i64 (n / 2 ^ (4 * a + 2 * b + c).toNat) 1

set_option maxHeartbeats 1000000 in
theorem c_elementary (n a b c : Int) (w : World) (n0 : 0 ≤ n) (n1 : n ≤ 255) (a0 : 0 ≤ a) (a1 : a ≤ 1) (b0 : 0 ≤ b) (b1 : b ≤ 1) (c0 : 0 ≤ c) (c1 : c ≤ 1) :
    Calls Try.prog 83 #[.int .i64 n, .int .i64 a, .int .i64 b, .int .i64 c] w fun e w' => e = .returned (.int .i64 (nxI n a b c)) ∧ w = w' := by
  have HX := Lib.hid (show bits BinOp.and IntKind.i64 (n / 2 ^ (4 * a + 2 * b + c).toNat) 1 = nxI n a b c from rfl)
  go_enter Try.func83, Try.ntmps83
  go_wp2
  go_ret
  exact ⟨ret_int HX.out, rfl⟩
set_option maxHeartbeats 1000000 in
theorem c_l16Next (n a b c : Int) (w : World) (n0 : 0 ≤ n) (n1 : n ≤ 255) (a0 : 0 ≤ a) (a1 : a ≤ 1) (b0 : 0 ≤ b) (b1 : b ≤ 1) (c0 : 0 ≤ c) (c1 : c ≤ 1) :
    Calls Try.prog 89 #[.int .i64 n, .int .i64 a, .int .i64 b, .int .i64 c] w fun e w' => e = .returned (.int .i64 (nxI n a b c)) ∧ w = w' := by
  have HX := Lib.hid (show bits BinOp.and IntKind.i64 (n / 2 ^ (4 * a + 2 * b + c).toNat) 1 = nxI n a b c from rfl)
  go_enter Try.func89, Try.ntmps89
  go_wp2
  go_ret
  exact ⟨ret_int HX.out, rfl⟩

/-- all numbers of the list are from 0 to below the limit -/
def belB (m : Int) (zs : List Int) : Bool := !(zs.any fun d => !inB d 0 (m - 1))
theorem belB_at {m : Int} {zs : List Int} (h : belB m zs = true) {k : Nat} (hk : k < zs.length) : 0 ≤ zs[k] ∧ zs[k] ≤ m - 1 := by
  simp only [belB, Bool.not_eq_true', List.any_eq_false] at h
  have := h _ (List.getElem_mem hk)
  simpa [inB_iff] using this

theorem enters_below : EntersIt Try.prog 88 := enters_of Try.func88 (by kernel_rfl) rfl

set_option maxHeartbeats 400000 in
theorem tests_below (m : Int) (B : Nat) (zs : List Int) (w : World) (hB : B < w.heap.size) (hc : w.cell? ⟨B, 0, none⟩ = some (.int .i64 m)) (h1 : 0 ≤ m) (h2 : m ≤ 1000000) :
    Tests Try.prog 88 #[.pointer (some ⟨B, 0, none⟩)] (Value.int .i64) (fun d => !inB d 0 (m - 1)) zs w := by
  intro x W _ hn
  have hc' := (hn.cell (p := ⟨B, 0, none⟩) hB).trans hc
  clear hc
  show Calls _ _ #[.int .i64 x, .pointer (some ⟨B, 0, none⟩)] W _
  go_enter Try.func88, Try.ntmps88
  go_wp2_with (go_at_call 56; refine (c_within _ _ _ _).mono ?_; rintro e w' ⟨rfl, rfl⟩)
  go_ret
  exact ⟨rfl, New.same _⟩

set_option maxHeartbeats 1000000 in
theorem c_below (m : Int) (lo hi : Nat) (v : Value) (zs : List Int) (w : World) (h : Rd w lo hi 1 v zs.length (zs.map (Value.int .i64))) (h1 : 0 ≤ m) (h2 : m ≤ 1000000) :
    Calls Try.prog 73 #[v, .int .i64 m] w fun e w' => e = .returned (.bool (belB m zs)) ∧ New w w' := by
  have HR := Lib.hid h
  obtain ⟨_, hm, _, A, c, rfl, _⟩ := h
  have n0 : New w (w.alloc (.cells #[.int .i64 m] 2)) := (New.same w).box _
  have z0 : w.heap.size < (w.alloc (.cells #[.int .i64 m] 2)).heap.size := by simp
  have c0 : (w.alloc (.cells #[.int .i64 m] 2)).cell? ⟨w.heap.size, 0, none⟩ = some (.int .i64 m) := by go_simp
  have HC := Lib.hid (c_containsFunc_int64 _ _ _ enters_below lo hi _ zs _ (HR.out.new n0) (tests_below m w.heap.size zs _ z0 c0 h1 h2))
  clear c0
  go_enter Try.func73, Try.ntmps73
  go_wp2_with (go_at_call 87; refine (HC.out).mono ?_; rintro e w1 ⟨rfl, n1⟩)
  go_ret
  exact ⟨rfl, n0.step n1⟩

/-- a number of an automaton and cells -/
def celB (zs : List Int) : Bool := decide (zs.length ≤ 24) && belB 2 zs
def eleB (n : Int) (zs : List Int) : Bool := inB n 0 255 && celB zs

set_option maxHeartbeats 1000000 in
theorem c_elementaryOk (n : Int) (lo hi : Nat) (v : Value) (zs : List Int) (w : World) (h : Rd w lo hi 1 v zs.length (zs.map (Value.int .i64))) :
    Calls Try.prog 82 #[.int .i64 n, v] w fun e w' => e = .returned (.bool (eleB n zs)) ∧ New w w' := by
  have HR := Lib.hid h
  obtain ⟨_, hm, _, A, c, rfl, _⟩ := h
  cases hn : inB n 0 255
  · have HV := Lib.hid (show eleB n zs = false by simp [eleB, hn])
    go_enter Try.func82, Try.ntmps82
    go_wp2_with (go_at_call 56; refine (c_within _ _ _ _).mono ?_; rintro e w' ⟨rfl, rfl⟩)
    go_ret
    exact ⟨ret_bool HV.out.symm, New.same _⟩
  · by_cases hl : zs.length ≤ 24
    · have HV := Lib.hid (show eleB n zs = belB 2 zs by simp [eleB, celB, hn, hl])
      go_enter Try.func82, Try.ntmps82
      go_wp2_with (first | (go_at_call 56; refine (c_within _ _ _ _).mono ?_; rintro e w' ⟨rfl, rfl⟩) | (go_at_call 73; refine (c_below 2 lo hi _ zs _ HR.out (by omega) (by omega)).mono ?_; rintro e w1 ⟨rfl, n1⟩))
      go_ret
      exact ⟨ret_bool HV.out.symm, n1⟩
    · have HV := Lib.hid (show eleB n zs = false by simp [eleB, celB, hn, hl])
      have hl2 : decide ((zs.length : Int) ≤ 24) = false := by simp; omega
      go_enter Try.func82, Try.ntmps82
      go_wp2_with (go_at_call 56; refine (c_within _ _ _ _).mono ?_; rintro e w' ⟨rfl, rfl⟩)
      go_ret
      exact ⟨ret_bool HV.out.symm, New.same _⟩

set_option maxHeartbeats 1000000 in
theorem c_l16Cells (lo hi : Nat) (v : Value) (zs : List Int) (w : World) (h : Rd w lo hi 1 v zs.length (zs.map (Value.int .i64))) :
    Calls Try.prog 80 #[v] w fun e w' => e = .returned (.bool (celB zs)) ∧ New w w' := by
  obtain ⟨_, hm, hh, A, c, rfl, hrd⟩ := h
  by_cases hl : zs.length ≤ 24
  · have HS := Lib.hid (show celB zs = !(zs.any fun n => !inB n 0 1) by simp [celB, belB, hl])
    go_enter Try.func80, Try.ntmps80
    go_wp2
    go_loopw [3] (fun i wr => ∃ k : Nat, k ≤ zs.length ∧ i = .int .i64 k ∧ Hid (∀ j (hj : j < zs.length), j < k → (!inB zs[j] 0 1) = false) ∧ New w wr) (fun i _ => zs.length - (intOf i).toNat)
    case atStart => exact ⟨0, Nat.zero_le _, rfl, Lib.hid (fun j _ hj => absurd hj (Nat.not_lt_zero _)), New.same _⟩
    case round =>
      obtain ⟨k, hk, rfl, HJ, hN⟩ := hrel
      by_cases hlt : k < zs.length
      · obtain ⟨b, off, rfl, _, hb1, hc⟩ := hrd (by omega)
        have hx : wr.cell? ⟨b, off + k, none⟩ = some (.int .i64 zs[k]) := by
          rw [hN.cell (p := ⟨b, off + k, none⟩) (by simp; omega)]
          exact hc k _ (by simp [hlt])
        clear hc hrd
        cases hp : inB zs[k] 0 1
        · have HP := Lib.hid (any_hit (p := fun n => !inB n 0 1) hlt (by simp [hp]))
          go_wp2_with (go_at_call 58; refine (c_l00In _ _ _ _).mono ?_; rintro e w' ⟨rfl, rfl⟩)
          go_ret
          exact ⟨ret_bool (by rw [HS.out, HP.out]; rfl), hN⟩
        · have HP := Lib.hid hp
          go_wp2_with (go_at_call 58; refine (c_l00In _ _ _ _).mono ?_; rintro e w' ⟨rfl, rfl⟩)
          go_roundw
          case rel =>
            refine ⟨k + 1, by omega, by go_num, Lib.hid (fun j hj hjk => ?_), hN⟩
            by_cases e : j = k
            · subst e; rw [HP.out]; rfl
            · exact HJ.out j hj (by omega)
          case measure => simp [intOf]; omega
      · have hk' : k = zs.length := by omega
        subst hk'
        go_wp2
        go_ret
        exact ⟨ret_bool (by rw [HS.out, any_miss (fun j hj => HJ.out j hj hj)]; rfl), hN⟩
  · have HS := Lib.hid (show celB zs = false by simp [celB, hl])
    have hl2 : decide (24 < (zs.length : Int)) = true := by simp; omega
    go_enter Try.func80, Try.ntmps80
    go_wp2
    go_ret
    exact ⟨ret_bool HS.out.symm, New.same _⟩

end Go.Proofs.Ytbhgjkfpgdgkfaa
