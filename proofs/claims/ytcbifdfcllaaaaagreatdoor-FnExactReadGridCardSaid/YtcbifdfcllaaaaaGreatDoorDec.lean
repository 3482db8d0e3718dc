/- The contracts of spec.Decimal and impl.Decimal: a number's decimal text. -/
import Derived.Test.YtcbifdfcllaaaaaGreatDoorNum
import Derived.Laws.BytesArg
import Derived.Laws.Concat
import Derived.Test.YtcbifdfcllaaaaaGreatDoorLay10
import Derived.Lib.LaidTab
import Derived.Lib.ItoaLen
namespace Go.Proofs.YtcbifdfcllaaaaaGreatDoor
open Go.RowKit Go.Deep Go.Shelf
set_option linter.unusedVariables false
set_option linter.unusedSimpArgs false

/-- the table that the library reads -/
abbrev TabW (w : World) : Prop := Lib.TabIs Tryz.prog w "internal/strconv.uint64pow10" .u64 Lib.pow10Tab
theorem tab_new {w w2 : World} (h : TabW w) (n : New w w2) : TabW w2 := by
  unfold TabW Lib.TabIs World.var? at *
  cases hg : Tryz.prog.globalNamed "internal/strconv.uint64pow10" with
  | none => simp [hg] at h
  | some g =>
    simp only [hg, Option.bind_some] at h ⊢
    have hlt : g < w.heap.size := by
      rcases Nat.lt_or_ge g w.heap.size with h' | h'
      · exact h'
      · rw [Array.getElem?_eq_none h'] at h; simp at h
    rw [n.block g hlt]
    exact h
theorem new_grow (w : World) (k : Nat) (os : Array Obj) : New w (Sort.grow (w.drewN k) os) := by
  refine ⟨rfl, rfl, rfl, by simp [Sort.grow, World.drewN], fun i hi => ?_⟩
  simp [Sort.grow, World.drewN, Array.getElem?_append_left hi]
theorem c_FormatInt (n : Int) (h0 : -9223372036854775808 ≤ n) (h1 : n ≤ 9223372036854775807) (w : World) (ht : TabW w) :
    Calls Tryz.prog 90 #[.int .i64 n, .int .i64 10] w fun e w' => e = .returned (.string ⟨(Lib.itoa n).toArray⟩) ∧ New w w' := by
  refine Calls.mono (R := fun e w' => e = .returned (.string ⟨(Lib.itoa n).toArray⟩) ∧ ∃ k os, w' = Sort.grow (w.drewN k) os) (Any.strconv_FormatInt_10 Tryz.lays173 n h0 h1 w ht) ?_
  rintro e w' ⟨rfl, k, os, rfl⟩
  exact ⟨rfl, new_grow w k os⟩

/-- a slice of one byte, just made, as a string -/
theorem conv1D (wr : World) (x : Int) : (convert 124 9 (.slice (some ⟨wr.heap.size, 0, none⟩) 1 1)).run Tryz.prog (wr.alloc (.cells #[.int .u8 x] 5)) = .ok (.string (strOfNums [x])) (wr.alloc (.cells #[.int .u8 x] 5)) := by
  refine run_convert_bytes_arg _ 124 5 Tryz.underlying124 Tryz.underlying5 wr.heap.size 0 1 1 [x] rfl (fun i hi => ?_) 9 Tryz.underlying9
  have e : i = 0 := by omega
  subst e
  show (wr.alloc (.cells #[.int .u8 x] 5)).cell? ⟨wr.heap.size, 0, none⟩ = some (.int .u8 x)
  go_simp

/-- the digits of a number, none for 0 -/
def dgS (n : Nat) : ByteArray := if h : n = 0 then ⟨#[]⟩ else dgS (n / 10) ++ strOfNums [48 + (n : Int) % 10]
termination_by n
decreasing_by omega
theorem dgS_pos {n : Nat} (h : n ≠ 0) : dgS n = dgS (n / 10) ++ strOfNums [48 + (n : Int) % 10] := by rw [dgS]; simp [h]
theorem dgS_zero : dgS 0 = ⟨#[]⟩ := by rw [dgS]; simp
theorem dig_one (r : Nat) (h : r < 10) : strOfNums [48 + ((r : Nat) : Int)] = ⟨[UInt8.ofNat (48 + r)].toArray⟩ := by
  unfold strOfNums
  simp only [List.map_cons, List.map_nil]
  rw [show ((48 : Int) + (r : Int)).toNat = 48 + r by omega]
theorem app_list (a b : List UInt8) : (⟨(a ++ b).toArray⟩ : ByteArray) = ⟨a.toArray⟩ ++ ⟨b.toArray⟩ := by
  apply ByteArray.ext
  simp
theorem digS_eq (n : Nat) (h : n ≠ 0) : dgS n = ⟨(Lib.decDigits n).toArray⟩ := by
  induction n using Nat.strongRecOn with
  | ind n ih =>
    rw [dgS_pos h, show (n : Int) % 10 = ((n % 10 : Nat) : Int) by omega, dig_one _ (by omega), Lib.decDigits]
    by_cases h10 : n < 10
    · rw [dif_pos h10, show n / 10 = 0 by omega, dgS_zero, show n % 10 = n by omega]
      rfl
    · rw [dif_neg h10, ih (n / 10) (by omega) (by omega), ← app_list]
theorem digS_size (n : Nat) : (dgS n).size ≤ n / 10 + 1 := by
  induction n using Nat.strongRecOn with
  | ind n ih =>
    by_cases h : n = 0
    · subst h; rw [dgS_zero]; exact Nat.zero_le _
    · have := ih (n / 10) (by omega)
      rw [dgS_pos h, ByteArray.size_append, show (strOfNums [48 + (n : Int) % 10]).size = 1 from rfl]
      by_cases h1 : n / 10 = 0
      · rw [h1, dgS_zero, show (ByteArray.mk #[]).size = 0 from rfl]; omega
      · omega
theorem digS_part {n m : Nat} {t : ByteArray} (h : dgS n = dgS m ++ t) : t.size ≤ n / 10 + 1 := by
  have h1 := congrArg ByteArray.size h
  rw [ByteArray.size_append] at h1
  have := digS_size n
  omega
/-- the text of a number -/
def decT (n : Int) : ByteArray := ⟨(Lib.itoa n).toArray⟩
theorem decT_size (n : Int) (h0 : -9223372036854775808 ≤ n) (h1 : n ≤ 9223372036854775807) : (decT n).size ≤ 21 := by
  have := Lib.itoa_length_le n h0 h1
  simpa [decT, ByteArray.size] using this
theorem decT_pos {k : Nat} (h : k ≠ 0) : decT k = dgS k := by
  unfold decT Lib.itoa
  rw [if_neg (by omega), digS_eq k h]
  rfl
theorem decT_neg {k : Nat} (h : k ≠ 0) : decT (-(k : Int)) = ⟨#[45]⟩ ++ dgS k := by
  unfold decT Lib.itoa
  rw [if_pos (by omega), digS_eq k h, show (-(k : Int)).natAbs = k by omega]
  exact app_list [45] _
theorem decT_zero : decT 0 = ⟨#[48]⟩ := by
  unfold decT Lib.itoa
  rw [if_neg (by omega), Lib.decDigits]
  rfl

set_option maxRecDepth 20000 in
set_option maxHeartbeats 1000000 in
theorem c_specDecimal_pos (n : Nat) (w : World) (hn : n ≠ 0) (hb : n ≤ 9223372036854775807) : Calls Tryz.prog 65 #[.int .i64 n] w fun e w' => e = .returned (.string (decT n)) ∧ New w w' := by
  have H0 := Lib.hid (decT_pos hn)
  have hz : decide ((n : Int) = 0) = false := by simp; omega
  have hz2 : decide ((n : Int) < 0) = false := by simp
  go_enter Tryz.func65, Tryz.ntmps65
  go_wp2
  go_loopw [4, 3] (fun q s wr => ∃ (m : Nat) (t : ByteArray), q = .int .i64 m ∧ s = .string t ∧ Hid (dgS n = dgS m ++ t) ∧ m ≤ n ∧ New w wr) (fun q _ _ => (intOf q).toNat)
  case atStart => exact ⟨n, _, rfl, rfl, Lib.hid ByteArray.append_empty.symm, Nat.le_refl _, New.same _⟩
  case round =>
    obtain ⟨m, t, rfl, rfl, HD, hmn, hN⟩ := hrel
    have hts := digS_part HD.out
    by_cases h0 : m = 0
    · have h2 : decide ((m : Int) = 0) = true := by simp; omega
      have HZ := Lib.hid (show dgS n = t by rw [HD.out, h0, dgS_zero]; exact ByteArray.empty_append)
      go_wp2
      go_ret
      exact ⟨by rw [H0.out, HZ.out]; rfl, hN⟩
    · have h2 : decide ((m : Int) = 0) = false := by simp; omega
      have hs0 : ¬ (9223372036854775807 < (strOfNums [48 + (m : Int) % 10]).size + t.size) := by have : (strOfNums [48 + (m : Int) % 10]).size = 1 := rfl; omega
      have hcv := conv1D wr (48 + (m : Int) % 10)
      have HS := Lib.hid (dgS_pos h0)
      go_wp2
      go_roundw
      case rel => exact ⟨m / 10, strOfNums [48 + (m : Int) % 10] ++ t, by go_num, rfl, Lib.hid (by rw [HD.out, HS.out, ByteArray.append_assoc]), by omega, hN.step ((New.same _).box _)⟩
      case measure => simp [intOf]; omega

set_option maxRecDepth 20000 in
set_option maxHeartbeats 1000000 in
theorem c_specDecimal_neg (n : Nat) (w : World) (hn : n ≠ 0) (hb : n ≤ 9223372036854775808) : Calls Tryz.prog 65 #[.int .i64 (-(n : Int))] w fun e w' => e = .returned (.string (decT (-(n : Int)))) ∧ New w w' := by
  have H0 := Lib.hid (decT_neg hn)
  have hz : decide (-(n : Int) = 0) = false := by simp; omega
  have hz2 : decide (-(n : Int) < 0) = true := by simp; omega
  have hz3 : decide (0 < n) = true := by simp; omega
  go_enter Tryz.func65, Tryz.ntmps65
  go_wp2
  go_loopw [4, 3] (fun q s wr => ∃ (m : Nat) (t : ByteArray), q = .int .i64 (-(m : Int)) ∧ s = .string t ∧ Hid (dgS n = dgS m ++ t) ∧ m ≤ n ∧ New w wr) (fun q _ _ => (-(intOf q)).toNat)
  case atStart => exact ⟨n, _, rfl, rfl, Lib.hid ByteArray.append_empty.symm, Nat.le_refl _, New.same _⟩
  case round =>
    obtain ⟨m, t, rfl, rfl, HD, hmn, hN⟩ := hrel
    have hts := digS_part HD.out
    by_cases h0 : m = 0
    · have h2 : decide ((m : Int) = 0) = true := by simp; omega
      have HZ := Lib.hid (show dgS n = t by rw [HD.out, h0, dgS_zero]; exact ByteArray.empty_append)
      have hs0 : ¬ (9223372036854775807 < (ByteArray.mk #[45]).size + t.size) := by have : (ByteArray.mk #[45]).size = 1 := rfl; omega
      go_wp2
      go_ret
      exact ⟨by rw [H0.out, HZ.out]; rfl, hN⟩
    · have h2 : decide ((m : Int) = 0) = false := by simp; omega
      have hs0 : ¬ (9223372036854775807 < (strOfNums [48 + (m : Int) % 10]).size + t.size) := by have : (strOfNums [48 + (m : Int) % 10]).size = 1 := rfl; omega
      have hcv := conv1D wr (48 + (m : Int) % 10)
      have HS := Lib.hid (dgS_pos h0)
      by_cases h9 : m % 10 = 0
      · have h3 : decide (-((m : Int) % 10) < 0) = false := by simp; omega
        have h4 : decide (0 < (m : Int) % 10) = false := by simp; omega
        have e9 : 48 + -((m : Int) % 10) = 48 + (m : Int) % 10 := by omega
        have hcv := conv1D wr (48 + -((m : Int) % 10))
        have hs0 : ¬ (9223372036854775807 < (strOfNums [48 + -((m : Int) % 10)]).size + t.size) := by rw [e9]; exact hs0
        have HE := Lib.hid e9
        clear e9
        go_wp2
        go_roundw
        case rel => exact ⟨m / 10, strOfNums [48 + -((m : Int) % 10)] ++ t, by go_num, rfl, Lib.hid (by rw [HE.out, HD.out, HS.out, ByteArray.append_assoc]), by omega, hN.step ((New.same _).box _)⟩
        case measure => simp [intOf]; omega
      · have h3 : decide (-((m : Int) % 10) < 0) = true := by simp; omega
        have h4 : decide (0 < (m : Int) % 10) = true := by simp; omega
        go_wp2
        go_roundw
        case rel => exact ⟨m / 10, strOfNums [48 + (m : Int) % 10] ++ t, by go_num, rfl, Lib.hid (by rw [HD.out, HS.out, ByteArray.append_assoc]), by omega, hN.step ((New.same _).box _)⟩
        case measure => simp [intOf]; omega

set_option maxRecDepth 20000 in
theorem c_specDecimal (n : Int) (w : World) (h0 : -9223372036854775808 ≤ n) (h1 : n ≤ 9223372036854775807) : Calls Tryz.prog 65 #[.int .i64 n] w fun e w' => e = .returned (.string (decT n)) ∧ New w w' := by
  by_cases hz : n = 0
  · subst hz
    have H0 := Lib.hid decT_zero
    go_enter Tryz.func65, Tryz.ntmps65
    go_wp2
    go_rounds 1
    go_ret
    exact ⟨by rw [H0.out]; rfl, New.same _⟩
  · by_cases hn : 0 < n
    · obtain ⟨k, rfl⟩ : ∃ k : Nat, n = k := ⟨n.toNat, by omega⟩
      exact c_specDecimal_pos k w (by omega) (by omega)
    · obtain ⟨k, rfl⟩ : ∃ k : Nat, n = -(k : Int) := ⟨n.natAbs, by omega⟩
      exact c_specDecimal_neg k w (by omega) (by omega)
theorem c_implDecimal (n : Int) (w : World) (h0 : -9223372036854775808 ≤ n) (h1 : n ≤ 9223372036854775807) (ht : TabW w) : Calls Tryz.prog 77 #[.int .i64 n] w fun e w' => e = .returned (.string (decT n)) ∧ New w w' := by
  go_enter Tryz.func77, Tryz.ntmps77
  go_wp2_with (go_at_call 90; refine (c_FormatInt n h0 h1 _ ht).mono ?_; rintro e w' ⟨rfl, n1⟩)
  go_ret
  exact ⟨rfl, n1⟩
end Go.Proofs.YtcbifdfcllaaaaaGreatDoor
