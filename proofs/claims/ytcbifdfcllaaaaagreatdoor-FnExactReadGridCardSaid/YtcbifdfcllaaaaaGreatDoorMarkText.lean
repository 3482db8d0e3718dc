/- The contract of the laws' own text for a number. -/
import Derived.Test.YtcbifdfcllaaaaaGreatDoorSetP
import Derived.Laws.BytesArg
import Derived.Laws.Concat
namespace Go.Proofs.YtcbifdfcllaaaaaGreatDoor
open Go.RowKit Go.Deep
set_option linter.unusedVariables false
set_option linter.unusedSimpArgs false

/-- a slice of one byte, just made, as a string -/
theorem conv1 (wr : World) (x : Int) : (convert 124 9 (.slice (some ⟨wr.heap.size, 0, none⟩) 1 1)).run Tryz.prog (wr.alloc (.cells #[.int .u8 x] 5)) = .ok (.string (strOfNums [x])) (wr.alloc (.cells #[.int .u8 x] 5)) := by
  refine run_convert_bytes_arg _ 124 5 Tryz.underlying124 Tryz.underlying5 wr.heap.size 0 1 1 [x] rfl (fun i hi => ?_) 9 Tryz.underlying9
  have e : i = 0 := by omega
  subst e
  show (wr.alloc (.cells #[.int .u8 x] 5)).cell? ⟨wr.heap.size, 0, none⟩ = some (.int .u8 x)
  go_simp
/-- one digit -/
def dg1 (n : Int) : ByteArray := strOfNums [48 + n % 10]
theorem dg1_size (n : Int) : (dg1 n).size = 1 := rfl
/-- the decimal digits of a number, none for 0 -/
def digS (n : Nat) : ByteArray := if h : n = 0 then ⟨#[]⟩ else digS (n / 10) ++ dg1 n
termination_by n
decreasing_by omega
theorem digS_pos {n : Nat} (h : n ≠ 0) : digS n = digS (n / 10) ++ dg1 n := by rw [digS]; simp [h]
theorem digS_zero : digS 0 = ⟨#[]⟩ := by rw [digS]; simp
def mtS (k : Nat) : ByteArray := if k = 0 then ⟨#[109, 48]⟩ else ⟨#[109]⟩ ++ digS k

set_option maxRecDepth 20000 in
set_option maxHeartbeats 1000000 in
theorem c_markText (k : Nat) (w : World) (hk : k ≤ 4611686018427387904) : Calls Tryz.prog 60 #[.int .i64 k] w fun e w' => e = .returned (.string (mtS k)) ∧ New w w' := by
  by_cases h : k = 0
  · subst h
    go_enter Tryz.func60, Tryz.ntmps60
    go_wp2
    go_ret
    exact ⟨rfl, New.same _⟩
  · have h1 : decide ((k : Int) ≤ 0) = false := by simp; omega
    have HM := Lib.hid (show mtS k = ⟨#[109]⟩ ++ digS k from if_neg h)
    go_enter Tryz.func60, Tryz.ntmps60
    go_wp2
    go_loopw [0, 3] (fun q s wr => ∃ (m : Nat) (t : ByteArray), q = .int .i64 m ∧ s = .string t ∧ Hid (digS k = digS m ++ t) ∧ t.size + m ≤ k ∧ New w wr) (fun q _ _ => (intOf q).toNat)
    case atStart => exact ⟨k, _, rfl, rfl, Lib.hid ByteArray.append_empty.symm, by simp [ByteArray.size], New.same _⟩
    case round =>
      obtain ⟨m, t, rfl, rfl, HD, hm, hN⟩ := hrel
      by_cases h0 : m = 0
      · have hs0 : ¬ (9223372036854775807 < (ByteArray.mk #[109]).size + t.size) := by have : (ByteArray.mk #[109]).size = 1 := rfl; omega
        have h2 : decide (0 < (m : Int)) = false := by simp; omega
        have h3 : decide (0 < m) = false := by simp; omega
        have HZ := Lib.hid (show digS k = t by rw [HD.out, h0, digS_zero]; exact ByteArray.empty_append)
        clear h0
        go_wp2
        go_ret
        exact ⟨by rw [HM.out, HZ.out]; rfl, hN⟩
      · have h2 : decide (0 < (m : Int)) = true := by simp; omega
        have h3 : decide (0 < m) = true := by simp; omega
        have hs0 : ¬ (9223372036854775807 < (strOfNums [48 + (m : Int) % 10]).size + t.size) := by have : (strOfNums [48 + (m : Int) % 10]).size = 1 := rfl; omega
        have hcv := conv1 wr (48 + (m : Int) % 10)
        have HS := Lib.hid (digS_pos h0)
        have HQ := Lib.hid (show (strOfNums [48 + (m : Int) % 10] ++ t).size + m / 10 ≤ k by rw [ByteArray.size_append, show (strOfNums [48 + (m : Int) % 10]).size = 1 from rfl]; omega)
        go_wp2
        go_roundw
        case rel => exact ⟨m / 10, strOfNums [48 + (m : Int) % 10] ++ t, by go_num, rfl, Lib.hid (by rw [HD.out, HS.out, ByteArray.append_assoc]; rfl), HQ.out, hN.step ((New.same _).box _)⟩
        case measure => simp [intOf]; omega
end Go.Proofs.YtcbifdfcllaaaaaGreatDoor
