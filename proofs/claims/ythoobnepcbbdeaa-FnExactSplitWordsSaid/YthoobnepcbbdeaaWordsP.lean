/- The library's fields at spaces are the line's words. Plain lemmas. -/
import Derived.Test.YthoobnepcbbdeaaWords
import Derived.Lib.FieldsP
import Derived.Lib.DecodeN
namespace Go.Proofs.Ythoobnepcbbdeaa
open Go.RowKit

theorem dec_cases (n b0 b1 b2 b3 : Nat) (hn : 1 ≤ n) : (b0 = 32 → Lib.decodeN n b0 b1 b2 b3 = (32, 1)) ∧
    (b0 ≠ 32 → (Lib.decodeN n b0 b1 b2 b3).1 ≠ 32 ∧ 1 ≤ (Lib.decodeN n b0 b1 b2 b3).2 ∧ (Lib.decodeN n b0 b1 b2 b3).2 ≤ n ∧ (Lib.decodeN n b0 b1 b2 b3).2 ≤ 4 ∧
      (2 ≤ (Lib.decodeN n b0 b1 b2 b3).2 → b1 ≠ 32) ∧ (3 ≤ (Lib.decodeN n b0 b1 b2 b3).2 → b2 ≠ 32) ∧ (4 ≤ (Lib.decodeN n b0 b1 b2 b3).2 → b3 ≠ 32)) := by
  refine ⟨fun h => by subst h; simp [Lib.decodeN], fun h => ?_⟩
  unfold Lib.decodeN
  repeat' split
  all_goals (simp only; omega)
theorem get_bAt {s : ByteArray} {k : Nat} (h : k < s.size) : (s.get! k).toNat = bAt s k := by
  have h' : k < s.data.size := h
  unfold bAt
  rw [dif_pos h]
  congr 1
  show s.data[k]! = s.data[k]
  exact getElem!_pos s.data k h'
/-- one rune: a space is one byte, 32; another rune holds no such byte -/
theorem rune_at {s : ByteArray} {k : Nat} (h : k < s.size) : (bAt s k = 32 → Utf8.decode s k = (32, 1)) ∧
    (bAt s k ≠ 32 → (Utf8.decode s k).1 ≠ 32 ∧ 1 ≤ (Utf8.decode s k).2 ∧ k + (Utf8.decode s k).2 ≤ s.size ∧ ∀ j, j < (Utf8.decode s k).2 → bAt s (k + j) ≠ 32) := by
  have hd := dec_cases (s.size - k) (s.get! k).toNat (s.get! (k + 1)).toNat (s.get! (k + 2)).toNat (s.get! (k + 3)).toNat (by omega)
  rw [← Lib.decode_at, get_bAt h] at hd
  refine ⟨hd.1, fun hb => ?_⟩
  obtain ⟨h1, h2, h3, h4, h5, h6, h7⟩ := hd.2 hb
  refine ⟨h1, h2, by omega, fun j hj => ?_⟩
  match j with
  | 0 => exact hb
  | 1 => rw [← get_bAt (by omega)]; exact h5 (by omega)
  | 2 => rw [← get_bAt (by omega)]; exact h6 (by omega)
  | 3 => rw [← get_bAt (by omega)]; exact h7 (by omega)
  | j + 4 => omega
theorem wds_run {s : ByteArray} {f : Nat} : ∀ (n k : Nat), k + n ≤ s.size → (∀ j, j < n → bAt s (k + j) ≠ 32) → wds s f k = wds s f (k + n)
  | 0, k, _, _ => rfl
  | n + 1, k, h, hb => by
    rw [wds_more (k := k) (by omega) (by simpa using hb 0 (by omega)), wds_run n (k + 1) (by omega) (fun j hj => by have := hb (j + 1) (by omega); rwa [show k + (j + 1) = k + 1 + j by omega] at this), show k + 1 + n = k + (n + 1) by omega]
def isSp32 (r : Nat) : Bool := decide (r = 32)
/-- where the word under way begins -/
def stF (st : Option Nat) (k : Nat) : Nat := st.getD k
theorem spans_eq (s : ByteArray) : ∀ (fuel k : Nat) (st : Option Nat) (acc : List (Nat × Nat)), s.size - k ≤ fuel → k ≤ s.size → (∀ a, st = some a → a < k) →
    (Lib.closeSpans s (Lib.spansFromP isSp32 s fuel k st acc)).map (fun x => s.extract x.1 x.2) = acc.map (fun x => s.extract x.1 x.2) ++ wds s (stF st k) k
  | fuel, k, st, acc, hf, hk, hst => by
    by_cases hlt : k < s.size
    · match fuel with
      | 0 => omega
      | fuel + 1 =>
        obtain ⟨r1, r2⟩ := rune_at hlt
        unfold Lib.spansFromP
        rw [if_pos hlt]
        by_cases hb : bAt s k = 32
        · rw [r1 hb]
          simp only [isSp32, decide_true, if_true]
          match st, hst with
          | some a, hst =>
            simp only
            rw [spans_eq s fuel (k + 1) none _ (by omega) (by omega) (fun _ h => by cases h)]
            rw [show wds s (stF (some a) k) k = s.extract a k :: wds s (k + 1) (k + 1) from wds_word hk hb (hst a rfl)]
            simp [stF]
          | none, hst =>
            simp only
            rw [spans_eq s fuel (k + 1) none _ (by omega) (by omega) (fun _ h => by cases h)]
            rw [show wds s (stF none k) k = wds s (k + 1) (k + 1) from wds_skip hk hb (by simp [stF])]
            simp [stF]
        · obtain ⟨q1, q2, q3, q4⟩ := r2 hb
          have hp : isSp32 (Utf8.decode s k).1 = false := by simp [isSp32, q1]
          rw [hp]
          simp only [Bool.false_eq_true, if_false]
          match st, hst with
          | some a, hst =>
            simp only
            rw [spans_eq s fuel _ (some a) _ (by omega) q3 (fun b h => by cases h; have := hst a rfl; omega)]
            rw [show wds s (stF (some a) k) k = wds s a (k + (Utf8.decode s k).2) from wds_run _ _ q3 q4]
            rfl
          | none, hst =>
            simp only
            rw [spans_eq s fuel _ (some k) _ (by omega) q3 (fun b h => by cases h; omega)]
            rw [show wds s (stF none k) k = wds s k (k + (Utf8.decode s k).2) from wds_run _ _ q3 q4]
            rfl
    · have hke : k = s.size := by omega
      subst hke
      rw [Lib.spansFromP_end _ _ _ _ _ _ (by omega)]
      have hb : bAt s s.size = 32 := by unfold bAt; rw [dif_neg (by omega)]
      match st, hst with
      | some a, hst =>
        rw [show wds s (stF (some a) s.size) s.size = s.extract a s.size :: wds s (s.size + 1) (s.size + 1) from wds_word (Nat.le_refl _) hb (hst a rfl), wds_end (by omega)]
        simp [Lib.closeSpans]
      | none, hst =>
        rw [show wds s (stF none s.size) s.size = wds s (s.size + 1) (s.size + 1) from wds_skip (Nat.le_refl _) hb (by simp [stF]), wds_end (by omega)]
        simp [Lib.closeSpans]
theorem fields_eq (s : ByteArray) : Lib.goFieldsP isSp32 s = wds s 0 0 := by
  unfold Lib.goFieldsP Lib.spansOfP
  rw [spans_eq s s.size 0 none [] (by omega) (by omega) (fun _ h => by cases h)]
  rfl
end Go.Proofs.Ythoobnepcbbdeaa
