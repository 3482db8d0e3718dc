/- spec.SplitWords: a line's words. -/
import Derived.Test.YtcbifdfcllaaaaaGreatDoorStrS
import Derived.Test.YtcbifdfcllaaaaaGreatDoorStrO
import Derived.Deep.DeepCutAuto
import Derived.Lib.FieldsP
import Derived.Lib.DecodeN
import Derived.Test.YtcbifdfcllaaaaaGreatDoorLayFF
namespace Go.Proofs.YtcbifdfcllaaaaaGreatDoor
open Go.RowKit Go.Deep
set_option linter.unusedVariables false
set_option linter.unusedSimpArgs false

/-- the byte at a place; behind the last: a space -/
def bAt (s : ByteArray) (k : Nat) : Nat := if h : k < s.size then s[k].toNat else 32
/-- the words from place k on; the one under way begins at f -/
def wds (s : ByteArray) (f k : Nat) : List ByteArray :=
  if h : k ≤ s.size then
    (if bAt s k = 32 then (if f < k then s.extract f k :: wds s (k + 1) (k + 1) else wds s (k + 1) (k + 1)) else wds s f (k + 1))
  else []
termination_by s.size + 1 - k
theorem wds_end {s : ByteArray} {f k : Nat} (h : s.size < k) : wds s f k = [] := by rw [wds, dif_neg (by omega)]
theorem wds_word {s : ByteArray} {f k : Nat} (h : k ≤ s.size) (hb : bAt s k = 32) (hf : f < k) : wds s f k = s.extract f k :: wds s (k + 1) (k + 1) := by rw [wds, dif_pos h, if_pos hb, if_pos hf]
theorem wds_skip {s : ByteArray} {f k : Nat} (h : k ≤ s.size) (hb : bAt s k = 32) (hf : ¬ f < k) : wds s f k = wds s (k + 1) (k + 1) := by rw [wds, dif_pos h, if_pos hb, if_neg hf]
theorem wds_more {s : ByteArray} {f k : Nat} (h : k ≤ s.size) (hb : bAt s k ≠ 32) : wds s f k = wds s f (k + 1) := by rw [wds, dif_pos h, if_neg hb]

set_option maxRecDepth 20000 in
set_option maxHeartbeats 4000000 in
theorem c_l05Words (s : ByteArray) (w : World) (hs : s.size ≤ 1048576) : Calls Tryz.prog 18 #[.string s] w (GivesRow w 9 1 (wds s 0 0).length ((wds s 0 0).map Value.string)) := by
  go_enter Tryz.func18, Tryz.ntmps18
  go_wp2
  go_loopw [3, 4, 5] (fun v fr i wr => ∃ (f k : Nat) (P : List ByteArray), f ≤ k ∧ k ≤ s.size + 1 ∧ fr = .int .i64 f ∧ i = .int .i64 k ∧ Hid (wds s 0 0 = P ++ wds s f k) ∧ P.length ≤ k ∧ wr.ownsRow w.heap.size 9 1 v P.length (P.map Value.string) ∧ New w wr) (fun _ _ i _ => s.size + 1 - (intOf i).toNat)
  case atStart => exact ⟨0, 0, [], Nat.le_refl _, Nat.zero_le _, rfl, rfl, Lib.hid rfl, Nat.le_refl _, World.ownsRow_made w #[] 0 (Nat.le_refl _) (by omega) rfl, (New.same _).box _⟩
  case round =>
    obtain ⟨f, k, P, hfk, hk, rfl, rfl, HS, hP, hown, hN⟩ := hrel
    obtain ⟨Ar, cr, rfl⟩ := own_sl hown
    have hz2 : w.heap.size ≤ wr.heap.size := hN.size
    by_cases hle : k ≤ s.size
    · by_cases hb : bAt s k = 32
      · have hcase : (k = s.size) ∨ (k < s.size) := by omega
        by_cases hf : f < k
        · have HQ := Lib.hid (show wds s 0 0 = (P ++ [s.extract f k]) ++ wds s (k + 1) (k + 1) by rw [HS.out, wds_word hle hb hf]; simp)
          have hf2 : decide ((f : Int) < (k : Int)) = true := by simp; omega
          rcases hcase with hke | hlt
          · subst hke
            clear hb
            go_wp2_with (at_builtin; refine wpList_app1 rfl _ _ rfl row_Str _ w.heap.size hown rfl [.string (s.extract f s.size)] rfl rfl (by simp [Value.oneCell']) (by unfold maxLen; omega) (by omega) hz2 ?_; intro v1 w3 hown1 hb3 _ _)
            go_roundw
            case rel => exact ⟨s.size + 1, s.size + 1, P ++ [s.extract f s.size], Nat.le_refl _, by omega, by go_num, by go_num, HQ, by simp; omega, by rw [List.map_append, List.length_append]; exact hown1, hN.trans (hb3.mono (by omega))⟩
            case measure => simp [intOf] <;> omega
          · have hbb : (s[k].toNat : Int) = 32 := by have := hb; unfold bAt at this; rw [dif_pos hlt] at this; omega
            have he1 : ((k : Int) == (s.size : Int)) = false := by rw [beq_eq_false_iff_ne]; omega
            have he2 : decide ((k : Int) = (s.size : Int)) = false := by simp; omega
            have hg1 : ((s[k].toNat : Int) == 32) = true := by simpa using hbb
            have hg2 : decide ((s[k].toNat : Int) = 32) = true := by simpa using hbb
            clear hb hbb
            go_wp2_with (at_builtin; refine wpList_app1 rfl _ _ rfl row_Str _ w.heap.size hown rfl [.string (s.extract f k)] rfl rfl (by simp [Value.oneCell']) (by unfold maxLen; omega) (by omega) hz2 ?_; intro v1 w3 hown1 hb3 _ _)
            go_roundw
            case rel => exact ⟨k + 1, k + 1, P ++ [s.extract f k], Nat.le_refl _, by omega, by go_num, by go_num, HQ, by simp; omega, by rw [List.map_append, List.length_append]; exact hown1, hN.trans (hb3.mono (by omega))⟩
            case measure => simp [intOf] <;> omega
        · have HQ := Lib.hid (show wds s 0 0 = P ++ wds s (k + 1) (k + 1) by rw [HS.out, wds_skip hle hb hf])
          have hf2 : decide ((f : Int) < (k : Int)) = false := by simp; omega
          rcases hcase with hke | hlt
          · have he1 : ((k : Int) == (s.size : Int)) = true := by simp; omega
            have he2 : decide ((k : Int) = (s.size : Int)) = true := by simp; omega
            clear hb
            go_wp2
            go_roundw
            case rel => exact ⟨k + 1, k + 1, P, Nat.le_refl _, by omega, by go_num, by go_num, HQ, by omega, hown, hN⟩
            case measure => simp [intOf] <;> omega
          · have hbb : (s[k].toNat : Int) = 32 := by have := hb; unfold bAt at this; rw [dif_pos hlt] at this; omega
            have he1 : ((k : Int) == (s.size : Int)) = false := by rw [beq_eq_false_iff_ne]; omega
            have he2 : decide ((k : Int) = (s.size : Int)) = false := by simp; omega
            have hg1 : ((s[k].toNat : Int) == 32) = true := by simpa using hbb
            have hg2 : decide ((s[k].toNat : Int) = 32) = true := by simpa using hbb
            clear hb hbb
            go_wp2
            go_roundw
            case rel => exact ⟨k + 1, k + 1, P, Nat.le_refl _, by omega, by go_num, by go_num, HQ, by omega, hown, hN⟩
            case measure => simp [intOf] <;> omega
      · have hlt : k < s.size := by
          rcases Nat.lt_or_ge k s.size with h | h
          · exact h
          · exact absurd (show bAt s k = 32 by unfold bAt; rw [dif_neg (by omega)]) hb
        have HQ := Lib.hid (show wds s 0 0 = P ++ wds s f (k + 1) by rw [HS.out, wds_more hle hb])
        have hbb : (s[k].toNat : Int) ≠ 32 := by have := hb; unfold bAt at this; rw [dif_pos hlt] at this; omega
        have he1 : ((k : Int) == (s.size : Int)) = false := by rw [beq_eq_false_iff_ne]; omega
        have he2 : decide ((k : Int) = (s.size : Int)) = false := by simp; omega
        have hg1 : ((s[k].toNat : Int) == 32) = false := by simpa using hbb
        have hg2 : decide ((s[k].toNat : Int) = 32) = false := by simpa using hbb
        clear hb hbb
        go_wp2
        go_roundw
        case rel => exact ⟨f, k + 1, P, by omega, by omega, rfl, by go_num, HQ, by omega, hown, hN⟩
        case measure => simp [intOf] <;> omega
    · have HQ := Lib.hid (show wds s 0 0 = P by rw [HS.out, wds_end (by omega), List.append_nil])
      have hk2 : decide ((k : Int) ≤ (s.size : Int)) = false := by simp; omega
      go_wp2
      go_ret
      rw [HQ.out]
      exact ⟨_, rfl, Own.of hown, hN⟩
end Go.Proofs.YtcbifdfcllaaaaaGreatDoor

/- The library's fields at spaces are the line's words. Plain lemmas. -/
namespace Go.Proofs.YtcbifdfcllaaaaaGreatDoor
open Go.RowKit

theorem dec_cases (n b0 b1 b2 b3 : Nat) (hn : 1 ≤ n) : (b0 = 32 → Lib.decodeN n b0 b1 b2 b3 = (32, 1)) ∧
    (b0 ≠ 32 → (Lib.decodeN n b0 b1 b2 b3).1 ≠ 32 ∧ 1 ≤ (Lib.decodeN n b0 b1 b2 b3).2 ∧ (Lib.decodeN n b0 b1 b2 b3).2 ≤ n ∧ (Lib.decodeN n b0 b1 b2 b3).2 ≤ 4 ∧
      (2 ≤ (Lib.decodeN n b0 b1 b2 b3).2 → b1 ≠ 32) ∧ (3 ≤ (Lib.decodeN n b0 b1 b2 b3).2 → b2 ≠ 32) ∧ (4 ≤ (Lib.decodeN n b0 b1 b2 b3).2 → b3 ≠ 32)) := by
  refine ⟨fun h => by subst h; simp [Lib.decodeN], fun h => ?_⟩
  unfold Lib.decodeN
  repeat' split
  all_goals (simp only; omega)
theorem get_bAt {s : ByteArray} {k : Nat} (h : k < s.size) : (s.get! k).toNat = bAt s k := by
  have h' : k < s.data.size := h
  unfold bAt
  rw [dif_pos h]
  congr 1
  show s.data[k]! = s.data[k]
  exact getElem!_pos s.data k h'
/-- one rune: a space is one byte, 32; another rune holds no such byte -/
theorem rune_at {s : ByteArray} {k : Nat} (h : k < s.size) : (bAt s k = 32 → Utf8.decode s k = (32, 1)) ∧
    (bAt s k ≠ 32 → (Utf8.decode s k).1 ≠ 32 ∧ 1 ≤ (Utf8.decode s k).2 ∧ k + (Utf8.decode s k).2 ≤ s.size ∧ ∀ j, j < (Utf8.decode s k).2 → bAt s (k + j) ≠ 32) := by
  have hd := dec_cases (s.size - k) (s.get! k).toNat (s.get! (k + 1)).toNat (s.get! (k + 2)).toNat (s.get! (k + 3)).toNat (by omega)
  rw [← Lib.decode_at, get_bAt h] at hd
  refine ⟨hd.1, fun hb => ?_⟩
  obtain ⟨h1, h2, h3, h4, h5, h6, h7⟩ := hd.2 hb
  refine ⟨h1, h2, by omega, fun j hj => ?_⟩
  match j with
  | 0 => exact hb
  | 1 => rw [← get_bAt (by omega)]; exact h5 (by omega)
  | 2 => rw [← get_bAt (by omega)]; exact h6 (by omega)
  | 3 => rw [← get_bAt (by omega)]; exact h7 (by omega)
  | j + 4 => omega
theorem wds_run {s : ByteArray} {f : Nat} : ∀ (n k : Nat), k + n ≤ s.size → (∀ j, j < n → bAt s (k + j) ≠ 32) → wds s f k = wds s f (k + n)
  | 0, k, _, _ => rfl
  | n + 1, k, h, hb => by
    rw [wds_more (k := k) (by omega) (by simpa using hb 0 (by omega)), wds_run n (k + 1) (by omega) (fun j hj => by have := hb (j + 1) (by omega); rwa [show k + (j + 1) = k + 1 + j by omega] at this), show k + 1 + n = k + (n + 1) by omega]
def isSp32 (r : Nat) : Bool := decide (r = 32)
/-- where the word under way begins -/
def stF (st : Option Nat) (k : Nat) : Nat := st.getD k
theorem spans_eq (s : ByteArray) : ∀ (fuel k : Nat) (st : Option Nat) (acc : List (Nat × Nat)), s.size - k ≤ fuel → k ≤ s.size → (∀ a, st = some a → a < k) →
    (Lib.closeSpans s (Lib.spansFromP isSp32 s fuel k st acc)).map (fun x => s.extract x.1 x.2) = acc.map (fun x => s.extract x.1 x.2) ++ wds s (stF st k) k
  | fuel, k, st, acc, hf, hk, hst => by
    by_cases hlt : k < s.size
    · match fuel with
      | 0 => omega
      | fuel + 1 =>
        obtain ⟨r1, r2⟩ := rune_at hlt
        unfold Lib.spansFromP
        rw [if_pos hlt]
        by_cases hb : bAt s k = 32
        · rw [r1 hb]
          simp only [isSp32, decide_true, if_true]
          match st, hst with
          | some a, hst =>
            simp only
            rw [spans_eq s fuel (k + 1) none _ (by omega) (by omega) (fun _ h => by cases h)]
            rw [show wds s (stF (some a) k) k = s.extract a k :: wds s (k + 1) (k + 1) from wds_word hk hb (hst a rfl)]
            simp [stF]
          | none, hst =>
            simp only
            rw [spans_eq s fuel (k + 1) none _ (by omega) (by omega) (fun _ h => by cases h)]
            rw [show wds s (stF none k) k = wds s (k + 1) (k + 1) from wds_skip hk hb (by simp [stF])]
            simp [stF]
        · obtain ⟨q1, q2, q3, q4⟩ := r2 hb
          have hp : isSp32 (Utf8.decode s k).1 = false := by simp [isSp32, q1]
          rw [hp]
          simp only [Bool.false_eq_true, if_false]
          match st, hst with
          | some a, hst =>
            simp only
            rw [spans_eq s fuel _ (some a) _ (by omega) q3 (fun b h => by cases h; have := hst a rfl; omega)]
            rw [show wds s (stF (some a) k) k = wds s a (k + (Utf8.decode s k).2) from wds_run _ _ q3 q4]
            rfl
          | none, hst =>
            simp only
            rw [spans_eq s fuel _ (some k) _ (by omega) q3 (fun b h => by cases h; omega)]
            rw [show wds s (stF none k) k = wds s k (k + (Utf8.decode s k).2) from wds_run _ _ q3 q4]
            rfl
    · have hke : k = s.size := by omega
      subst hke
      rw [Lib.spansFromP_end _ _ _ _ _ _ (by omega)]
      have hb : bAt s s.size = 32 := by unfold bAt; rw [dif_neg (by omega)]
      match st, hst with
      | some a, hst =>
        rw [show wds s (stF (some a) s.size) s.size = s.extract a s.size :: wds s (s.size + 1) (s.size + 1) from wds_word (Nat.le_refl _) hb (hst a rfl), wds_end (by omega)]
        simp [Lib.closeSpans]
      | none, hst =>
        rw [show wds s (stF none s.size) s.size = wds s (s.size + 1) (s.size + 1) from wds_skip (Nat.le_refl _) hb (by simp [stF]), wds_end (by omega)]
        simp [Lib.closeSpans]
theorem fields_eq (s : ByteArray) : Lib.goFieldsP isSp32 s = wds s 0 0 := by
  unfold Lib.goFieldsP Lib.spansOfP
  rw [spans_eq s s.size 0 none [] (by omega) (by omega) (fun _ h => by cases h)]
  rfl
end Go.Proofs.YtcbifdfcllaaaaaGreatDoor

/- SplitWords: both sides give the line's words. -/
namespace Go.Proofs.YtcbifdfcllaaaaaGreatDoor
open Go.RowKit Go.Deep
set_option linter.unusedVariables false
set_option linter.unusedSimpArgs false

theorem wds_len (s : ByteArray) : ∀ (n f k : Nat), s.size + 1 - k ≤ n → (wds s f k).length ≤ n
  | 0, f, k, h => by rw [wds_end (by omega)]; simp
  | n + 1, f, k, h => by
    have h1 := wds_len s n (k + 1) (k + 1) (by omega)
    have h2 := wds_len s n f (k + 1) (by omega)
    rw [wds]
    split
    · split
      · split
        · simp only [List.length_cons]; omega
        · omega
      · omega
    · simp
theorem c_isSpace (x : Nat) (w : World) : Calls Tryz.prog 75 #[.int .i32 x] w fun e w' => e = .returned (.bool (isSp32 x)) ∧ ∃ q, w' = w.drewN q := by
  cases h : isSp32 x
  · have h1 : ((x : Int) == 32) = false := by have : x ≠ 32 := by simpa [isSp32] using h
                                              rw [beq_eq_false_iff_ne]; omega
    go_enter Tryz.func75, Tryz.ntmps75
    go_wp2
    go_ret
    exact ⟨ret_bool (by simp), 0, rfl⟩
  · have h1 : ((x : Int) == 32) = true := by have : x = 32 := by simpa [isSp32] using h
                                             subst this; rfl
    go_enter Tryz.func75, Tryz.ntmps75
    go_wp2
    go_ret
    exact ⟨ret_bool (by simp), 0, rfl⟩
theorem c_FieldsFunc (s : ByteArray) (w : World) (hs : s.size ≤ 1048576) : Calls Tryz.prog 74 #[.string s, .func (.func 75) #[] #[]] w (GivesRow w 9 1 (wds s 0 0).length ((wds s 0 0).map Value.string)) := by
  have h := Any.strings_FieldsFunc_runes Tryz.lays229 75 #[] (enters_of Tryz.func75 (by kernel_rfl) rfl) isSp32 s w (by omega) (fun W x _ _ => c_isSpace x W) (by kernel_rfl) (by kernel_rfl)
  rw [fields_eq] at h
  refine Calls.mono (P := Tryz.prog) (f := 74) h ?_
  rintro e w' ⟨A, rfl, _, ho, hb⟩
  exact ⟨_, rfl, Own.of ho, hb⟩
theorem c_implSplitWords (s : ByteArray) (w : World) (hs : s.size ≤ 1048576) : Calls Tryz.prog 49 #[.string s] w (GivesRow w 9 1 (wds s 0 0).length ((wds s 0 0).map Value.string)) := by
  have HC := Lib.hid (c_FieldsFunc s w hs)
  go_enter Tryz.func49, Tryz.ntmps49
  go_wp2_with (go_at_call 74; refine HC.out.mono ?_; rintro e w1 ⟨v, rfl, hO, n1⟩)
  go_ret
  exact ⟨v, rfl, hO, n1⟩
end Go.Proofs.YtcbifdfcllaaaaaGreatDoor
