/- spec.SplitWords: a line's words. -/
import Derived.Test.YthoobnepcbbdeaaStrS
import Derived.Deep.DeepCutAuto
namespace Go.Proofs.Ythoobnepcbbdeaa
open Go.RowKit Go.Deep
set_option linter.unusedVariables false
set_option linter.unusedSimpArgs false

/-- the byte at a place; behind the last: a space -/
def bAt (s : ByteArray) (k : Nat) : Nat := if h : k < s.size then s[k].toNat else 32
/-- the words from place k on; the one under way begins at f -/
def wds (s : ByteArray) (f k : Nat) : List ByteArray :=
  if h : k ≤ s.size then
    (if bAt s k = 32 then (if f < k then s.extract f k :: wds s (k + 1) (k + 1) else wds s (k + 1) (k + 1)) else wds s f (k + 1))
  else []
termination_by s.size + 1 - k
theorem wds_end {s : ByteArray} {f k : Nat} (h : s.size < k) : wds s f k = [] := by rw [wds, dif_neg (by omega)]
theorem wds_word {s : ByteArray} {f k : Nat} (h : k ≤ s.size) (hb : bAt s k = 32) (hf : f < k) : wds s f k = s.extract f k :: wds s (k + 1) (k + 1) := by rw [wds, dif_pos h, if_pos hb, if_pos hf]
theorem wds_skip {s : ByteArray} {f k : Nat} (h : k ≤ s.size) (hb : bAt s k = 32) (hf : ¬ f < k) : wds s f k = wds s (k + 1) (k + 1) := by rw [wds, dif_pos h, if_pos hb, if_neg hf]
theorem wds_more {s : ByteArray} {f k : Nat} (h : k ≤ s.size) (hb : bAt s k ≠ 32) : wds s f k = wds s f (k + 1) := by rw [wds, dif_pos h, if_neg hb]
theorem own_sl {w : World} {base : Nat} {e : TypeId} {v : Value} {n : Nat} {xs : List Value} (h : w.ownsRow base e 1 v n xs) : ∃ A c, v = .slice A n c := by
  obtain ⟨_, _, _, A, c, rfl, _⟩ := (Own.of h).rd
  exact ⟨A, c, rfl⟩
theorem info_Str : (Try.prog.info? 9).map (fun i => (i.zero, i.size, i.bytes)) = some (some (.string ⟨#[]⟩), 1, 16) := by kernel_rfl
theorem row_Str : ElemRow Try.prog 22 9 1 16 := elemRow Try.underlying22 info_Str rfl (by omega)

set_option maxRecDepth 20000 in
set_option maxHeartbeats 4000000 in
theorem c_l05Words (s : ByteArray) (w : World) (hs : s.size ≤ 1048576) : Calls Try.prog 12 #[.string s] w (GivesRow w 9 1 (wds s 0 0).length ((wds s 0 0).map Value.string)) := by
  go_enter Try.func12, Try.ntmps12
  go_wp2
  go_loopw [3, 4, 5] (fun v fr i wr => ∃ (f k : Nat) (P : List ByteArray), f ≤ k ∧ k ≤ s.size + 1 ∧ fr = .int .i64 f ∧ i = .int .i64 k ∧ Hid (wds s 0 0 = P ++ wds s f k) ∧ P.length ≤ k ∧ wr.ownsRow w.heap.size 9 1 v P.length (P.map Value.string) ∧ New w wr) (fun _ _ i _ => s.size + 1 - (intOf i).toNat)
  case atStart => exact ⟨0, 0, [], Nat.le_refl _, Nat.zero_le _, rfl, rfl, Lib.hid rfl, Nat.le_refl _, World.ownsRow_made w #[] 0 (Nat.le_refl _) (by omega) rfl, (New.same _).box _⟩
  case round =>
    obtain ⟨f, k, P, hfk, hk, rfl, rfl, HS, hP, hown, hN⟩ := hrel
    obtain ⟨Ar, cr, rfl⟩ := own_sl hown
    have hz2 : w.heap.size ≤ wr.heap.size := hN.size
    by_cases hle : k ≤ s.size
    · by_cases hb : bAt s k = 32
      · have hcase : (k = s.size) ∨ (k < s.size) := by omega
        by_cases hf : f < k
        · have HQ := Lib.hid (show wds s 0 0 = (P ++ [s.extract f k]) ++ wds s (k + 1) (k + 1) by rw [HS.out, wds_word hle hb hf]; simp)
          have hf2 : decide ((f : Int) < (k : Int)) = true := by simp; omega
          rcases hcase with hke | hlt
          · subst hke
            clear hb
            go_wp2_with (at_builtin; refine wpList_app1 rfl _ _ rfl row_Str _ w.heap.size hown rfl [.string (s.extract f s.size)] rfl rfl (by simp [Value.oneCell']) (by unfold maxLen; omega) (by omega) hz2 ?_; intro v1 w3 hown1 hb3 _ _)
            go_roundw
            case rel => exact ⟨s.size + 1, s.size + 1, P ++ [s.extract f s.size], Nat.le_refl _, by omega, by go_num, by go_num, HQ, by simp; omega, by rw [List.map_append, List.length_append]; exact hown1, hN.trans (hb3.mono (by omega))⟩
            case measure => simp [intOf] <;> omega
          · have hbb : (s[k].toNat : Int) = 32 := by have := hb; unfold bAt at this; rw [dif_pos hlt] at this; omega
            have he1 : ((k : Int) == (s.size : Int)) = false := by rw [beq_eq_false_iff_ne]; omega
            have he2 : decide ((k : Int) = (s.size : Int)) = false := by simp; omega
            have hg1 : ((s[k].toNat : Int) == 32) = true := by simpa using hbb
            have hg2 : decide ((s[k].toNat : Int) = 32) = true := by simpa using hbb
            clear hb hbb
            go_wp2_with (at_builtin; refine wpList_app1 rfl _ _ rfl row_Str _ w.heap.size hown rfl [.string (s.extract f k)] rfl rfl (by simp [Value.oneCell']) (by unfold maxLen; omega) (by omega) hz2 ?_; intro v1 w3 hown1 hb3 _ _)
            go_roundw
            case rel => exact ⟨k + 1, k + 1, P ++ [s.extract f k], Nat.le_refl _, by omega, by go_num, by go_num, HQ, by simp; omega, by rw [List.map_append, List.length_append]; exact hown1, hN.trans (hb3.mono (by omega))⟩
            case measure => simp [intOf] <;> omega
        · have HQ := Lib.hid (show wds s 0 0 = P ++ wds s (k + 1) (k + 1) by rw [HS.out, wds_skip hle hb hf])
          have hf2 : decide ((f : Int) < (k : Int)) = false := by simp; omega
          rcases hcase with hke | hlt
          · have he1 : ((k : Int) == (s.size : Int)) = true := by simp; omega
            have he2 : decide ((k : Int) = (s.size : Int)) = true := by simp; omega
            clear hb
            go_wp2
            go_roundw
            case rel => exact ⟨k + 1, k + 1, P, Nat.le_refl _, by omega, by go_num, by go_num, HQ, by omega, hown, hN⟩
            case measure => simp [intOf] <;> omega
          · have hbb : (s[k].toNat : Int) = 32 := by have := hb; unfold bAt at this; rw [dif_pos hlt] at this; omega
            have he1 : ((k : Int) == (s.size : Int)) = false := by rw [beq_eq_false_iff_ne]; omega
            have he2 : decide ((k : Int) = (s.size : Int)) = false := by simp; omega
            have hg1 : ((s[k].toNat : Int) == 32) = true := by simpa using hbb
            have hg2 : decide ((s[k].toNat : Int) = 32) = true := by simpa using hbb
            clear hb hbb
            go_wp2
            go_roundw
            case rel => exact ⟨k + 1, k + 1, P, Nat.le_refl _, by omega, by go_num, by go_num, HQ, by omega, hown, hN⟩
            case measure => simp [intOf] <;> omega
      · have hlt : k < s.size := by
          rcases Nat.lt_or_ge k s.size with h | h
          · exact h
          · exact absurd (show bAt s k = 32 by unfold bAt; rw [dif_neg (by omega)]) hb
        have HQ := Lib.hid (show wds s 0 0 = P ++ wds s f (k + 1) by rw [HS.out, wds_more hle hb])
        have hbb : (s[k].toNat : Int) ≠ 32 := by have := hb; unfold bAt at this; rw [dif_pos hlt] at this; omega
        have he1 : ((k : Int) == (s.size : Int)) = false := by rw [beq_eq_false_iff_ne]; omega
        have he2 : decide ((k : Int) = (s.size : Int)) = false := by simp; omega
        have hg1 : ((s[k].toNat : Int) == 32) = false := by simpa using hbb
        have hg2 : decide ((s[k].toNat : Int) = 32) = false := by simpa using hbb
        clear hb hbb
        go_wp2
        go_roundw
        case rel => exact ⟨f, k + 1, P, by omega, by omega, rfl, by go_num, HQ, by omega, hown, hN⟩
        case measure => simp [intOf] <;> omega
    · have HQ := Lib.hid (show wds s 0 0 = P by rw [HS.out, wds_end (by omega), List.append_nil])
      have hk2 : decide ((k : Int) ≤ (s.size : Int)) = false := by simp; omega
      go_wp2
      go_ret
      rw [HQ.out]
      exact ⟨_, rfl, Own.of hown, hN⟩
end Go.Proofs.Ythoobnepcbbdeaa
