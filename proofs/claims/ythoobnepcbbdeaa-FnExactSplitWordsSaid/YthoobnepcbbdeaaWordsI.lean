/- SplitWords: both sides give the line's words. -/
import Derived.Test.YthoobnepcbbdeaaWordsP
import Derived.Test.YthoobnepcbbdeaaLayFF
namespace Go.Proofs.Ythoobnepcbbdeaa
open Go.RowKit Go.Deep
set_option linter.unusedVariables false
set_option linter.unusedSimpArgs false

theorem wds_len (s : ByteArray) : ∀ (n f k : Nat), s.size + 1 - k ≤ n → (wds s f k).length ≤ n
  | 0, f, k, h => by rw [wds_end (by omega)]; simp
  | n + 1, f, k, h => by
    have h1 := wds_len s n (k + 1) (k + 1) (by omega)
    have h2 := wds_len s n f (k + 1) (by omega)
    rw [wds]
    split
    · split
      · split
        · simp only [List.length_cons]; omega
        · omega
      · omega
    · simp
theorem c_specSplitWords (s : ByteArray) (w : World) (hs : s.size ≤ 1048576) : Calls Try.prog 5 #[.string s] w (GivesRow w 9 1 (wds s 0 0).length ((wds s 0 0).map Value.string)) := by
  have HC := Lib.hid (c_l05Words s w hs)
  go_enter Try.func5, Try.ntmps5
  go_wp2_with (go_at_call 12; refine HC.out.mono ?_; rintro e w1 ⟨v, rfl, hO, n1⟩)
  go_ret
  exact ⟨v, rfl, hO, n1⟩
theorem c_isSpace (x : Nat) (w : World) : Calls Try.prog 14 #[.int .i32 x] w fun e w' => e = .returned (.bool (isSp32 x)) ∧ ∃ q, w' = w.drewN q := by
  cases h : isSp32 x
  · have h1 : ((x : Int) == 32) = false := by have : x ≠ 32 := by simpa [isSp32] using h
                                              rw [beq_eq_false_iff_ne]; omega
    go_enter Try.func14, Try.ntmps14
    go_wp2
    go_ret
    exact ⟨ret_bool (by simp), 0, rfl⟩
  · have h1 : ((x : Int) == 32) = true := by have : x = 32 := by simpa [isSp32] using h
                                             subst this; rfl
    go_enter Try.func14, Try.ntmps14
    go_wp2
    go_ret
    exact ⟨ret_bool (by simp), 0, rfl⟩
theorem c_FieldsFunc (s : ByteArray) (w : World) (hs : s.size ≤ 1048576) : Calls Try.prog 13 #[.string s, .func (.func 14) #[] #[]] w (GivesRow w 9 1 (wds s 0 0).length ((wds s 0 0).map Value.string)) := by
  have h := Any.strings_FieldsFunc_runes Try.lays229 14 #[] (enters_of Try.func14 (by kernel_rfl) rfl) isSp32 s w (by omega) (fun W x _ _ => c_isSpace x W) (by kernel_rfl) (by kernel_rfl)
  rw [fields_eq] at h
  refine Calls.mono (P := Try.prog) (f := 13) h ?_
  rintro e w' ⟨A, rfl, _, ho, hb⟩
  exact ⟨_, rfl, Own.of ho, hb⟩
theorem c_implSplitWords (s : ByteArray) (w : World) (hs : s.size ≤ 1048576) : Calls Try.prog 6 #[.string s] w (GivesRow w 9 1 (wds s 0 0).length ((wds s 0 0).map Value.string)) := by
  have HC := Lib.hid (c_FieldsFunc s w hs)
  go_enter Try.func6, Try.ntmps6
  go_wp2_with (go_at_call 13; refine HC.out.mono ?_; rintro e w1 ⟨v, rfl, hO, n1⟩)
  go_ret
  exact ⟨v, rfl, hO, n1⟩
end Go.Proofs.Ythoobnepcbbdeaa
