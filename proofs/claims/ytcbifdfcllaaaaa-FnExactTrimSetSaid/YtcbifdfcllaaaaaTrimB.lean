/- How large a trimmed set is. Plain. -/
import Derived.Test.YtcbifdfcllaaaaaTrimP
namespace Go.Proofs.Ytcbifdfcllaaaaa
open Go.RowKit Go.Deep
set_option linter.unusedVariables false
set_option linter.unusedSimpArgs false

theorem oT_sides {T : List (ByteArray × List Int)} (h4 : ∀ k (hk : k < T.length), T[k].2.length = 4) : ∀ n, n ≤ T.length → ∀ t ∈ oT T n, t.2.length ≤ 4
  | 0, _, t, ht => by simp [oT_zero] at ht
  | n + 1, h, t, ht => by
    have ih := oT_sides h4 n (by omega)
    have h4n := h4 n (by omega)
    by_cases hi : lkF T n (trS T T[n].2) < 0
    · rw [(o_new (T := T) (n := n) (by omega) hi).1, List.mem_append] at ht
      rcases ht with ht | ht
      · exact ih t ht
      · simp at ht
        subst ht
        simp [trS, h4n]
    · rw [(o_old (T := T) (n := n) (by omega) hi).1] at ht
      exact ih t ht
theorem tm_bounds (G : List (ByteArray × Int)) (T : List (ByteArray × List Int)) : (tmG G T).length ≤ 200 ∧ (tmT G T).length ≤ 160 ∧ (tmA G T).length ≤ 160 ∧ ∀ t ∈ tmT G T, t.2.length ≤ 4 := by
  unfold tmG tmT tmA
  cases hs : setB G T
  · simp
  · have ⟨i1, i2, i3, i4⟩ := set_in hs
    have h1 := oT_le T T.length (Nat.le_refl _)
    have h2 := kpN_le T G.length
    simp only [if_true]
    exact ⟨by rw [oG_len]; omega, by omega, by omega, oT_sides (fun k hk => (i4 k hk).1) T.length (Nat.le_refl _)⟩
end Go.Proofs.Ytcbifdfcllaaaaa
