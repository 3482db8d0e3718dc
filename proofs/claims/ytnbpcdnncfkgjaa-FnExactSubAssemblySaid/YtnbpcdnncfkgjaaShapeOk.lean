/- Contracts of the two tests of a shape. -/
import Derived.Test.YtnbpcdnncfkgjaaKeep
import Derived.Test.YtnbpcdnncfkgjaaLater
import Derived.Deep.DeepCutAuto
namespace Go.Proofs.Ytnbpcdnncfkgjaa
open Go.RowKit
set_option linter.unusedVariables false
set_option linter.unusedSimpArgs false

theorem shp_chn {zs : List (Int × Int)} (h0 : 1 ≤ zs.length) (h1 : zs.length ≤ 500) : shpB zs = chnB zs := by
  unfold shpB; rw [inB_yes (by omega) (by omega)]; simp
theorem shp_no {zs : List (Int × Int)} (h : zs.length < 1 ∨ 500 < zs.length) : shpB zs = false := by
  unfold shpB; rw [inB_no (by omega)]; simp
theorem chn_hit {zs : List (Int × Int)} {k : Nat} (hk : k < zs.length) (h : okAt zs k = false) : chnB zs = false := all_hit hk h
theorem chn_miss {zs : List (Int × Int)} (h : ∀ k, k < zs.length → okAt zs k = true) : chnB zs = true := all_miss h
theorem ok_more {zs : List (Int × Int)} {k : Nat} (h : ∀ j, j < k → okAt zs j = true) (hk : okAt zs k = true) : ∀ j, j < k + 1 → okAt zs j = true := by
  intro j hj
  by_cases e : j = k
  · subst e; exact hk
  · exact h j (by omega)




end Go.Proofs.Ytnbpcdnncfkgjaa
