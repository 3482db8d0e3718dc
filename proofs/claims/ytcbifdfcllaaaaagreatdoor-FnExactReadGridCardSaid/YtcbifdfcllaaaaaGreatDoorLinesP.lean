/- A text's lines: plain words; the reference's function. -/
import Derived.Test.YtcbifdfcllaaaaaGreatDoorSplit
import Derived.Test.YtcbifdfcllaaaaaGreatDoorSetP
import Derived.WalkSmall
import Derived.Lib.IndexLaws
import Derived.Lib.Strings
import Derived.Lib.SlicesS
namespace Go.Proofs.YtcbifdfcllaaaaaGreatDoor
open Go.RowKit Go.Deep
set_option linter.unusedVariables false
set_option linter.unusedSimpArgs false

/-- the pieces at byte 10, an empty last one left out -/
def lnR (l : List UInt8) : List (List UInt8) := if l = [] then [] else if (spl 10 [] l).getLast? = some [] then (spl 10 [] l).dropLast else spl 10 [] l
theorem lnR_nil : lnR [] = [] := by simp [lnR]
theorem spl_cons {c : UInt8} : ∀ (a b cur : List UInt8), c ∉ a → spl c cur (a ++ c :: b) = (cur ++ a) :: spl c [] b
  | [], b, cur, _ => by simp [spl]
  | x :: a, b, cur, h => by
    have hx : x ≠ c := fun e => h (by simp [e])
    simp only [List.cons_append]
    rw [spl, if_neg hx, spl_cons a b _ (fun e => h (by simp [e]))]
    simp
theorem lnR_line {a b : List UInt8} (h : (10 : UInt8) ∉ a) : lnR (a ++ 10 :: b) = a :: lnR b := by
  unfold lnR
  rw [if_neg (by simp), spl_cons a b [] h, List.nil_append]
  by_cases hb : b = []
  · subst hb; simp [spl]
  · have hn := spl_ne 10 b []
    obtain ⟨x, r, hr⟩ := List.exists_cons_of_ne_nil hn
    rw [if_neg hb, hr, List.getLast?_cons_cons]
    split
    · simp
    · rfl
theorem lnR_last {l : List UInt8} (h : (10 : UInt8) ∉ l) (hl : l ≠ []) : lnR l = [l] := by
  unfold lnR
  rw [if_neg hl, spl_free 10 l [] h]
  simp [hl]
/-- a line without its end -/
def cutN (l : List UInt8) : List UInt8 := Lib.trimSuffix l [10]
theorem cutN_end (a : List UInt8) : cutN (a ++ [10]) = a := by
  unfold cutN Lib.trimSuffix Lib.hasSuffix
  rw [if_pos (by rw [List.isSuffixOf_iff_suffix]; exact List.suffix_append a [10])]
  simp
theorem cutN_no {l : List UInt8} (h : (10 : UInt8) ∉ l) : cutN l = l := by
  unfold cutN Lib.trimSuffix Lib.hasSuffix
  rw [if_neg]
  rw [List.isSuffixOf_iff_suffix]
  rintro ⟨t, rfl⟩
  exact h (by simp)
/-- a round: the next line is cut off the rest -/
theorem ln_hit {l : List UInt8} {o : Nat} (h : Lib.indexByte l 10 = (o : Int)) : o < l.length ∧ lnR l = cutN (l.take (o + 1)) :: lnR (l.drop (o + 1)) := by
  obtain ⟨h1, h2⟩ := Lib.indexByte_some h
  have ho : o < l.length := (List.getElem?_eq_some_iff.1 h1).1
  have he : l = l.take o ++ 10 :: l.drop (o + 1) := by
    have e1 : l[o] = 10 := (List.getElem?_eq_some_iff.1 h1).2
    have := List.take_append_drop o l
    rw [List.drop_eq_getElem_cons ho, e1] at this
    exact this.symm
  have hn : (10 : UInt8) ∉ l.take o := by
    intro hm
    obtain ⟨k, hk⟩ := List.mem_iff_getElem?.1 hm
    have hk2 : k < o := by have := (List.getElem?_eq_some_iff.1 hk).1; rw [List.length_take] at this; omega
    rw [List.getElem?_take, if_pos hk2] at hk
    exact h2 k hk2 hk
  refine ⟨ho, ?_⟩
  have e2 : l.take (o + 1) = l.take o ++ [10] := by
    rw [List.take_succ_eq_append_getElem ho, (List.getElem?_eq_some_iff.1 h1).2]
  rw [e2, cutN_end]
  conv => lhs; rw [he]
  exact lnR_line hn
theorem ln_miss {l : List UInt8} (h : Lib.indexByte l 10 = -1) (hl : l ≠ []) : lnR l = [cutN l] := by
  have hn : (10 : UInt8) ∉ l := by
    intro hm
    obtain ⟨k, hk⟩ := List.mem_iff_getElem?.1 hm
    exact Lib.indexByte_none h k hk
  rw [cutN_no hn, lnR_last hn hl]
theorem lnR_len : ∀ (n : Nat) (l : List UInt8), l.length ≤ n → (lnR l).length ≤ l.length
  | 0, l, h => by obtain rfl := List.eq_nil_of_length_eq_zero (Nat.le_zero.1 h); simp [lnR]
  | n + 1, l, h => by
    by_cases hl : l = []
    · subst hl; simp [lnR]
    · rcases (show Lib.indexByte l 10 < 0 ∨ 0 ≤ Lib.indexByte l 10 by omega) with hi | hi
      · have := Lib.indexByte_ge l 10
        rw [ln_miss (by omega) hl]
        have : l.length ≠ 0 := fun e => hl (List.eq_nil_of_length_eq_zero e)
        simp only [List.length_cons, List.length_nil]
        omega
      · obtain ⟨o, ho⟩ := Int.eq_ofNat_of_zero_le hi
        obtain ⟨h1, h2⟩ := ln_hit ho
        have h3 := lnR_len n (l.drop (o + 1)) (by rw [List.length_drop]; omega)
        rw [h2]
        rw [List.length_drop] at h3
        simp only [List.length_cons]
        omega
theorem strs_len (l : List (List UInt8)) : (strs l).length = l.length := by simp [strs]
theorem strs_get {l : List (List UInt8)} {k : Nat} (h : k < l.length) : (strs l)[k]? = some (.string ⟨l[k].toArray⟩) := by simp [strs, h]

theorem emp_no {s : ByteArray} (h : s ≠ ⟨#[]⟩) : s.toList.isEmpty = false := by
  rw [ByteArray.toList_eq]
  cases hs : s.data.toList with
  | nil => exact absurd (by apply ByteArray.ext; apply Array.ext'; simpa using hs) h
  | cons a r => rfl
theorem own_last {w : World} {lo hi m : Nat} {e : TypeId} {v u : Value} {xs : List Value} (h : Own w lo hi e 1 v (m + 1) (xs ++ [u])) : ∃ g c, v = .slice (some ⟨g, 0, none⟩) (m + 1) c ∧ w.cell? ⟨g, m, none⟩ = some u ∧ m + 1 ≤ c ∧ c ≤ maxLen ∧ Own w lo hi e 1 (.slice (some ⟨g, 0, none⟩) m c) m xs := by
  obtain ⟨h1, h2, h3⟩ := h
  have hh := h1
  obtain ⟨hl, hr⟩ := h1
  have hx : xs.length = m := by rw [List.length_append, List.length_singleton] at hl; omega
  rcases hr with ⟨_, h0⟩ | ⟨g, c, cur, rfl, hb, hg, hn, hm, _⟩
  · omega
  · refine ⟨g, c, rfl, ?_, hn, hm, ownsRow_pop (by omega) hh, h2, fun g' hg' => h3 g' hg'⟩
    rw [hh.cellAt m (by omega), List.getElem?_append_right (by omega)]
    simp [hx]

set_option maxRecDepth 20000 in
set_option maxHeartbeats 2000000 in
theorem c_l05Lines (s : ByteArray) (w : World) (hs : s.size ≤ 1048576) : Calls Tryz.prog 16 #[.string s] w (GivesRow w 9 1 (lnR s.data.toList).length (strs (lnR s.data.toList))) := by
  by_cases he : s.size = 0
  · have hz : s.data.toList = [] := by
      have : s.data.toList.length = 0 := by rw [Array.length_toList]; exact he
      exact List.eq_nil_of_length_eq_zero this
    have HS := Lib.hid (show lnR s.data.toList = [] by rw [hz, lnR_nil])
    have hse : s = ⟨#[]⟩ := by
      apply ByteArray.ext
      apply Array.ext'
      simpa using hz
    subst hse
    clear he hz
    go_enter Tryz.func16, Tryz.ntmps16
    go_wp2
    go_ret
    rw [HS.out]
    exact ⟨_, rfl, Own.of (World.ownsRow_made w #[] 0 (Nat.le_refl _) (by omega) rfl), (New.same _).box _⟩
  · have hne : s ≠ ⟨#[]⟩ := fun e => he (by rw [e]; rfl)
    have hl : s.data.toList ≠ [] := fun e => he (by have : s.data.toList.length = 0 := by rw [e]; rfl
                                                    rw [Array.length_toList] at this; exact this)
    have e1 := emp_no hne
    obtain ⟨R, x, hR⟩ : ∃ R x, spl 10 [] s.data.toList = R ++ [x] := by
      rcases List.eq_nil_or_concat (spl 10 [] s.data.toList) with h | ⟨R, x, h⟩
      · exact absurd h (spl_ne _ _ _)
      · exact ⟨R, x, by simpa using h⟩
    have HC := Lib.hid (show Calls Tryz.prog 39 #[.string s, .int .u8 10] w (GivesRow w 9 1 (R.length + 1) (strs R ++ [.string ⟨x.toArray⟩])) from by
      have := c_l01Split s 10 w hs
      rw [hR, strs_snoc, List.length_append] at this
      exact this)
    by_cases hx : x = []
    · have HS := Lib.hid (show lnR s.data.toList = R by unfold lnR; rw [if_neg hl, hR]; simp [hx])
      subst hx
      clear hR hl hne he
      go_enter Tryz.func16, Tryz.ntmps16
      go_wp2_with (go_at_call 39; refine HC.out.mono ?_; rintro e w1 ⟨v, rfl, ho, n1⟩; obtain ⟨g, c, rfl, y0, hc1, hc2, ho2⟩ := own_last ho; unfold maxLen at hc2)
      go_ret
      rw [HS.out]
      exact ⟨_, rfl, ho2, n1⟩
    · have HS := Lib.hid (show lnR s.data.toList = R ++ [x] by unfold lnR; rw [if_neg hl, hR]; simp [hx])
      have e2 : x.isEmpty = false := by cases x with | nil => exact absurd rfl hx | cons a r => rfl
      clear hR hl hne he hx
      go_enter Tryz.func16, Tryz.ntmps16
      go_wp2_with (go_at_call 39; refine HC.out.mono ?_; rintro e w1 ⟨v, rfl, ho, n1⟩; obtain ⟨g, c, rfl, y0, hc1, hc2, ho2⟩ := own_last ho; unfold maxLen at hc2)
      go_ret
      rw [HS.out, strs_snoc, List.length_append]
      exact ⟨_, rfl, ho, n1⟩
end Go.Proofs.YtcbifdfcllaaaaaGreatDoor
