/- Reading a point's text: plain words. -/
import Derived.Test.YthoobnepcbbdeaaDoorSplit
import Derived.Test.YthoobnepcbbdeaaDoorPt
import Derived.Lib.IndexMore
namespace Go.Proofs.YthoobnepcbbdeaaDoor
open Go.RowKit

theorem dig_free (u : Nat) : (44 : UInt8) ∉ Lib.decDigits u := by
  intro h
  obtain ⟨k, hk⟩ := List.mem_iff_getElem?.1 h
  obtain ⟨d, hd⟩ := Lib.digit_of_decFrom _ _ _ (decFrom_digits u) k _ hk
  have := (Lib.digitVal_eq hd).1
  exact absurd this (by decide)
theorem itoa_free (n : Int) : (44 : UInt8) ∉ Lib.itoa n := by
  unfold Lib.itoa
  split
  · intro h
    rcases List.mem_cons.1 h with h | h
    · exact absurd h (by decide)
    · exact dig_free _ h
  · exact dig_free _
theorem itoa_inj {m n : Int} (h : Lib.itoa m = Lib.itoa n) : m = n := by
  have h1 := atoi_itoa m
  rw [h, atoi_itoa] at h1
  exact (Option.some.inj h1).symm
/-- a point's text, whatever its limits -/
def ptX (x y : Int) : ByteArray := decT x ++ ⟨#[44]⟩ ++ decT y
theorem ptX_list (x y : Int) : (ptX x y).data.toList = Lib.itoa x ++ 44 :: Lib.itoa y := by simp [ptX, decT]
theorem list_inj {s t : ByteArray} (h : s.data.toList = t.data.toList) : s = t := by
  apply ByteArray.ext
  exact Array.ext' h
theorem pre_eq : ∀ {a a' b b' : List UInt8}, (44 : UInt8) ∉ a → (44 : UInt8) ∉ a' → a ++ 44 :: b = a' ++ 44 :: b' → a = a' ∧ b = b'
  | [], [], _, _, _, _, h => by simpa using h
  | [], x :: a', _, _, _, h2, h => by
    simp only [List.nil_append, List.cons_append, List.cons.injEq] at h
    exact absurd h.1 (fun e => h2 (by simp [← e]))
  | x :: a, [], _, _, h1, _, h => by
    simp only [List.nil_append, List.cons_append, List.cons.injEq] at h
    exact absurd h.1 (fun e => h1 (by simp [e]))
  | x :: a, y :: a', _, _, h1, h2, h => by
    simp only [List.cons_append, List.cons.injEq] at h
    obtain ⟨rfl, h⟩ := h
    obtain ⟨rfl, rfl⟩ := pre_eq (fun e => h1 (by simp [e])) (fun e => h2 (by simp [e])) h
    exact ⟨rfl, rfl⟩
/-- what reading a point gives: the point whose text it is, or the point at 0 and no -/
def RpS (s : ByteArray) (x y : Int) (b : Bool) : Prop := (b = true ∧ vpB x y = true ∧ ptX x y = s) ∨ (b = false ∧ x = 0 ∧ y = 0 ∧ ∀ p q, vpB p q = true → ptX p q ≠ s)
theorem RpS.unique {s : ByteArray} {x y x' y' : Int} {b b' : Bool} (h : RpS s x y b) (h' : RpS s x' y' b') : x = x' ∧ y = y' ∧ b = b' := by
  rcases h with ⟨rfl, l, e⟩ | ⟨rfl, rfl, rfl, f⟩ <;> rcases h' with ⟨rfl, l', e'⟩ | ⟨rfl, rfl, rfl, f'⟩
  · have h1 := congrArg (fun t : ByteArray => t.data.toList) (e.trans e'.symm)
    simp only [ptX_list] at h1
    obtain ⟨h2, h3⟩ := pre_eq (itoa_free _) (itoa_free _) h1
    exact ⟨itoa_inj h2, itoa_inj h3, rfl⟩
  · exact absurd e (f' _ _ l)
  · exact absurd e' (f _ _ l')
  · exact ⟨rfl, rfl, rfl⟩
theorem lim_of {x y : Int} (h : vpB x y = true) : limB x = true ∧ limB y = true := by
  have := vpB_iff.1 h
  exact ⟨inB_yes (by omega) (by omega), inB_yes (by omega) (by omega)⟩
theorem rd_txt {n : Int} (h : limB n = true) {a : List UInt8} (e : a = Lib.itoa n) : RdS ⟨a.toArray⟩ n true := .inl ⟨rfl, h, by subst e; rfl⟩
/-- a text with a comma: it is a point's text if both its parts are numbers' texts and these are a point -/
theorem RpS.of {s : ByteArray} {a b : List UInt8} {n1 n2 : Int} {b1 b2 : Bool} (h : s.data.toList = a ++ 44 :: b) (ha : (44 : UInt8) ∉ a) (r1 : RdS ⟨a.toArray⟩ n1 b1) (r2 : RdS ⟨b.toArray⟩ n2 b2) :
    (b1 = true → b2 = true → vpB n1 n2 = true → RpS s n1 n2 true) ∧ ((b1 = false ∨ b2 = false ∨ vpB n1 n2 = false) → RpS s 0 0 false) := by
  refine ⟨fun e1 e2 hv => .inl ⟨rfl, hv, ?_⟩, fun hc => .inr ⟨rfl, rfl, rfl, fun p q hv e => ?_⟩⟩
  · rcases r1 with ⟨_, _, t1⟩ | ⟨f, _⟩
    · rcases r2 with ⟨_, _, t2⟩ | ⟨f, _⟩
      · refine list_inj ?_
        rw [ptX_list, h]
        have u1 := decT_list t1
        have u2 := decT_list t2
        simp only at u1 u2
        rw [← u1, ← u2]
      · rw [e2] at f; cases f
    · rw [e1] at f; cases f
  · have h1 := congrArg (fun t : ByteArray => t.data.toList) e
    simp only [ptX_list, h] at h1
    obtain ⟨h2, h3⟩ := pre_eq (itoa_free _) ha h1
    obtain ⟨l1, l2⟩ := lim_of hv
    obtain ⟨rfl, rfl⟩ := RdS.unique r1 (rd_txt l1 h2.symm)
    obtain ⟨rfl, rfl⟩ := RdS.unique r2 (rd_txt l2 h3.symm)
    rcases hc with hc | hc | hc
    · cases hc
    · cases hc
    · rw [hv] at hc; cases hc
theorem RpS.no {s : ByteArray} (h : (spl 44 [] s.data.toList).length ≠ 2) : RpS s 0 0 false := by
  refine .inr ⟨rfl, rfl, rfl, fun p q hv e => h ?_⟩
  subst e
  rw [ptX_list, spl_mk 44 _ _ _ (itoa_free _) (itoa_free _)]
  rfl
theorem RpS.none_ {s : ByteArray} (h : (44 : UInt8) ∉ s.data.toList) : RpS s 0 0 false := by
  refine .inr ⟨rfl, rfl, rfl, fun p q hv e => h ?_⟩
  subst e
  rw [ptX_list]
  simp
theorem spl_first (c : UInt8) : ∀ (l cur a b : List UInt8), c ∉ cur → spl c cur l = [a, b] → c ∉ a
  | [], cur, a, b, _, h => by simp [spl] at h
  | x :: r, cur, a, b, hc, h => by
    unfold spl at h
    split at h
    · simp only [List.cons.injEq] at h
      rw [← h.1]; exact hc
    · rename_i hx
      exact spl_first c r _ a b (by simp only [List.mem_append, List.mem_singleton, not_or]; exact ⟨hc, fun e => hx e.symm⟩) h
theorem index_at : ∀ (a b : List UInt8), (44 : UInt8) ∉ a → Lib.index (a ++ 44 :: b) [44] = (a.length : Int)
  | [], b, _ => by simp [Lib.index, List.isPrefixOf]
  | x :: a, b, h => by
    have hx : ((44 : UInt8) == x) = false := by rw [beq_eq_false_iff_ne]; intro e; exact h (by simp [e])
    have ih := index_at a b (fun e => h (by simp [e]))
    have hn : ((a.length : Int) == -1) = false := by rw [beq_eq_false_iff_ne]; omega
    simp only [List.cons_append, Lib.index, List.isPrefixOf, hx, Bool.false_and, Bool.false_eq_true, if_false, ih, hn, List.length_cons]
    omega
theorem index_no : ∀ (l : List UInt8), (44 : UInt8) ∉ l → Lib.index l [44] = -1
  | [], _ => by simp [Lib.index]
  | x :: l, h => by
    have hx : ((44 : UInt8) == x) = false := by rw [beq_eq_false_iff_ne]; intro e; exact h (by simp [e])
    have ih := index_no l (fun e => h (by simp [e]))
    simp only [Lib.index, List.isPrefixOf, hx, Bool.false_and, Bool.false_eq_true, if_false, ih, beq_self_eq_true, if_true]
theorem cut_at {a b : List UInt8} (h : (44 : UInt8) ∉ a) : Lib.cut (a ++ 44 :: b) [44] = (a, b, true) := by
  unfold Lib.cut
  rw [index_at a b h, if_pos (by omega)]
  simp
theorem cut_no {l : List UInt8} (h : (44 : UInt8) ∉ l) : Lib.cut l [44] = (l, [], false) := by
  unfold Lib.cut
  rw [index_no l h, if_neg (by omega)]
end Go.Proofs.YthoobnepcbbdeaaDoor
