/- Reading a number's decimal text: plain words. -/
import Derived.Test.YtcbifdfcllaaaaaGreatDoorDec
import Derived.Lib.AtoiTie
import Derived.Lib.AtoiErr
import Derived.Lib.ParseIntBTie
namespace Go.Proofs.YtcbifdfcllaaaaaGreatDoor
open Go.RowKit

abbrev limB (n : Int) : Bool := inB n (-1000000000) 1000000000
/-- what reading a number gives: the number whose text it is, or 0 and no -/
def RnT (s : ByteArray) (n : Int) (b : Bool) : Prop := (b = true ∧ limB n = true ∧ decT n = s) ∨ (b = false ∧ n = 0 ∧ ∀ m, limB m = true → decT m ≠ s)

theorem decFrom_app : ∀ (a b : List UInt8) (acc n : Nat), Lib.decFrom acc a = some n → Lib.decFrom acc (a ++ b) = Lib.decFrom n b
  | [], b, acc, n, h => by
    simp only [Lib.decFrom, Option.some.injEq] at h
    subst h; rfl
  | x :: a, b, acc, n, h => by
    simp only [List.cons_append, Lib.decFrom] at h ⊢
    split at h
    · exact decFrom_app a b _ _ h
    · cases h
theorem digitVal_of (r : Nat) (h : r < 10) : Lib.digitVal (UInt8.ofNat (48 + r)) = some r := by
  have e : (UInt8.ofNat (48 + r)).toNat = 48 + r := by
    rw [UInt8.toNat_ofNat']; omega
  unfold Lib.digitVal
  rw [e, if_pos (by omega)]
  congr 1; omega
theorem decFrom_digits (u : Nat) : Lib.decFrom 0 (Lib.decDigits u) = some u := by
  induction u using Nat.strongRecOn with
  | ind u ih =>
    rw [Lib.decDigits]
    by_cases h : u < 10
    · rw [dif_pos h]
      simp only [Lib.decFrom, digitVal_of u h]
      congr 1; omega
    · rw [dif_neg h, decFrom_app _ _ _ _ (ih (u / 10) (by omega))]
      simp only [Lib.decFrom, digitVal_of (u % 10) (by omega)]
      congr 1; omega
theorem decDigits_ne (u : Nat) : Lib.decDigits u ≠ [] := by
  have := Lib.decDigits_length u
  have h1 := Lib.nDigits_pos u
  intro e
  rw [e] at this
  simp at this
  omega
theorem decLen : ∀ (k u : Nat), u < 10 ^ (k + 1) → (Lib.decDigits u).length ≤ k + 1
  | 0, u, h => by rw [Lib.decDigits, dif_pos (by simpa using h)]; simp
  | k + 1, u, h => by
    rw [Lib.decDigits]
    split
    · simp
    · have := decLen k (u / 10) (by rw [Nat.pow_succ] at h; omega)
      simp only [List.length_append, List.length_cons, List.length_nil]
      omega
theorem decHead (u : Nat) : ∃ b r, Lib.decDigits u = b :: r ∧ 48 ≤ b.toNat ∧ b.toNat ≤ 57 := by
  cases h : Lib.decDigits u with
  | nil => exact absurd h (decDigits_ne u)
  | cons b r =>
    have := decFrom_digits u
    rw [h] at this
    obtain ⟨d, hd⟩ := Lib.digit_of_decFrom _ _ _ this 0 b rfl
    have := Lib.digitVal_eq hd
    exact ⟨b, r, rfl, this.1, this.2.1⟩
theorem decNat_digits (u : Nat) : Lib.decNat (Lib.decDigits u) = some u := by
  unfold Lib.decNat
  rw [if_neg (by simpa using decDigits_ne u), decFrom_digits]
theorem atoi_itoa (n : Int) : Lib.atoi (Lib.itoa n) = some n := by
  unfold Lib.itoa
  split
  · simp only [Lib.atoi, beq_self_eq_true, if_true, decNat_digits, Option.map_some]
    congr 1; omega
  · obtain ⟨b, r, e, h1, h2⟩ := decHead n.toNat
    have := decNat_digits n.toNat
    rw [e] at this ⊢
    have b45 : (b == 45) = false := by
      rw [beq_eq_false_iff_ne]; rintro rfl; exact absurd h1 (by decide)
    have b43 : (b == 43) = false := by
      rw [beq_eq_false_iff_ne]; rintro rfl; exact absurd h1 (by decide)
    simp only [Lib.atoi, b45, b43, this, Option.map_some, Bool.false_eq_true, if_false]
    congr 1; omega
theorem itoa_len {n : Int} (h : limB n = true) : 1 ≤ (Lib.itoa n).length ∧ (Lib.itoa n).length ≤ 11 := by
  have hl := inB_iff.1 h
  have h0 : ∀ u : Nat, 1 ≤ (Lib.decDigits u).length := fun u => by
    rw [Lib.decDigits_length]; exact Lib.nDigits_pos u
  unfold Lib.itoa
  split
  · have := decLen 9 n.natAbs (by omega)
    simp only [List.length_cons]; omega
  · have := decLen 9 n.toNat (by omega)
    have := h0 n.toNat
    omega
theorem decT_list {n : Int} {s : ByteArray} (h : decT n = s) : s.data.toList = Lib.itoa n := by subst h; simp [decT]
theorem par_of {n : Int} {s : ByteArray} (hl : limB n = true) (h : decT n = s) : Lib.parseIntB 64 s.data.toList = .ok n := by
  have := itoa_len hl
  rw [decT_list h, Lib.parseIntB_64, Lib.atoiAll_short _ (by omega), atoi_itoa]
  rfl
theorem RnT.unique {s : ByteArray} {n n' : Int} {b b' : Bool} (h : RnT s n b) (h' : RnT s n' b') : n = n' ∧ b = b' := by
  rcases h with ⟨rfl, l, e⟩ | ⟨rfl, rfl, f⟩ <;> rcases h' with ⟨rfl, l', e'⟩ | ⟨rfl, rfl, f'⟩
  · have h1 := par_of l e
    rw [par_of l' e'] at h1
    cases h1
    exact ⟨rfl, rfl⟩
  · exact absurd e (f' _ l)
  · exact absurd e' (f _ l')
  · exact ⟨rfl, rfl⟩
theorem RnT.size {s : ByteArray} (h : s.size < 1 ∨ 11 < s.size) : RnT s 0 false := by
  refine .inr ⟨rfl, rfl, fun m hm e => ?_⟩
  have h1 := itoa_len hm
  rw [← decT_list e] at h1
  have : s.data.toList.length = s.size := Array.length_toList
  omega
/-- where the digits begin -/
def sgn (s : ByteArray) : Nat := if s.data.toList[0]? = some 45 then 1 else 0
theorem dec_of {n : Int} {s : ByteArray} (h : decT n = s) : Lib.decFrom 0 (s.data.toList.drop (sgn s)) = some n.natAbs ∧ (sgn s = 1 ↔ n < 0) := by
  unfold sgn
  rw [decT_list h]
  unfold Lib.itoa
  by_cases hn : n < 0
  · simp [hn, decFrom_digits]
  · obtain ⟨b, r, e, h1, h2⟩ := decHead n.toNat
    have := decFrom_digits n.toNat
    have hb : b ≠ 45 := by rintro rfl; exact absurd h1 (by decide)
    rw [if_neg hn, e]
    rw [e] at this
    simp only [List.getElem?_cons_zero, Option.some.injEq, hb, if_false, List.drop_zero, this]
    refine ⟨by congr 1; omega, by omega⟩
/-- a byte that is no digit: no number's text -/
theorem RnT.bad {s : ByteArray} {k : Nat} {b : UInt8} (hk : sgn s ≤ k) (hb : s.data.toList[k]? = some b) (hd : Lib.digitVal b = none) : RnT s 0 false := by
  refine .inr ⟨rfl, rfl, fun m hm e => ?_⟩
  obtain ⟨d, hd'⟩ := Lib.digit_of_decFrom _ _ _ (dec_of e).1 (k - sgn s) b (by rw [List.getElem?_drop, show sgn s + (k - sgn s) = k by omega]; exact hb)
  rw [hd] at hd'
  cases hd'
/-- all digits: the number that they spell, if its text it is -/
theorem RnT.done {s : ByteArray} {q : Nat} (h : Lib.decFrom 0 (s.data.toList.drop (sgn s)) = some q) (n : Int) (hn : n = if sgn s = 1 then -(q : Int) else q) :
    (limB n = true → decT n = s → RnT s n true) ∧ ((limB n = false ∨ decT n ≠ s) → RnT s 0 false) := by
  refine ⟨fun a b => .inl ⟨rfl, a, b⟩, fun hc => .inr ⟨rfl, rfl, fun m hm e => ?_⟩⟩
  obtain ⟨h1, h2⟩ := dec_of e
  rw [h] at h1
  have hq : q = m.natAbs := by simpa using h1
  have : n = m := by
    rw [hn]
    split
    · rename_i h3; have := h2.1 h3; omega
    · rename_i h3; have : ¬ m < 0 := fun h4 => h3 (h2.2 h4); omega
  subst this
  rcases hc with hc | hc
  · rw [hm] at hc; cases hc
  · exact hc e
end Go.Proofs.YtcbifdfcllaaaaaGreatDoor
