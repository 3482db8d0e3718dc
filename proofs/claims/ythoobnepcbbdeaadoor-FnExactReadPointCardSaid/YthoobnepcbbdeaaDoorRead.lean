/- Contracts of the functions that read a number's text: the reference's. -/
import Derived.Test.YthoobnepcbbdeaaDoorRdP
import Derived.BigGuardPart
import Derived.Lib.SlicesS
import Derived.Shelf.Abstract
namespace Go.Proofs.YthoobnepcbbdeaaDoor
open Go.RowKit Go.Deep
set_option linter.unusedVariables false
set_option linter.unusedSimpArgs false

theorem sEq_yes {a b : ByteArray} (h : a = b) : (a.toList == b.toList) = true := by rw [h]; exact beq_self_eq_true _
theorem sEq_no {a b : ByteArray} (h : a ≠ b) : (a.toList == b.toList) = false := (Lib.bytes_beq_false_iff _ _).2 h
def digitB (c : Int) : Bool := decide (48 ≤ c ∧ c ≤ 57)
theorem digitB_yes {c : Int} (h : digitB c = true) : 48 ≤ c ∧ c ≤ 57 := by simpa [digitB] using h
theorem digitB_no {c : Int} (h : digitB c = false) : c < 48 ∨ 57 < c := by simp [digitB] at h; omega

set_option maxHeartbeats 400000 in
theorem c_l01Digit (c : Int) (w : World) : Calls Tryd.prog 26 #[.int .u8 c] w fun e w' => e = .returned (.bool (digitB c)) ∧ w = w' := by
  go_enter Tryd.func26, Tryd.ntmps26
  go_wp2
  all_goals
    go_ret
    refine ⟨ret_bool ?_, rfl⟩
    rw [Bool.eq_iff_iff]
    unfold digitB
    simp
    try omega
theorem list_at (s : ByteArray) {k : Nat} (h : k < s.size) : s.data.toList[k]? = some s[k] := by
  have h' : k < s.data.size := h
  rw [Array.getElem?_toList, Array.getElem?_eq_getElem h']
  rfl
theorem dv_no {b : UInt8} (h : digitB (b.toNat : Int) = false) : Lib.digitVal b = none := by
  have := digitB_no h
  unfold Lib.digitVal
  rw [if_neg (by omega)]
theorem dv_yes {b : UInt8} (h : digitB (b.toNat : Int) = true) : Lib.digitVal b = some (b.toNat - 48) := by
  have := digitB_yes h
  unfold Lib.digitVal
  rw [if_pos (by omega)]
theorem sgn_le (s : ByteArray) : sgn s ≤ 1 := by unfold sgn; split <;> omega
theorem sgn_one {s : ByteArray} (h : 0 < s.size) (h45 : (s[0].toNat : Int) = 45) : sgn s = 1 := by
  have e : s[0] = 45 := by
    have : s[0].toNat = 45 := by omega
    exact UInt8.toNat_inj.1 (by rw [this]; rfl)
  unfold sgn
  rw [list_at s h, e, if_pos rfl]
theorem sgn_no {s : ByteArray} (h : 0 < s.size) (h45 : (s[0].toNat : Int) ≠ 45) : sgn s = 0 := by
  unfold sgn
  rw [list_at s h, if_neg]
  intro e
  have e : s[0] = 45 := by simpa using e
  exact h45 (by rw [e]; rfl)
theorem rd_small {l : List UInt8} {k q : Nat} (h : Lib.decFrom 0 (l.take k) = some q) (hk : k ≤ 11) : q < 100000000000 := by
  have h1 := Lib.decFrom_lt _ _ _ h
  have h2 : (l.take k).length ≤ 11 := by rw [List.length_take]; omega
  have h3 : 10 ^ (l.take k).length ≤ 10 ^ 11 := Nat.pow_le_pow_right (by omega) h2
  omega
/-- one digit more -/
theorem rd_step {s : ByteArray} {k q : Nat} (hlt : k < s.size) (hs : sgn s ≤ k) (h : Lib.decFrom 0 ((s.data.toList.drop (sgn s)).take (k - sgn s)) = some q) (hd : digitB (s[k].toNat : Int) = true) :
    Lib.decFrom 0 ((s.data.toList.drop (sgn s)).take (k + 1 - sgn s)) = some (q * 10 + (s[k].toNat - 48)) := by
  rw [show k + 1 - sgn s = (k - sgn s) + 1 by omega]
  exact Lib.decFrom_take _ _ _ _ s[k] _ h (by rw [List.getElem?_drop, show sgn s + (k - sgn s) = k by omega]; exact list_at s hlt) (dv_yes hd)

def GivesRd (s : ByteArray) (w : World) (E : Ending) (w' : World) : Prop := ∃ n b, E = .returned (.tuple #[.int .i64 n, .bool b]) ∧ RdS s n b ∧ New w w'

set_option maxRecDepth 20000 in
set_option maxHeartbeats 4000000 in
theorem c_specReadDecimal (s : ByteArray) (w : World) (hs : s.size ≤ 1048576) : Calls Tryd.prog 16 #[.string s] w (GivesRd s w) := by
  by_cases h1 : s.size < 1 ∨ 11 < s.size
  · have HR := Lib.hid (RdS.size h1)
    rcases h1 with h1 | h1
    · have h2 : decide ((s.size : Int) < 1) = true := by simp; omega
      go_enter Tryd.func16, Tryd.ntmps16
      go_wp2
      all_goals (go_ret2; exact ⟨0, false, rfl, HR.out, New.same _⟩)
    · have h2 : decide ((s.size : Int) < 1) = false := by simp; omega
      have h3 : decide ((11 : Int) < (s.size : Int)) = true := by simp; omega
      go_enter Tryd.func16, Tryd.ntmps16
      go_wp2
      all_goals (go_ret2; exact ⟨0, false, rfl, HR.out, New.same _⟩)
  · have h0 : 0 < s.size := by omega
    have h11 : s.size ≤ 11 := by omega
    have h2 : decide ((s.size : Int) < 1) = false := by simp; omega
    have h3 : decide ((11 : Int) < (s.size : Int)) = false := by simp; omega
    clear h1
    go_enter Tryd.func16, Tryd.ntmps16
    go_wp2
    go_loop [5, 4] (fun i q => ∃ k n : Nat, k ≤ s.size ∧ i = .int .i64 k ∧ q = .int .i64 n ∧ Hid (Lib.decFrom 0 ((s.data.toList.drop (sgn s)).take (k - sgn s)) = some n)) (fun i _ => s.size - (intOf i).toNat)
    case atStart => exact ⟨0, 0, Nat.zero_le _, rfl, rfl, Lib.hid (by simp [Lib.decFrom])⟩
    case round =>
      obtain ⟨k, n, hk, rfl, rfl, HD⟩ := hrel
      have hn := rd_small HD.out (by omega)
      by_cases hlt : k < s.size
      · by_cases hsg : k = 0 ∧ (s[0].toNat : Int) = 45
        · obtain ⟨rfl, h45⟩ := hsg
          have HS := Lib.hid (sgn_one h0 h45)
          have hc : decide ((s[0].toNat : Int) = 45) = true := by simpa using h45
          have hcb : ((s[0].toNat : Int) == 45) = true := by simpa using h45
          have HN := Lib.hid (show Lib.decFrom 0 ((s.data.toList.drop (sgn s)).take (0 + 1 - sgn s)) = some n by rw [HS.out]; simpa [HS.out] using HD.out)
          go_wp2
          go_round
          case rel => exact ⟨0 + 1, n, by omega, by go_num, rfl, HN⟩
          case measure => simp [intOf]; omega
        · have hs1 : sgn s ≤ k := by
            by_cases hk0 : k = 0
            · have := sgn_no h0 (fun h => hsg ⟨hk0, h⟩); omega
            · have := sgn_le s; omega
          cases hd : digitB (s[k].toNat : Int)
          · have HB := Lib.hid (RdS.bad hs1 (list_at s hlt) (dv_no hd))
            by_cases hk0 : k = 0
            · subst hk0
              have hc : decide ((s[0].toNat : Int) = 45) = false := by simpa using hsg
              have hcb : ((s[0].toNat : Int) == 45) = false := by simpa using hsg
              clear hsg
              go_wp2_with (go_at_call 26; refine (c_l01Digit _ _).mono ?_; rintro e w' ⟨rfl, rfl⟩)
              go_ret2
              exact ⟨0, false, rfl, HB.out, New.same _⟩
            · have hc : decide ((k : Int) = 0) = false := by simp; omega
              clear hsg
              go_wp2_with (go_at_call 26; refine (c_l01Digit _ _).mono ?_; rintro e w' ⟨rfl, rfl⟩)
              go_ret2
              exact ⟨0, false, rfl, HB.out, New.same _⟩
          · have hd2 := digitB_yes hd
            have HN := Lib.hid (rd_step hlt hs1 HD.out hd)
            by_cases hk0 : k = 0
            · subst hk0
              have hc : decide ((s[0].toNat : Int) = 45) = false := by simpa using hsg
              have hcb : ((s[0].toNat : Int) == 45) = false := by simpa using hsg
              clear hsg
              go_wp2_with (go_at_call 26; refine (c_l01Digit _ _).mono ?_; rintro e w' ⟨rfl, rfl⟩)
              go_round
              case rel => exact ⟨0 + 1, n * 10 + (s[0].toNat - 48), by omega, by go_num, by go_num, HN⟩
              case measure => simp [intOf]; omega
            · have hc : decide ((k : Int) = 0) = false := by simp; omega
              clear hsg
              go_wp2_with (go_at_call 26; refine (c_l01Digit _ _).mono ?_; rintro e w' ⟨rfl, rfl⟩)
              go_round
              case rel => exact ⟨k + 1, n * 10 + (s[k].toNat - 48), by omega, by go_num, by go_num, HN⟩
              case measure => simp [intOf]; omega
      · have hk' : k = s.size := by omega
        subst hk'
        have hQ : Lib.decFrom 0 (s.data.toList.drop (sgn s)) = some n := by
          have h := HD.out
          rwa [List.take_of_length_le (by rw [List.length_drop]; exact Nat.le_of_eq (congrArg (· - sgn s) Array.length_toList))] at h
        by_cases h45 : (s[0].toNat : Int) = 45
        · have HS := Lib.hid (sgn_one h0 h45)
          have HT := RdS.done hQ (-(n : Int)) (by rw [HS.out]; simp)
          have hc : decide ((s[0].toNat : Int) = 45) = true := by simpa using h45
          have hcb : ((s[0].toNat : Int) == 45) = true := by simpa using h45
          have HY := Lib.hid HT.1
          have HX := Lib.hid HT.2
          clear HT hQ
          cases hl : inB (-(n : Int)) (-1000000000) 1000000000
          · have HR := Lib.hid (HX.out (.inl hl))
            go_wp2_with (go_at_call 27; refine (c_l00In _ _ _ _).mono ?_; rintro e w' ⟨rfl, rfl⟩)
            go_ret2
            exact ⟨0, false, rfl, HR.out, New.same _⟩
          · by_cases hq : decT (-(n : Int)) = s
            · have HR := Lib.hid (HY.out hl hq)
              have eX := sEq_yes hq
              clear hq
              go_wp2_with (first | (go_at_call 27; refine (c_l00In _ _ _ _).mono ?_; rintro e w' ⟨rfl, rfl⟩) | (go_at_call 8; refine (c_specDecimal (-(n : Int)) _ (by omega) (by omega)).mono ?_; rintro e w2 ⟨rfl, n2⟩))
              go_ret2
              exact ⟨_, true, rfl, HR.out, n2⟩
            · have HR := Lib.hid (HX.out (.inr hq))
              have eX := sEq_no hq
              clear hq
              go_wp2_with (first | (go_at_call 27; refine (c_l00In _ _ _ _).mono ?_; rintro e w' ⟨rfl, rfl⟩) | (go_at_call 8; refine (c_specDecimal (-(n : Int)) _ (by omega) (by omega)).mono ?_; rintro e w2 ⟨rfl, n2⟩))
              go_ret2
              exact ⟨0, false, rfl, HR.out, n2⟩
        · have HS := Lib.hid (sgn_no h0 h45)
          have HT := RdS.done hQ ((n : Int)) (by rw [HS.out]; simp)
          have hc : decide ((s[0].toNat : Int) = 45) = false := by simpa using h45
          have hcb : ((s[0].toNat : Int) == 45) = false := by simpa using h45
          have HY := Lib.hid HT.1
          have HX := Lib.hid HT.2
          clear HT hQ
          cases hl : inB ((n : Int)) (-1000000000) 1000000000
          · have HR := Lib.hid (HX.out (.inl hl))
            go_wp2_with (go_at_call 27; refine (c_l00In _ _ _ _).mono ?_; rintro e w' ⟨rfl, rfl⟩)
            go_ret2
            exact ⟨0, false, rfl, HR.out, New.same _⟩
          · by_cases hq : decT ((n : Int)) = s
            · have HR := Lib.hid (HY.out hl hq)
              have eX := sEq_yes hq
              clear hq
              go_wp2_with (first | (go_at_call 27; refine (c_l00In _ _ _ _).mono ?_; rintro e w' ⟨rfl, rfl⟩) | (go_at_call 8; refine (c_specDecimal ((n : Int)) _ (by omega) (by omega)).mono ?_; rintro e w2 ⟨rfl, n2⟩))
              go_ret2
              exact ⟨_, true, rfl, HR.out, n2⟩
            · have HR := Lib.hid (HX.out (.inr hq))
              have eX := sEq_no hq
              clear hq
              go_wp2_with (first | (go_at_call 27; refine (c_l00In _ _ _ _).mono ?_; rintro e w' ⟨rfl, rfl⟩) | (go_at_call 8; refine (c_specDecimal ((n : Int)) _ (by omega) (by omega)).mono ?_; rintro e w2 ⟨rfl, n2⟩))
              go_ret2
              exact ⟨0, false, rfl, HR.out, n2⟩
end Go.Proofs.YthoobnepcbbdeaaDoor
