/- Contracts of the functions on names. -/
import Derived.Test.YtcbifdfcllaaaaaGreatDoorNum
import Derived.BigGuardPart
namespace Go.Proofs.YtcbifdfcllaaaaaGreatDoor
open Go.RowKit

/-- a letter, a digit, a byte of a name behind its first -/
def letB (c : Int) : Bool := decide (97 ≤ c ∧ c ≤ 122 ∨ 65 ≤ c ∧ c ≤ 90)
def digitB (c : Int) : Bool := decide (48 ≤ c ∧ c ≤ 57)
def wordB (c : Int) : Bool := letB c || digitB c || decide (c = 95)

set_option maxHeartbeats 400000 in
theorem c_l01Letter (c : Int) (w : World) : Calls Tryz.prog 63 #[.int .u8 c] w fun e w' => e = .returned (.bool (letB c)) ∧ w = w' := by
  go_enter Tryz.func63, Tryz.ntmps63
  go_wp2
  all_goals
    go_ret
    refine ⟨ret_bool ?_, rfl⟩
    rw [Bool.eq_iff_iff]
    unfold letB
    simp
    try omega

set_option maxHeartbeats 400000 in
theorem c_l01Digit (c : Int) (w : World) : Calls Tryz.prog 64 #[.int .u8 c] w fun e w' => e = .returned (.bool (digitB c)) ∧ w = w' := by
  go_enter Tryz.func64, Tryz.ntmps64
  go_wp2
  all_goals
    go_ret
    refine ⟨ret_bool ?_, rfl⟩
    rw [Bool.eq_iff_iff]
    unfold digitB
    simp
    try omega

/-- the byte at a place, as a number -/
def byteAt (s : ByteArray) (k : Nat) : Int := if h : k < s.size then (s[k].toNat : Int) else 0
theorem byteAt_eq (s : ByteArray) (k : Nat) (h : k < s.size) : byteAt s k = (s[k].toNat : Int) := by simp [byteAt, h]
def nmAt (k : Nat) (c : Int) : Bool := if k = 0 then letB c else wordB c
theorem okAt_no {k : Nat} {c : Int} (h : ((k : Int) = 0 ∧ c < 65 ∨ (k : Int) = 0 ∧ 90 < c ∧ c < 97 ∨ (k : Int) = 0 ∧ 122 < c) ∨ c < 48 ∨ 57 < c ∧ c < 65 ∧ c ≠ 95 ∨ 90 < c ∧ c < 97 ∧ c ≠ 95 ∨ 122 < c) : nmAt k c = false := by
  unfold nmAt wordB letB digitB
  split
  · exact decide_eq_false (by omega)
  · simp only [Bool.or_eq_false_iff, decide_eq_false_iff_not]
    omega
theorem okAt_yes {k : Nat} {c : Int} (h : 97 ≤ c ∧ c ≤ 122 ∨ 65 ≤ c ∧ c ≤ 90 ∨ (k : Int) ≠ 0 ∧ (48 ≤ c ∧ c ≤ 57 ∨ c = 95)) : nmAt k c = true := by
  unfold nmAt wordB letB digitB
  split
  · exact decide_eq_true (by omega)
  · simp only [Bool.or_eq_true, decide_eq_true_eq]
    omega
/-- a name: a letter, then letters, digits and underscores, 12 bytes at most -/
def nameB (s : ByteArray) : Bool := decide (1 ≤ s.size ∧ s.size ≤ 12) && (List.range s.size).all fun k => nmAt k (byteAt s k)
theorem nameB_yes {s : ByteArray} (h1 : 1 ≤ s.size) (h2 : s.size ≤ 12) (h : ∀ k, k < s.size → nmAt k (byteAt s k) = true) : nameB s = true := by
  simp only [nameB, Bool.and_eq_true, decide_eq_true_eq, List.all_eq_true, List.mem_range]
  exact ⟨⟨h1, h2⟩, h⟩
theorem nameB_size {s : ByteArray} (h : s.size < 1 ∨ 12 < s.size) : nameB s = false := by
  simp only [nameB, Bool.and_eq_false_iff, decide_eq_false_iff_not]
  exact .inl (by omega)
theorem nameB_at {s : ByteArray} {k : Nat} (hk : k < s.size) (h : nmAt k (byteAt s k) = false) : nameB s = false := by
  simp only [nameB, Bool.and_eq_false_iff]
  right
  rw [List.all_eq_false]
  exact ⟨k, by simpa using hk, by simp [h]⟩

theorem name_more {s : ByteArray} {k : Nat} (h : ∀ j, j < k → nmAt j (byteAt s j) = true) (hk : nmAt k (byteAt s k) = true) : ∀ j, j < k + 1 → nmAt j (byteAt s j) = true := by
  intro j hj
  by_cases e : j = k
  · subst e; exact hk
  · exact h j (by omega)

set_option maxHeartbeats 2000000 in
theorem c_implIsName (s : ByteArray) (w : World) (hs : s.size ≤ maxLen) : Calls Tryz.prog 68 #[.string s] w fun e w' => e = .returned (.bool (nameB s)) ∧ w = w' := by
  unfold maxLen at hs
  go_enter Tryz.func68, Tryz.ntmps68
  go_wp2
  go_loop [3, 4, 5, 8] (fun _ _ _ i => ∃ k : Nat, k ≤ s.size ∧ i = .int .i64 k ∧ Hid (∀ j, j < k → nmAt j (byteAt s j) = true)) (fun _ _ _ i => s.size - (intOf i).toNat)
  case atStart => exact ⟨0, Nat.zero_le _, rfl, Lib.hid (fun j hj => absurd hj (Nat.not_lt_zero _))⟩
  case round =>
    obtain ⟨k, hk, rfl, HJ⟩ := hrel
    by_cases hlt : k < s.size
    · have HB := Lib.hid (byteAt_eq s k hlt)
      have hfin := HB.out
      have HF := Lib.hid (fun (hc : ((k : Int) = 0 ∧ (s[k].toNat : Int) < 65 ∨ (k : Int) = 0 ∧ 90 < (s[k].toNat : Int) ∧ (s[k].toNat : Int) < 97 ∨ (k : Int) = 0 ∧ 122 < (s[k].toNat : Int)) ∨
          (s[k].toNat : Int) < 48 ∨ 57 < (s[k].toNat : Int) ∧ (s[k].toNat : Int) < 65 ∧ (s[k].toNat : Int) ≠ 95 ∨ 90 < (s[k].toNat : Int) ∧ (s[k].toNat : Int) < 97 ∧ (s[k].toNat : Int) ≠ 95 ∨ 122 < (s[k].toNat : Int)) =>
        nameB_at hlt (by rw [hfin]; exact okAt_no hc))
      have HT := Lib.hid (fun (hc : 97 ≤ (s[k].toNat : Int) ∧ (s[k].toNat : Int) ≤ 122 ∨ 65 ≤ (s[k].toNat : Int) ∧ (s[k].toNat : Int) ≤ 90 ∨ (k : Int) ≠ 0 ∧ (48 ≤ (s[k].toNat : Int) ∧ (s[k].toNat : Int) ≤ 57 ∨ (s[k].toNat : Int) = 95)) (j : Nat) (hj : j < k + 1) =>
        show nmAt j (byteAt s j) = true from by
          by_cases e : j = k
          · subst e; rw [hfin]; exact okAt_yes hc
          · exact HJ.out j (by omega))
      clear hfin
      go_wp2
      all_goals first
        | (go_ret; exact ⟨ret_bool (HF.out (by first | omega | (have h95 : ((s[k].toNat : Int) != 95) = true := (by assumption); have h96 := bne_iff_ne.1 h95; omega))).symm, rfl⟩)
        | (go_round
           case rel => exact ⟨k + 1, by omega, by go_num, Lib.hid (HT.out (by first | omega | (have h95 : ((s[k].toNat : Int) != 95) = false := (by assumption); have h96 := bne_eq_false_iff_eq.1 h95; omega)))⟩
           case measure => simp [intOf]; omega)
    · have hk' : k = s.size := by omega
      subst hk'
      by_cases h1 : 1 ≤ s.size
      · by_cases h2 : s.size ≤ 12
        · have HN := Lib.hid (nameB_yes h1 h2 HJ.out)
          go_wp2
          all_goals (go_ret; exact ⟨ret_bool (by first | exact HN.out.symm | (rw [HN.out]; simp; try omega)), rfl⟩)
        · have HN := Lib.hid (nameB_size (s := s) (.inr (by omega)))
          go_wp2
          all_goals (go_ret; exact ⟨ret_bool (by first | exact HN.out.symm | (rw [HN.out]; simp; try omega)), rfl⟩)
      · have HN := Lib.hid (nameB_size (s := s) (.inl (by omega)))
        go_wp2
        all_goals (go_ret; exact ⟨ret_bool (by first | exact HN.out.symm | (rw [HN.out]; simp; try omega)), rfl⟩)

set_option maxHeartbeats 2000000 in
theorem c_specIsName (s : ByteArray) (w : World) (hs : s.size ≤ maxLen) : Calls Tryz.prog 35 #[.string s] w fun e w' => e = .returned (.bool (nameB s)) ∧ w = w' := by
  unfold maxLen at hs
  by_cases h1 : 1 ≤ s.size
  · by_cases h2 : s.size ≤ 12
    · have hB := byteAt_eq s 0 h1
      cases hl : letB (s[0].toNat : Int)
      · have HN := Lib.hid (nameB_at (s := s) (k := 0) (by omega) (by rw [hB]; simp [nmAt, hl]))
        clear hB
        go_enter Tryz.func35, Tryz.ntmps35
        go_wp2_with (go_at_call 63; refine (c_l01Letter _ _).mono ?_; rintro e w' ⟨rfl, rfl⟩)
        all_goals (go_ret; exact ⟨ret_bool HN.out.symm, rfl⟩)
      · have H0 := Lib.hid (show nmAt 0 (byteAt s 0) = true by rw [hB]; simp [nmAt, hl])
        clear hB
        have d1 : decide ((s.size : Int) < 1) = false := by simp; omega
        have d2 : decide ((12 : Int) < (s.size : Int)) = false := by simp; omega
        go_enter Tryz.func35, Tryz.ntmps35
        go_wp2_with (go_at_call 63; refine (c_l01Letter _ _).mono ?_; rintro e w' ⟨rfl, rfl⟩)
        clear d1 d2
        go_loop [3] (fun i => ∃ k : Nat, 1 ≤ k ∧ k ≤ s.size ∧ i = .int .i64 k ∧ Hid (∀ j, j < k → nmAt j (byteAt s j) = true)) (fun i => s.size - (intOf i).toNat)
        case atStart => exact ⟨1, by omega, h1, rfl, Lib.hid (fun j hj => by obtain rfl : j = 0 := (by omega); exact H0.out)⟩
        case round =>
          obtain ⟨k, hk1, hk, rfl, HJ⟩ := hrel
          by_cases hlt : k < s.size
          · have HB := Lib.hid (byteAt_eq s k hlt)
            cases ha : letB (s[k].toNat : Int)
            · cases hb : digitB (s[k].toNat : Int)
              · by_cases hc : (s[k].toNat : Int) = 95
                · have HO := Lib.hid (show nmAt k (byteAt s k) = true by rw [HB.out]; exact okAt_yes (by omega))
                  have hc1 : ((s[k].toNat : Int) != 95) = false := by simp [hc]
                  have HX := Lib.hid hc
                  clear hc
                  go_wp2_with (first | (go_at_call 63; refine (c_l01Letter _ _).mono ?_; rintro e w' ⟨rfl, rfl⟩) | (go_at_call 64; refine (c_l01Digit _ _).mono ?_; rintro e w' ⟨rfl, rfl⟩))
                  go_round
                  case rel => exact ⟨k + 1, by omega, by omega, by go_num, Lib.hid (name_more HJ.out HO.out)⟩
                  case measure => simp [intOf]; omega
                · have HO := Lib.hid (nameB_at hlt (by rw [HB.out]; simp only [nmAt, wordB, ha, hb, decide_eq_false hc]; rw [if_neg (by omega)]; rfl))
                  have hc1 : ((s[k].toNat : Int) != 95) = true := by simpa using hc
                  have HX := Lib.hid hc
                  clear hc
                  go_wp2_with (first | (go_at_call 63; refine (c_l01Letter _ _).mono ?_; rintro e w' ⟨rfl, rfl⟩) | (go_at_call 64; refine (c_l01Digit _ _).mono ?_; rintro e w' ⟨rfl, rfl⟩))
                  go_ret
                  exact ⟨ret_bool HO.out.symm, rfl⟩
              · have HO := Lib.hid (show nmAt k (byteAt s k) = true by rw [HB.out]; simp only [nmAt, wordB, hb]; rw [if_neg (by omega)]; simp)
                go_wp2_with (first | (go_at_call 63; refine (c_l01Letter _ _).mono ?_; rintro e w' ⟨rfl, rfl⟩) | (go_at_call 64; refine (c_l01Digit _ _).mono ?_; rintro e w' ⟨rfl, rfl⟩))
                go_round
                case rel => exact ⟨k + 1, by omega, by omega, by go_num, Lib.hid (name_more HJ.out HO.out)⟩
                case measure => simp [intOf]; omega
            · have HO := Lib.hid (show nmAt k (byteAt s k) = true by rw [HB.out]; simp only [nmAt, wordB, ha]; rw [if_neg (by omega)]; simp)
              go_wp2_with (first | (go_at_call 63; refine (c_l01Letter _ _).mono ?_; rintro e w' ⟨rfl, rfl⟩) | (go_at_call 64; refine (c_l01Digit _ _).mono ?_; rintro e w' ⟨rfl, rfl⟩))
              go_round
              case rel => exact ⟨k + 1, by omega, by omega, by go_num, Lib.hid (name_more HJ.out HO.out)⟩
              case measure => simp [intOf]; omega
          · have hk' : k = s.size := by omega
            subst hk'
            have HN := Lib.hid (nameB_yes h1 h2 HJ.out)
            go_wp2
            go_ret
            exact ⟨ret_bool HN.out.symm, rfl⟩
    · have HN := Lib.hid (nameB_size (s := s) (.inr (by omega)))
      go_enter Tryz.func35, Tryz.ntmps35
      go_wp2
      all_goals (go_ret; exact ⟨ret_bool HN.out.symm, rfl⟩)
  · have HN := Lib.hid (nameB_size (s := s) (.inl (by omega)))
    go_enter Tryz.func35, Tryz.ntmps35
    go_wp2
    all_goals (go_ret; exact ⟨ret_bool HN.out.symm, rfl⟩)

end Go.Proofs.YtcbifdfcllaaaaaGreatDoor
