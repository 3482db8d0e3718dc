/- spec.l01Split: a text's pieces. -/
import Derived.Test.YtcbifdfcllaaaaaGreatDoorStrO
import Derived.Deep.DeepCutAuto
namespace Go.Proofs.YtcbifdfcllaaaaaGreatDoor
open Go.RowKit Go.Deep
set_option linter.unusedVariables false
set_option linter.unusedSimpArgs false

/-- the pieces of cur ++ l, parted at c; cur holds none -/
def spl (c : UInt8) (cur : List UInt8) : List UInt8 → List (List UInt8)
  | [] => [cur]
  | x :: r => if x = c then cur :: spl c [] r else spl c (cur ++ [x]) r
theorem spl_ne (c : UInt8) : ∀ (l cur : List UInt8), spl c cur l ≠ []
  | [], cur => by simp [spl]
  | x :: r, cur => by
    unfold spl
    split
    · simp
    · exact spl_ne c r _
theorem spl_one (c : UInt8) : ∀ (l cur b : List UInt8), spl c cur l = [b] → b = cur ++ l
  | [], cur, b, h => by simpa [spl] using h.symm
  | x :: r, cur, b, h => by
    unfold spl at h
    split at h
    · simp only [List.cons.injEq] at h
      exact absurd h.2 (spl_ne c r [])
    · rw [spl_one c r _ b h]; simp
theorem spl_two (c : UInt8) : ∀ (l cur a b : List UInt8), spl c cur l = [a, b] → cur ++ l = a ++ c :: b
  | [], cur, a, b, h => by simp [spl] at h
  | x :: r, cur, a, b, h => by
    unfold spl at h
    split at h
    · rename_i hx
      simp only [List.cons.injEq] at h
      obtain ⟨rfl, h2⟩ := h
      rw [spl_one c r [] b h2, hx]
      simp
    · rw [← spl_two c r _ a b h]; simp
theorem spl_free (c : UInt8) : ∀ (b cur : List UInt8), c ∉ b → spl c cur b = [cur ++ b]
  | [], cur, _ => by simp [spl]
  | x :: r, cur, h => by
    have hx : x ≠ c := fun e => h (by simp [e])
    unfold spl
    rw [if_neg hx, spl_free c r _ (fun e => h (by simp [e]))]
    simp
theorem spl_mk (c : UInt8) : ∀ (a cur b : List UInt8), c ∉ a → c ∉ b → spl c cur (a ++ c :: b) = [cur ++ a, b]
  | [], cur, b, _, hb => by simp [spl, spl_free c b [] hb]
  | x :: r, cur, b, ha, hb => by
    have hx : x ≠ c := fun e => ha (by simp [e])
    simp only [List.cons_append]
    unfold spl
    rw [if_neg hx, spl_mk c r _ b (fun e => ha (by simp [e])) hb]
    simp
/-- pieces as strings -/
def strs (ls : List (List UInt8)) : List Value := ls.map fun l => .string ⟨l.toArray⟩
def mid (l : List UInt8) (a b : Nat) : List UInt8 := (l.drop a).take (b - a)
theorem spl_at {c : UInt8} {s : ByteArray} {f k : Nat} (hf : f ≤ k) (hk : k < s.size) : spl c (mid s.data.toList f k) (s.data.toList.drop k) = if s[k] = c then mid s.data.toList f k :: spl c [] (s.data.toList.drop (k + 1)) else spl c (mid s.data.toList f (k + 1)) (s.data.toList.drop (k + 1)) := by
  have hl : k < s.data.toList.length := by rw [Array.length_toList]; exact hk
  have e : s.data.toList[k] = s[k] := by
    have := list_at s hk
    rw [List.getElem?_eq_getElem hl] at this
    simpa using this
  rw [List.drop_eq_getElem_cons hl, spl, e]
  congr 2
  unfold mid
  rw [show k + 1 - f = (k - f) + 1 by omega, List.take_succ_eq_append_getElem (by rw [List.length_drop]; omega)]
  simp [e, show f + (k - f) = k by omega]
theorem mid_self (l : List UInt8) (k : Nat) : mid l k k = [] := by simp [mid]

theorem ext_mid (s : ByteArray) (f k : Nat) : (.string (s.extract f k) : Value) = .string ⟨(mid s.data.toList f k).toArray⟩ := by
  congr 1
  apply ByteArray.ext
  apply Array.ext'
  simp [mid, List.extract]
theorem strs_snoc (P : List (List UInt8)) (x : List UInt8) : strs (P ++ [x]) = strs P ++ [.string ⟨x.toArray⟩] := by simp [strs]

set_option maxRecDepth 20000 in
set_option maxHeartbeats 4000000 in
theorem c_l01Split (s : ByteArray) (c : UInt8) (w : World) (hs : s.size ≤ 1048576) : Calls Tryz.prog 39 #[.string s, .int .u8 (c.toNat : Int)] w (GivesRow w 9 1 (spl c [] s.data.toList).length (strs (spl c [] s.data.toList))) := by
  go_enter Tryz.func39, Tryz.ntmps39
  go_wp2
  go_loopw [5, 6, 7] (fun v fr i wr => ∃ (f k : Nat) (P : List (List UInt8)), f ≤ k ∧ k ≤ s.size ∧ fr = .int .i64 f ∧ i = .int .i64 k ∧ Hid (spl c [] s.data.toList = P ++ spl c (mid s.data.toList f k) (s.data.toList.drop k)) ∧ P.length ≤ k ∧ wr.ownsRow w.heap.size 9 1 v P.length (strs P) ∧ New w wr) (fun _ _ i _ => s.size - (intOf i).toNat)
  case atStart => exact ⟨0, 0, [], Nat.le_refl _, Nat.zero_le _, rfl, rfl, Lib.hid (by simp [mid]), Nat.le_refl _, World.ownsRow_made w #[] 0 (Nat.le_refl _) (by omega) rfl, (New.same _).box _⟩
  case round =>
    obtain ⟨f, k, P, hfk, hk, rfl, rfl, HS, hP, hown, hN⟩ := hrel
    obtain ⟨Ar, cr, rfl⟩ := own_sl hown
    have hz2 : w.heap.size ≤ wr.heap.size := hN.size
    by_cases hlt : k < s.size
    · have HA := Lib.hid (spl_at (c := c) hfk hlt)
      by_cases hq : s[k] = c
      · have g2 : ((s[k].toNat : Int) == (c.toNat : Int)) = true := by rw [hq]; exact beq_self_eq_true _
        have g3 : decide ((s[k].toNat : Int) = (c.toNat : Int)) = true := by rw [hq]; simp
        have HQ := Lib.hid (show spl c [] s.data.toList = (P ++ [mid s.data.toList f k]) ++ spl c (mid s.data.toList (k + 1) (k + 1)) (s.data.toList.drop (k + 1)) by
          rw [HS.out, HA.out, if_pos hq, mid_self]; simp)
        clear hq
        go_wp2_with (at_builtin; refine wpList_app1 rfl _ _ rfl row_Str _ w.heap.size hown rfl [.string (s.extract f k)] rfl rfl (by simp [Value.oneCell']) (by unfold maxLen; omega) (by omega) hz2 ?_; intro v1 w3 hown1 hb3 _ _)
        have hN3 : New w w3 := hN.trans (hb3.mono (by omega))
        go_roundw
        case rel => exact ⟨k + 1, k + 1, P ++ [mid s.data.toList f k], Nat.le_refl _, by omega, by go_num, by go_num, HQ, by simp; omega, by rw [strs_snoc, List.length_append, ← ext_mid]; exact hown1, hN3⟩
        case measure => simp [intOf]; omega
      · have g2 : ((s[k].toNat : Int) == (c.toNat : Int)) = false := by
          rw [beq_eq_false_iff_ne]; intro e; exact hq (UInt8.toNat_inj.1 (by omega))
        have g3 : decide ((s[k].toNat : Int) = (c.toNat : Int)) = false := by
          rw [decide_eq_false_iff_not]; intro e; exact hq (UInt8.toNat_inj.1 (by omega))
        have HQ := Lib.hid (show spl c [] s.data.toList = P ++ spl c (mid s.data.toList f (k + 1)) (s.data.toList.drop (k + 1)) by
          rw [HS.out, HA.out, if_neg hq])
        clear hq
        go_wp2
        go_roundw
        case rel => exact ⟨f, k + 1, P, by omega, by omega, rfl, by go_num, HQ, by omega, hown, hN⟩
        case measure => simp [intOf]; omega
    · have hk' : k = s.size := by omega
      subst hk'
      have HQ := Lib.hid (show spl c [] s.data.toList = P ++ [mid s.data.toList f s.size] by
        rw [HS.out, List.drop_of_length_le (by rw [Array.length_toList]; exact Nat.le_refl _)]; rfl)
      go_wp2_with (at_builtin; refine wpList_app1 rfl _ _ rfl row_Str _ w.heap.size hown rfl [.string (s.extract f s.size)] rfl rfl (by simp [Value.oneCell']) (by unfold maxLen; omega) (by omega) hz2 ?_; intro v1 w3 hown1 hb3 _ _)
      go_ret
      refine ⟨_, rfl, ?_, hN.trans (hb3.mono (by omega))⟩
      rw [HQ.out, strs_snoc, List.length_append, ← ext_mid]
      exact Own.of hown1
end Go.Proofs.YtcbifdfcllaaaaaGreatDoor
