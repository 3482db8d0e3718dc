/- Contracts of the two functions that give the rule of blocks, and of the laws' marks of rules. -/
import Derived.Test.YtbhgjkfpgdgkfaaBlock
import Derived.Test.YtbhgjkfpgdgkfaaRule2
namespace Go.Proofs.Ytbhgjkfpgdgkfaa
open Go.RowKit Go.Deep
set_option linter.unusedVariables false
set_option linter.unusedSimpArgs false

def bkS (n : Int) : Int := if inB n 0 255 then 4 else 0
def bkC (n : Int) : Int := if inB n 0 255 then 0 else 2
def bkL (n : Int) : List Int := if inB n 0 255 then blX n 16 else []
theorem bk_yes {n : Int} (h : inB n 0 255 = true) : bkS n = 4 ∧ bkC n = 0 ∧ bkL n = blX n 16 := by simp [bkS, bkC, bkL, h]
theorem bk_no {n : Int} (h : inB n 0 255 = false) : bkS n = 0 ∧ bkC n = 2 ∧ bkL n = [] := by simp [bkS, bkC, bkL, h]
theorem bkL_len (n : Int) : (bkL n).length ≤ 16 := by
  unfold bkL
  split
  · rw [blX_len]; exact Nat.le_refl _
  · simp
/-- A call hands back a rule in new memory and a code. -/
def GivesRuleCode (w : World) (s : Int) (zs : List Int) (c : Int) (E : Ending) (w' : World) : Prop :=
  ∃ u, E = .returned (.tuple #[.agg #[.int .i64 s, u], .int .i64 c]) ∧ Own w' w.heap.size w'.heap.size 2 1 u zs.length (zs.map (Value.int .i64)) ∧ New w w'
theorem own_nil1 (w : World) (lo hi : Nat) (h : hi ≤ w.heap.size) (e : TypeId) : Own w lo hi e 1 (.slice none 0 0) 0 [] :=
  ⟨World.ownsRow_nil _ _ _ _, h, fun g hg => by cases hg⟩

set_option maxHeartbeats 2000000 in
theorem c_specBlockRule (n : Int) (w : World) : Calls Try.prog 43 #[.int .i64 n] w (GivesRuleCode w (bkS n) (bkL n) (bkC n)) := by
  have n0 : New w (w.alloc (.cells #[.int .i64 0, .slice none 0 0] 50)) := (New.same w).box _
  have B0 : BoxV (w.alloc (.cells #[.int .i64 0, .slice none 0 0] 50)) w.heap.size [.int .i64 0, .slice none 0 0] := .two (by go_simp) (by go_simp) (by go_simp) (by go_simp) (by simp)
  have hz : w.heap.size + 1 ≤ (w.alloc (.cells #[.int .i64 0, .slice none 0 0] 50)).heap.size := by simp
  cases hb : inB n 0 255
  · have HE := Lib.hid (bk_no hb)
    have HB := Lib.hid hb
    go_enter Try.func43, Try.ntmps43
    go_wp2_with fail
    generalize (w.alloc (.cells #[.int .i64 0, .slice none 0 0] 50)) = W0 at *
    refine (c_l00In _ _ _ _).mono ?_
    rintro e w1 ⟨rfl, rfl⟩
    rw [HB.out]
    have ⟨⟨c1, d1⟩, ⟨f1, g1⟩, z1⟩ := B0.at2
    go_wp2
    refine bodyPost_ret (v := .tuple #[.agg #[.int .i64 0, .slice none 0 0], .int .i64 2]) (by simp [results, Try.results43, go_sem, *]) rfl ?_
    obtain ⟨e1, e2, e3⟩ := HE.out
    unfold GivesRuleCode
    rw [e1, e2, e3]
    exact ⟨_, rfl, own_nil1 _ _ _ (Nat.le_refl _) _, Below.setCell (Below.setCell n0 (by simp) _) (by simp) _⟩
  · have HE := Lib.hid (bk_yes hb)
    have HB := Lib.hid hb
    obtain ⟨b0, b1⟩ := inB_iff.1 hb
    clear hb
    go_enter Try.func43, Try.ntmps43
    go_wp2_with fail
    generalize (w.alloc (.cells #[.int .i64 0, .slice none 0 0] 50)) = W0 at *
    refine (c_l00In _ _ _ _).mono ?_
    rintro e w1 ⟨rfl, rfl⟩
    rw [HB.out]
    go_wp2_with fail
    refine (c_l16Block n _ b0 b1).mono ?_
    rintro e w2 ⟨u, rfl, hO, n2⟩
    obtain ⟨A, c, rfl⟩ := own_slice hO.1
    replace B0 := B0.new n2
    have N := n0.step n2
    have F3 := ((Fr.refl w.heap.size (w.heap.size + 1) w2).setCell (p := ⟨w.heap.size, 0, none⟩) (by simp) (by simp) (.int .i64 4)).setCell (p := ⟨w.heap.size, 1, none⟩) (by simp) (by simp) (.slice A 16 c)
    have HW := Lib.hid ((hO.fr F3 (.inr hz)).wide (by omega : w.heap.size ≤ _) F3.size (Nat.le_refl _))
    have NN := Lib.hid (New.fr N F3 (Nat.le_refl _))
    clear hO F3
    have ⟨⟨c1, d1⟩, ⟨f1, g1⟩, z1⟩ := B0.at2
    go_wp2
    refine bodyPost_ret (v := .tuple #[.agg #[.int .i64 4, .slice A 16 c], .int .i64 0]) (by simp [results, Try.results43, go_sem, *]) rfl ?_
    obtain ⟨e1, e2, e3⟩ := HE.out
    unfold GivesRuleCode
    rw [e1, e2, e3, blX_len]
    exact ⟨_, rfl, HW.out, NN.out⟩

set_option maxHeartbeats 2000000 in
theorem c_implBlockRule (n : Int) (w : World) : Calls Try.prog 44 #[.int .i64 n] w (GivesRuleCode w (bkS n) (bkL n) (bkC n)) := by
  have n0 : New w (w.alloc (.cells #[.int .i64 0, .slice none 0 0] 50)) := (New.same w).box _
  have B0 : BoxV (w.alloc (.cells #[.int .i64 0, .slice none 0 0] 50)) w.heap.size [.int .i64 0, .slice none 0 0] := .two (by go_simp) (by go_simp) (by go_simp) (by go_simp) (by simp)
  have hz : w.heap.size + 1 ≤ (w.alloc (.cells #[.int .i64 0, .slice none 0 0] 50)).heap.size := by simp
  cases hb : inB n 0 255
  · have HE := Lib.hid (bk_no hb)
    have HB := Lib.hid hb
    go_enter Try.func44, Try.ntmps44
    go_wp2_with fail
    generalize (w.alloc (.cells #[.int .i64 0, .slice none 0 0] 50)) = W0 at *
    refine (c_within _ _ _ _).mono ?_
    rintro e w1 ⟨rfl, rfl⟩
    rw [HB.out]
    have ⟨⟨c1, d1⟩, ⟨f1, g1⟩, z1⟩ := B0.at2
    go_wp2
    refine bodyPost_ret (v := .tuple #[.agg #[.int .i64 0, .slice none 0 0], .int .i64 2]) (by simp [results, Try.results44, go_sem, *]) rfl ?_
    obtain ⟨e1, e2, e3⟩ := HE.out
    unfold GivesRuleCode
    rw [e1, e2, e3]
    exact ⟨_, rfl, own_nil1 _ _ _ (Nat.le_refl _) _, Below.setCell (Below.setCell n0 (by simp) _) (by simp) _⟩
  · have HE := Lib.hid (bk_yes hb)
    have HB := Lib.hid hb
    obtain ⟨b0, b1⟩ := inB_iff.1 hb
    clear hb
    go_enter Try.func44, Try.ntmps44
    go_wp2_with fail
    generalize (w.alloc (.cells #[.int .i64 0, .slice none 0 0] 50)) = W0 at *
    refine (c_within _ _ _ _).mono ?_
    rintro e w1 ⟨rfl, rfl⟩
    rw [HB.out]
    go_wp2_with fail
    refine (c_blockRule n _ b0 b1).mono ?_
    rintro e w2 ⟨u, rfl, hO, n2⟩
    obtain ⟨A, c, rfl⟩ := own_slice hO.1
    replace B0 := B0.new n2
    have N := n0.step n2
    have F3 := ((Fr.refl w.heap.size (w.heap.size + 1) w2).setCell (p := ⟨w.heap.size, 0, none⟩) (by simp) (by simp) (.int .i64 4)).setCell (p := ⟨w.heap.size, 1, none⟩) (by simp) (by simp) (.slice A 16 c)
    have HW := Lib.hid ((hO.fr F3 (.inr hz)).wide (by omega : w.heap.size ≤ _) F3.size (Nat.le_refl _))
    have NN := Lib.hid (New.fr N F3 (Nat.le_refl _))
    clear hO F3
    have ⟨⟨c1, d1⟩, ⟨f1, g1⟩, z1⟩ := B0.at2
    go_wp2
    refine bodyPost_ret (v := .tuple #[.agg #[.int .i64 4, .slice A 16 c], .int .i64 0]) (by simp [results, Try.results44, go_sem, *]) rfl ?_
    obtain ⟨e1, e2, e3⟩ := HE.out
    unfold GivesRuleCode
    rw [e1, e2, e3, blX_len]
    exact ⟨_, rfl, HW.out, NN.out⟩

set_option maxHeartbeats 1000000 in
theorem c_markRule (s : Int) (lo hi : Nat) (v : Value) (n : Nat) (xs : List Value) (m : Int) (w : World) (h : Own w lo hi 2 1 v n xs) (h0 : 0 ≤ m) (h1 : m + (n : Int) ≤ 4611686018427387904) :
    Calls Try.prog 45 #[.agg #[.int .i64 s, v], .int .i64 m] w fun e w' => e = .returned (.int .i64 (m + (n : Int))) ∧ Own w' lo hi 2 1 v n ((marks m n).map (Value.int .i64)) ∧ Fr lo hi w w' := by
  have HO := Lib.hid h
  obtain ⟨_, _, _, A, c, rfl, _⟩ := h.rd
  clear h
  have n0 : New w (w.alloc (.cells #[.int .i64 s, .slice A n c] 50)) := (New.same w).box _
  go_enter Try.func45, Try.ntmps45
  go_wp2_with (go_at_call 50; refine (c_markInt64S lo hi _ n xs m _ (HO.out.new n0) h0 h1).mono ?_; rintro e w1 ⟨rfl, hP, f1⟩)
  go_ret
  exact ⟨rfl, hP, (Fr.of_new n0).trans f1⟩
set_option maxHeartbeats 1000000 in
theorem c_heldRule (s : Int) (lo hi : Nat) (v : Value) (n : Nat) (m : Int) (w : World) (h : Rd w lo hi 1 v n ((marks m n).map (Value.int .i64))) (h0 : 0 ≤ m) (h1 : m + (n : Int) ≤ 4611686018427387904) :
    Calls Try.prog 46 #[.agg #[.int .i64 s, v], .int .i64 m] w fun e w' => e = .returned (.int .i64 (m + (n : Int))) ∧ New w w' := by
  have HR := Lib.hid h
  obtain ⟨_, _, _, A, c, rfl, _⟩ := h
  have n0 : New w (w.alloc (.cells #[.int .i64 s, .slice A n c] 50)) := (New.same w).box _
  go_enter Try.func46, Try.ntmps46
  go_wp2_with (go_at_call 51; refine (c_heldInt64S lo hi _ n m _ (HR.out.new n0) h0 h1).mono ?_; rintro e w1 ⟨rfl, n1⟩)
  go_ret
  exact ⟨rfl, n0.step n1⟩
end Go.Proofs.Ytbhgjkfpgdgkfaa
