/- Contracts of the two functions that hand back a shape moved home. -/
import Derived.Test.YtmjnjdoegjdlhaaHome
namespace Go.Proofs.Ytmjnjdoegjdlhaa
open Go.RowKit Go.Deep
set_option linter.unusedVariables false

def homeRes (zs : List (Int × Int)) : List (Int × Int) := if shpB zs then vldL (homL zs) else []
def homeCode (zs : List (Int × Int)) : Int := if shpB zs then vldC (homL zs) else 1
theorem homeRes_len (zs : List (Int × Int)) : (homeRes zs).length ≤ 500 := by
  unfold homeRes
  split
  · exact vldL_len _
  · simp

set_option maxHeartbeats 1000000 in
theorem c_specHome (lo hi : Nat) (v : Value) (zs : List (Int × Int)) (w : World) (h : Rd w lo hi 2 v zs.length (zs.flatMap ptCells)) :
    Calls Try.prog 14 #[v] w (GivesRowCode w 40 2 (homeRes zs).length ((homeRes zs).flatMap ptCells) (homeCode zs)) := by
  have HR := Lib.hid h
  cases hs : shpB zs
  · have E := Lib.hid (show homeRes zs = [] ∧ homeCode zs = 1 by simp [homeRes, homeCode, hs])
    rw [E.out.1, E.out.2]
    go_enter Try.func14, Try.ntmps14
    go_wp2_with (go_at_call 29; refine (c_l04Ok lo hi _ zs _ HR.out).mono ?_; rintro e w1 ⟨rfl, n1⟩)
    go_ret2
    exact ⟨_, rfl, own_nil _ _ (Nat.le_refl _) _ _ _, n1⟩
  · obtain ⟨hn, hl⟩ := shpB_len hs
    have HB := Lib.hid (bdL_shp hs)
    have HM := Lib.hid (homL_len zs)
    cases hv : shpB (homL zs)
    · have E := Lib.hid (show homeRes zs = [] ∧ homeCode zs = 2 by simp [homeRes, homeCode, vldL, vldC, hs, hv])
      rw [E.out.1, E.out.2]
      go_enter Try.func14, Try.ntmps14
      go_wp2_with fail
      refine (c_l04Ok lo hi _ zs _ HR.out).mono ?_
      rintro e w1 ⟨rfl, n1⟩
      go_wp2_with fail
      refine (c_l04Home lo hi _ zs _ (HR.out.new n1) hn (by omega) HB.out).mono ?_
      rintro e w2 ⟨u, rfl, hO, n2⟩
      go_wp2_with fail
      refine (c_l04Ok _ _ _ (homL zs) _ (by rw [HM.out]; exact hO.rd)).mono ?_
      rintro e w3 ⟨rfl, n3⟩
      go_wp2
      go_ret2
      exact ⟨_, rfl, own_nil _ _ (Nat.le_refl _) _ _ _, (n1.step n2).step n3⟩
    · have E := Lib.hid (show homeRes zs = homL zs ∧ homeCode zs = 0 by simp [homeRes, homeCode, vldL, vldC, hs, hv])
      rw [E.out.1, E.out.2]
      go_enter Try.func14, Try.ntmps14
      go_wp2_with fail
      refine (c_l04Ok lo hi _ zs _ HR.out).mono ?_
      rintro e w1 ⟨rfl, n1⟩
      go_wp2_with fail
      refine (c_l04Home lo hi _ zs _ (HR.out.new n1) hn (by omega) HB.out).mono ?_
      rintro e w2 ⟨u, rfl, hO, n2⟩
      go_wp2_with fail
      refine (c_l04Ok _ _ _ (homL zs) _ (by rw [HM.out]; exact hO.rd)).mono ?_
      rintro e w3 ⟨rfl, n3⟩
      go_wp2
      go_ret2
      exact ⟨_, rfl, by rw [HM.out]; exact ((hO.new n3).wide n1.size n3.size (Nat.le_refl _)), (n1.step n2).step n3⟩

set_option maxHeartbeats 1000000 in
theorem c_implHome (lo hi : Nat) (v : Value) (zs : List (Int × Int)) (w : World) (h : Rd w lo hi 2 v zs.length (zs.flatMap ptCells)) :
    Calls Try.prog 15 #[v] w (GivesRowCode w 40 2 (homeRes zs).length ((homeRes zs).flatMap ptCells) (homeCode zs)) := by
  have HR := Lib.hid h
  cases hs : shpB zs
  · have E := Lib.hid (show homeRes zs = [] ∧ homeCode zs = 1 by simp [homeRes, homeCode, hs])
    have EC := show shpC zs true = 1 by simp [shpC, hs]
    rw [E.out.1, E.out.2]
    go_enter Try.func15, Try.ntmps15
    go_wp2_with fail
    refine (c_shapeCode lo hi _ zs true _ HR.out).mono ?_
    rintro e w1 ⟨rfl, n1⟩
    rw [EC]
    go_wp2
    go_ret2
    exact ⟨_, rfl, own_nil _ _ (Nat.le_refl _) _ _ _, n1⟩
  · obtain ⟨hn, hl⟩ := shpB_len hs
    have HB := Lib.hid (bdL_shp hs)
    have HM := Lib.hid (homL_len zs)
    have E := Lib.hid (show homeRes zs = vldL (homL zs) ∧ homeCode zs = vldC (homL zs) by simp [homeRes, homeCode, hs])
    have EC := show shpC zs true = 0 by simp [shpC, hs]
    rw [E.out.1, E.out.2]
    go_enter Try.func15, Try.ntmps15
    go_wp2_with fail
    refine (c_shapeCode lo hi _ zs true _ HR.out).mono ?_
    rintro e w1 ⟨rfl, n1⟩
    rw [EC]
    go_wp2_with fail
    refine (c_home lo hi _ zs _ (HR.out.new n1) hn (by omega) HB.out).mono ?_
    rintro e w2 ⟨u, rfl, hO, n2⟩
    go_wp2_with fail
    refine (c_validated _ _ _ (homL zs) _ (by rw [HM.out]; exact hO)).mono ?_
    rintro e w3 ⟨u3, rfl, hP, n3⟩
    go_wp2
    go_ret2
    exact ⟨_, rfl, hP.wide n1.size n3.size (Nat.le_refl _), (n1.step n2).step n3⟩

end Go.Proofs.Ytmjnjdoegjdlhaa
