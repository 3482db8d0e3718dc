/- Contracts of the two functions that hand back a shape behind a symmetry. -/
import Derived.Test.YtmjnjdoegjdlhaaTurn
namespace Go.Proofs.Ytmjnjdoegjdlhaa
open Go.RowKit Go.Deep
set_option linter.unusedVariables false

def trnL (zs : List (Int × Int)) (s : Int) : List (Int × Int) := sortR (homL (turnL s zs))
def turnRes (zs : List (Int × Int)) (s : Int) : List (Int × Int) := if shpB zs && inB s 0 7 then vldL (trnL zs s) else []
def turnCode (zs : List (Int × Int)) (s : Int) : Int := if shpB zs then (if inB s 0 7 then vldC (trnL zs s) else 2) else 1
theorem turnRes_len (zs : List (Int × Int)) (s : Int) : (turnRes zs s).length ≤ 500 := by
  unfold turnRes
  split
  · exact vldL_len _
  · simp

set_option maxHeartbeats 1000000 in
theorem c_specTurn (lo hi : Nat) (v : Value) (zs : List (Int × Int)) (s : Int) (w : World) (h : Rd w lo hi 2 v zs.length (zs.flatMap ptCells)) :
    Calls Try.prog 18 #[v, .int .i64 s] w (GivesRowCode w 40 2 (turnRes zs s).length ((turnRes zs s).flatMap ptCells) (turnCode zs s)) := by
  have HR := Lib.hid h
  cases hs : shpB zs
  · have E := Lib.hid (show turnRes zs s = [] ∧ turnCode zs s = 1 by simp [turnRes, turnCode, hs])
    rw [E.out.1, E.out.2]
    go_enter Try.func18, Try.ntmps18
    go_wp2_with (go_at_call 29; refine (c_l04Ok lo hi _ zs _ HR.out).mono ?_; rintro e w1 ⟨rfl, n1⟩)
    go_ret2
    exact ⟨_, rfl, own_nil _ _ (Nat.le_refl _) _ _ _, n1⟩
  · obtain ⟨hn, hl⟩ := shpB_len hs
    have HB := Lib.hid (bdL_shp hs)
    cases hi7 : inB s 0 7
    · have E := Lib.hid (show turnRes zs s = [] ∧ turnCode zs s = 2 by simp [turnRes, turnCode, hs, hi7])
      rw [E.out.1, E.out.2]
      go_enter Try.func18, Try.ntmps18
      go_wp2_with fail
      refine (c_l04Ok lo hi _ zs _ HR.out).mono ?_
      rintro e w1 ⟨rfl, n1⟩
      go_wp2_with (go_at_call 39; refine (c_l00In _ _ _ _).mono ?_; rintro e w' ⟨rfl, rfl⟩)
      go_ret2
      exact ⟨_, rfl, own_nil _ _ (Nat.le_refl _) _ _ _, n1⟩
    · obtain ⟨s0, s7⟩ := inB_iff.1 hi7
      cases hv : shpB (trnL zs s)
      · have E := Lib.hid (show turnRes zs s = [] ∧ turnCode zs s = 2 by simp [turnRes, turnCode, vldL, vldC, hs, hi7, hv])
        rw [E.out.1, E.out.2]
        go_enter Try.func18, Try.ntmps18
        go_wp2_with fail
        refine (c_l04Ok lo hi _ zs _ HR.out).mono ?_
        rintro e w1 ⟨rfl, n1⟩
        go_wp2_with (go_at_call 39; refine (c_l00In _ _ _ _).mono ?_; rintro e w' ⟨rfl, rfl⟩)
        refine (c_l04Turned lo hi _ zs s _ (HR.out.new n1) hn (by omega) HB.out s0 s7).mono ?_
        rintro e w2 ⟨u, rfl, hO, n2⟩
        go_wp2_with fail
        refine (c_l04Ok _ _ _ (trnL zs s) _ hO.rd).mono ?_
        rintro e w3 ⟨rfl, n3⟩
        go_wp2
        go_ret2
        exact ⟨_, rfl, own_nil _ _ (Nat.le_refl _) _ _ _, (n1.step n2).step n3⟩
      · have E := Lib.hid (show turnRes zs s = trnL zs s ∧ turnCode zs s = 0 by simp [turnRes, turnCode, vldL, vldC, hs, hi7, hv])
        rw [E.out.1, E.out.2]
        go_enter Try.func18, Try.ntmps18
        go_wp2_with fail
        refine (c_l04Ok lo hi _ zs _ HR.out).mono ?_
        rintro e w1 ⟨rfl, n1⟩
        go_wp2_with (go_at_call 39; refine (c_l00In _ _ _ _).mono ?_; rintro e w' ⟨rfl, rfl⟩)
        refine (c_l04Turned lo hi _ zs s _ (HR.out.new n1) hn (by omega) HB.out s0 s7).mono ?_
        rintro e w2 ⟨u, rfl, hO, n2⟩
        go_wp2_with fail
        refine (c_l04Ok _ _ _ (trnL zs s) _ hO.rd).mono ?_
        rintro e w3 ⟨rfl, n3⟩
        go_wp2
        go_ret2
        exact ⟨_, rfl, ((hO.new n3).wide n1.size n3.size (Nat.le_refl _)), (n1.step n2).step n3⟩

set_option maxHeartbeats 1000000 in
theorem c_implTurn (lo hi : Nat) (v : Value) (zs : List (Int × Int)) (s : Int) (w : World) (h : Rd w lo hi 2 v zs.length (zs.flatMap ptCells)) :
    Calls Try.prog 19 #[v, .int .i64 s] w (GivesRowCode w 40 2 (turnRes zs s).length ((turnRes zs s).flatMap ptCells) (turnCode zs s)) := by
  have HR := Lib.hid h
  cases hs : shpB zs
  · have E := Lib.hid (show turnRes zs s = [] ∧ turnCode zs s = 1 by simp [turnRes, turnCode, hs])
    have EC := show shpC zs (inB s 0 7) = 1 by simp [shpC, hs]
    rw [E.out.1, E.out.2]
    go_enter Try.func19, Try.ntmps19
    go_wp2_with (go_at_call 33; refine (c_within _ _ _ _).mono ?_; rintro e w' ⟨rfl, rfl⟩)
    refine (c_shapeCode lo hi _ zs (inB s 0 7) _ HR.out).mono ?_
    rintro e w1 ⟨rfl, n1⟩
    rw [EC]
    go_wp2
    go_ret2
    exact ⟨_, rfl, own_nil _ _ (Nat.le_refl _) _ _ _, n1⟩
  · obtain ⟨hn, hl⟩ := shpB_len hs
    have HB := Lib.hid (bdL_shp hs)
    have HD := Lib.hid (shp_nd hs)
    cases hi7 : inB s 0 7
    · have E := Lib.hid (show turnRes zs s = [] ∧ turnCode zs s = 2 by simp [turnRes, turnCode, hs, hi7])
      have EC := show shpC zs false = 2 by simp [shpC, hs]
      rw [E.out.1, E.out.2]
      go_enter Try.func19, Try.ntmps19
      go_wp2_with (go_at_call 33; refine (c_within _ _ _ _).mono ?_; rintro e w' ⟨rfl, rfl⟩)
      refine (c_shapeCode lo hi _ zs false _ HR.out).mono ?_
      rintro e w1 ⟨rfl, n1⟩
      rw [EC]
      go_wp2
      go_ret2
      exact ⟨_, rfl, own_nil _ _ (Nat.le_refl _) _ _ _, n1⟩
    · obtain ⟨s0, s7⟩ := inB_iff.1 hi7
      have E := Lib.hid (show turnRes zs s = vldL (trnL zs s) ∧ turnCode zs s = vldC (trnL zs s) by simp [turnRes, turnCode, hs, hi7])
      have EC := show shpC zs true = 0 by simp [shpC, hs]
      rw [E.out.1, E.out.2]
      go_enter Try.func19, Try.ntmps19
      go_wp2_with (go_at_call 33; refine (c_within _ _ _ _).mono ?_; rintro e w' ⟨rfl, rfl⟩)
      refine (c_shapeCode lo hi _ zs true _ HR.out).mono ?_
      rintro e w1 ⟨rfl, n1⟩
      rw [EC]
      go_wp2_with fail
      refine (c_turned lo hi _ zs s _ (HR.out.new n1) hn (by omega) HB.out HD.out s0 s7).mono ?_
      rintro e w2 ⟨u, rfl, hO, n2⟩
      go_wp2_with fail
      refine (c_validated _ _ _ (trnL zs s) _ hO).mono ?_
      rintro e w3 ⟨u3, rfl, hP, n3⟩
      go_wp2
      go_ret2
      exact ⟨_, rfl, hP.wide n1.size n3.size (Nat.le_refl _), (n1.step n2).step n3⟩

end Go.Proofs.Ytmjnjdoegjdlhaa
