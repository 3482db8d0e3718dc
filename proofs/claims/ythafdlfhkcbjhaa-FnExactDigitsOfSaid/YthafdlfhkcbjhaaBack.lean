/- slices.Backward over a row of integers; impl.digitsOf, which fills the row while it ranges over it. -/
import Derived.RangeFuncNested
import Derived.RangeFuncBound
import Derived.RangeFuncCalls
import Derived.RangeFuncLeaves
import Derived.RangeFuncBox
import Derived.Shelf.Abstract
import Derived.Shelf.RegionOpen
import Derived.WalkKit
import Derived.OwnWalkIn
import Derived.TacticsInMore
import Derived.LoopNIn
import Derived.LoopIn
import Derived.Test.YthafdlfhkcbjhaaDigits
namespace Go.Proofs.Ythafdlfhkcbjhaa
open Go.RowKit Go.Shelf Go.Deep
set_option linter.unusedVariables false
set_option linter.unusedSimpArgs false
attribute [local go_sem] Oper.semAt_some

/-- what a round keeps for the iterator: its box, and that the row's cells are integers -/
def KpB (Bs b d : Nat) (W W' : World) : Prop := (∀ v, W.cell? ⟨Bs, 0, none⟩ = some v → W'.cell? ⟨Bs, 0, none⟩ = some v) ∧
  ((∀ j, j < d → ∃ z : Int, W.cell? ⟨b, j, none⟩ = some (.int .i64 z)) → ∀ j, j < d → ∃ z : Int, W'.cell? ⟨b, j, none⟩ = some (.int .i64 z))
theorem KpB.trans {Bs b d : Nat} {A B C : World} (h : KpB Bs b d A B) (k : KpB Bs b d B C) : KpB Bs b d A C := ⟨fun v hv => k.1 v (h.1 v hv), fun hj => k.2 (h.2 hj)⟩
theorem KpB.put {Bs b d : Nat} (W : World) (l : Nat) (o o' : Obj) (h : W.heap[l]? = some o) (ho : o.isCells = false) : KpB Bs b d W (W.putObj l o') :=
  ⟨fun v hv => cell_kept hv (grownBy_putObj' W l o') (fun r e => by cases e; exact ⟨o, h, ho⟩), fun hj j hlt => by
    obtain ⟨z, hz⟩ := hj j hlt
    exact ⟨z, cell_kept hz (grownBy_putObj' W l o') (fun r e => by cases e; exact ⟨o, h, ho⟩)⟩⟩

/-- the indexes that have come when r are still to come -/
def dnI (d r : Nat) : List Nat := (List.range (d - r)).map fun j => d - 1 - j
theorem dnI_len (d r : Nat) : (dnI d r).length = d - r := by simp [dnI]
theorem dnI_step {d r : Nat} (h : r + 1 ≤ d) : dnI d r = dnI d (r + 1) ++ [r] := by
  unfold dnI
  rw [show d - r = (d - (r + 1)) + 1 by omega, List.range_succ, List.map_append]
  simp only [List.map_cons, List.map_nil]
  rw [show d - 1 - (d - (r + 1)) = r by omega]
abbrev encB (d : Nat) (x : Fin d × Int) : Array Value := #[.int .i64 (x.1.1 : Int), .int .i64 x.2]

set_option maxRecDepth 100000 in
set_option maxHeartbeats 2000000 in
theorem back1_in (F : Fence) (n : Nat) (h7 : F.fn 82) (hro : F.round = none) (hn : 1 ≤ n) (l Bs b d : Nat) (hd : d ≤ 1048576) (J Jx : List (Fin d × Int) → World → Prop)
    (hY : ∀ pre x W, J pre W → pre.length < d → YieldAt F (n - 1) Try.prog l (encB d x) W fun e W' =>
      (e = .returned (.bool true) ∧ J (pre ++ [x]) W' ∧ KpB Bs b d W W') ∨ (e = .returned (.bool false) ∧ Jx (pre ++ [x]) W'))
    (W : World) (hBs : W.cell? ⟨Bs, 0, none⟩ = some (.slice (some ⟨b, 0, none⟩) d d)) (hc : ∀ j, j < d → ∃ z : Int, W.cell? ⟨b, j, none⟩ = some (.int .i64 z)) (h0 : J [] W) :
    CallsIn F n Try.prog 82 #[.func (.yield l) #[] #[], .pointer (some ⟨Bs, 0, none⟩)] W fun e W' => (∃ v, e = .returned v) ∧
      ((∃ ys : List (Fin d × Int), ys.map (fun x => x.1.1) = dnI d 0 ∧ J ys W') ∨ (∃ pre, True ∧ Jx pre W')) := by
  refine callsIn_of_wp Try.func82 rfl h7 ?_ hro
  simp only [Try.ntmps82, List.size_toArray, List.length_cons, List.length_nil, Nat.reduceAdd, Nat.reduceSub, Array.replicate_succ, Array.replicate_zero, List.push_toArray, List.append_toArray, List.nil_append, List.cons_append]
  gi_wp2
  gi_loopw [3] (fun i wr => ∃ (r : Nat) (pre : List (Fin d × Int)), r ≤ d ∧ i = .int .i64 ((r : Int) - 1) ∧ Hid (pre.map (fun x => x.1.1) = dnI d r) ∧ J pre wr ∧ wr.cell? ⟨Bs, 0, none⟩ = some (.slice (some ⟨b, 0, none⟩) d d) ∧ Hid (∀ j, j < d → ∃ z : Int, wr.cell? ⟨b, j, none⟩ = some (.int .i64 z)))
    (fun i _ => (intOf i + 1).toNat)
  case atStart => exact ⟨d, [], Nat.le_refl _, rfl, Lib.hid (by simp [dnI]), h0, hBs, Lib.hid hc⟩
  case round =>
    obtain ⟨r, pre, hr, rfl, HM, hJs, hbs, HC⟩ := hrel
    by_cases hlt : 0 < r
    · obtain ⟨k, hk⟩ : ∃ k, r = k + 1 := ⟨r - 1, by omega⟩
      subst hk
      have E := Lib.hid (show (((k + 1 : Nat) : Int) - 1) = (k : Int) by omega)
      rw [E.out]
      obtain ⟨z, hz⟩ := HC.out k (by omega)
      have hlen : pre.length < d := by have := congrArg List.length HM.out; rw [List.length_map, dnI_len] at this; omega
      obtain ⟨fn, tmps, assign, body, hy, hR⟩ := hY pre (⟨k, by omega⟩, z) wr hJs hlen
      dsimp only [encB] at hy
      have HM' := Lib.hid (show (pre ++ [((⟨k, by omega⟩ : Fin d), z)]).map (fun x => x.1.1) = dnI d k by rw [List.map_append, HM.out, dnI_step hr]; rfl)
      clear HM hlen
      gi_wp2
      refine hR.mono ?_
      rintro e W3 (⟨rfl, hJ3, hk3⟩ | ⟨rfl, hJx3⟩)
      · gi_wp2
        go_roundw
        case rel => exact ⟨k, _, by omega, by go_num, HM', hJ3, hk3.1 _ hbs, Lib.hid (hk3.2 HC.out)⟩
        case measure => simp [intOf]
      · gi_wp2
        refine bodyPost_ret (results_none rfl _ _ _) rfl ?_
        exact ⟨⟨_, rfl⟩, .inr ⟨_, trivial, hJx3⟩⟩
    · obtain rfl : r = 0 := by omega
      gi_wp2
      go_end0
      exact ⟨⟨_, rfl⟩, .inl ⟨pre, HM.out, hJs⟩⟩

set_option maxHeartbeats 1000000 in
theorem back_in (F : Fence) (n : Nat) (h5 : F.fn 67) (hro : F.round = none) (a : Option Addr) (len cap : Nat) (w : World) :
    CallsIn F n Try.prog 67 #[.slice a len cap] w fun e w' => e = .returned (.func (.func 82) #[] #[.pointer (some ⟨w.heap.size, 0, none⟩)]) ∧ w' = w.alloc (.cells #[.slice a len cap] 22) := by
  refine callsIn_of_wp Try.func67 rfl h5 ?_ hro
  simp only [Try.ntmps67, List.size_toArray, List.length_cons, List.length_nil, Nat.reduceAdd, Nat.reduceSub, Array.replicate_succ, Array.replicate_zero, List.push_toArray, List.append_toArray, List.nil_append, List.cons_append]
  gi_wp2
  go_ret
  exact ⟨rfl, rfl⟩

theorem back_stops (F : Fence) (n : Nat) (h7 : F.fn 82) (hro : F.round = none) (hn : 1 ≤ n) (Bs b d : Nat) (hd : d ≤ 1048576) (w : World) (hBs : Bs < w.heap.size) (hb : b < w.heap.size)
    (hc : w.cell? ⟨Bs, 0, none⟩ = some (.slice (some ⟨b, 0, none⟩) d d)) (hI : ∀ j, j < d → ∃ z : Int, w.cell? ⟨b, j, none⟩ = some (.int .i64 z)) :
    SeqStopsK F n Try.prog 82 #[.pointer (some ⟨Bs, 0, none⟩)] (encB d) (KpB Bs b d) (fun ys => ys.map (fun x => x.1.1) = dnI d 0) (fun _ => True) d w := fun l J Jx W hW _ _ hY h0 =>
  back1_in F n h7 hro hn l Bs b d hd J Jx hY W ((hW.cell (p := ⟨Bs, 0, none⟩) hBs).trans hc) (fun j hj => by obtain ⟨z, hz⟩ := hI j hj; exact ⟨z, (hW.cell (p := ⟨b, j, none⟩) hb).trans hz⟩) h0
end Go.Proofs.Ythafdlfhkcbjhaa
