/- slices.Backward over a row of strings: the iterator's contract. -/
import Derived.RangeFuncNested
import Derived.RangeFuncBound
import Derived.RangeFuncCalls
import Derived.RangeFuncLeaves
import Derived.RangeFuncBox
import Derived.Shelf.Abstract
import Derived.Shelf.RegionOpen
import Derived.WalkKit
import Derived.OwnWalkIn
import Derived.TacticsInMore
import Derived.LoopNIn
import Derived.LoopIn
import Derived.Test.YtcbifdfcllaaaaaGreatDoorNum
namespace Go.Proofs.YtcbifdfcllaaaaaGreatDoor
open Go.RowKit Go.Shelf Go.Deep
set_option linter.unusedVariables false
set_option linter.unusedSimpArgs false
attribute [local go_sem] Oper.semAt_some

/-- what a round keeps for the iterator: the cells of its box and of the row -/
def KpC (Bs b : Nat) (W W' : World) : Prop := (∀ o v, W.cell? ⟨Bs, o, none⟩ = some v → W'.cell? ⟨Bs, o, none⟩ = some v) ∧ (∀ o v, W.cell? ⟨b, o, none⟩ = some v → W'.cell? ⟨b, o, none⟩ = some v)
theorem KpC.trans {Bs b : Nat} {A B C : World} (h : KpC Bs b A B) (k : KpC Bs b B C) : KpC Bs b A C := ⟨fun o v hv => k.1 o v (h.1 o v hv), fun o v hv => k.2 o v (h.2 o v hv)⟩
theorem KpC.put {Bs b : Nat} (W : World) (l : Nat) (o o' : Obj) (h : W.heap[l]? = some o) (ho : o.isCells = false) : KpC Bs b W (W.putObj l o') :=
  ⟨fun p v hv => cell_kept hv (grownBy_putObj' W l o') (fun r e => by cases e; exact ⟨o, h, ho⟩), fun p v hv => cell_kept hv (grownBy_putObj' W l o') (fun r e => by cases e; exact ⟨o, h, ho⟩)⟩
theorem KpC.of {Bs b : Nat} {W W' : World} (h1 : W'.heap[Bs]? = W.heap[Bs]?) (h2 : W'.heap[b]? = W.heap[b]?) : KpC Bs b W W' :=
  ⟨fun o v hv => (World.cell?_of_block (a := ⟨Bs, o, none⟩) h1).trans hv, fun o v hv => (World.cell?_of_block (a := ⟨b, o, none⟩) h2).trans hv⟩

/-- the indexes that have come when r are still to come -/
def dnS (d r : Nat) : List Nat := (List.range (d - r)).map fun j => d - 1 - j
theorem dnS_len (d r : Nat) : (dnS d r).length = d - r := by simp [dnS]
theorem dnS_all (d : Nat) : dnS d d = [] := by simp [dnS]
theorem dnS_step {d r : Nat} (h : r + 1 ≤ d) : dnS d r = dnS d (r + 1) ++ [r] := by
  unfold dnS
  rw [show d - r = (d - (r + 1)) + 1 by omega, List.range_succ, List.map_append]
  simp only [List.map_cons, List.map_nil]
  rw [show d - 1 - (d - (r + 1)) = r by omega]
abbrev encS (L : List ByteArray) (x : Fin L.length) : Array Value := #[.int .i64 (x.1 : Int), .string L[x.1]]

set_option maxRecDepth 100000 in
set_option maxHeartbeats 2000000 in
theorem backS1_in (n : Nat) (hn : 1 ≤ n) (l Bs b off cap : Nat) (A : Option Addr) (L : List ByteArray) (hd : L.length ≤ 1048576) (hA : 0 < L.length → A = some ⟨b, off, none⟩) (J Jx : List (Fin L.length) → World → Prop)
    (hY : ∀ pre x W, J pre W → pre.length < L.length → YieldAt Fence.wide (n - 1) Tryz.prog l (encS L x) W fun e W' =>
      (e = .returned (.bool true) ∧ J (pre ++ [x]) W' ∧ KpC Bs b W W') ∨ (e = .returned (.bool false) ∧ Jx (pre ++ [x]) W'))
    (W : World) (hBs : W.cell? ⟨Bs, 0, none⟩ = some (.slice A L.length cap)) (hc : ∀ j (h : j < L.length), W.cell? ⟨b, off + j, none⟩ = some (.string L[j])) (h0 : J [] W) :
    CallsIn Fence.wide n Tryz.prog 48 #[.func (.yield l) #[] #[], .pointer (some ⟨Bs, 0, none⟩)] W fun e W' => (∃ v, e = .returned v) ∧
      ((∃ ys : List (Fin L.length), ys.map (fun x => x.1) = dnS L.length 0 ∧ J ys W') ∨ (∃ pre, (∃ r, r < L.length ∧ pre.map (fun x => x.1) = dnS L.length r) ∧ Jx pre W')) := by
  refine callsIn_of_wp Tryz.func48 rfl trivial ?_ rfl
  simp only [Tryz.ntmps48, List.size_toArray, List.length_cons, List.length_nil, Nat.reduceAdd, Nat.reduceSub, Array.replicate_succ, Array.replicate_zero, List.push_toArray, List.append_toArray, List.nil_append, List.cons_append]
  gi_wp2
  gi_loopw [3] (fun i wr => ∃ (r : Nat) (pre : List (Fin L.length)), r ≤ L.length ∧ i = .int .i64 ((r : Int) - 1) ∧ Hid (pre.map (fun x => x.1) = dnS L.length r) ∧ J pre wr ∧ wr.cell? ⟨Bs, 0, none⟩ = some (.slice A L.length cap) ∧ Hid (∀ j (h : j < L.length), wr.cell? ⟨b, off + j, none⟩ = some (.string L[j])))
    (fun i _ => (intOf i + 1).toNat)
  case atStart => exact ⟨L.length, [], Nat.le_refl _, rfl, Lib.hid (by simp [dnS]), h0, hBs, Lib.hid hc⟩
  case round =>
    obtain ⟨r, pre, hr, rfl, HM, hJs, hbs, HC⟩ := hrel
    by_cases hlt : 0 < r
    · obtain ⟨k, hk⟩ : ∃ k, r = k + 1 := ⟨r - 1, by omega⟩
      subst hk
      have hAe := hA (by omega)
      subst hAe
      have E := Lib.hid (show (((k + 1 : Nat) : Int) - 1) = (k : Int) by omega)
      rw [E.out]
      have hkl : k < L.length := by omega
      have hz := HC.out k hkl
      have hlen : pre.length < L.length := by have := congrArg List.length HM.out; rw [List.length_map, dnS_len] at this; omega
      obtain ⟨fn, tmps, assign, body, hy, hR⟩ := hY pre ⟨k, hkl⟩ wr hJs hlen
      dsimp only [encS] at hy
      have HM' := Lib.hid (show (pre ++ [(⟨k, hkl⟩ : Fin L.length)]).map (fun x => x.1) = dnS L.length k by rw [List.map_append, HM.out, dnS_step hr]; rfl)
      have p0 : (0 : Int) ≤ (k : Int) := by omega
      have p1 : (k : Int) < (L.length : Int) := by omega
      clear HM hlen
      gi_wp2
      refine hR.mono ?_
      rintro e W3 (⟨rfl, hJ3, hk3⟩ | ⟨rfl, hJx3⟩)
      · gi_wp2
        go_roundw
        case rel => exact ⟨k, _, by omega, by go_num, HM', hJ3, hk3.1 _ _ hbs, Lib.hid (fun j hj => hk3.2 _ _ (HC.out j hj))⟩
        case measure => simp [intOf]
      · gi_wp2
        refine bodyPost_ret (results_none rfl _ _ _) rfl ?_
        exact ⟨⟨_, rfl⟩, .inr ⟨_, ⟨k, hkl, HM'.out⟩, hJx3⟩⟩
    · obtain rfl : r = 0 := by omega
      gi_wp2
      go_end0
      exact ⟨⟨_, rfl⟩, .inl ⟨pre, HM.out, hJs⟩⟩

set_option maxHeartbeats 1000000 in
theorem backS_in (n : Nat) (a : Option Addr) (len cap : Nat) (w : World) :
    CallsIn Fence.wide n Tryz.prog 23 #[.slice a len cap] w fun e w' => e = .returned (.func (.func 48) #[] #[.pointer (some ⟨w.heap.size, 0, none⟩)]) ∧ w' = w.alloc (.cells #[.slice a len cap] 46) := by
  refine callsIn_of_wp Tryz.func23 rfl trivial ?_ rfl
  simp only [Tryz.ntmps23, List.size_toArray, List.length_cons, List.length_nil, Nat.reduceAdd, Nat.reduceSub, Array.replicate_succ, Array.replicate_zero, List.push_toArray, List.append_toArray, List.nil_append, List.cons_append]
  gi_wp2
  go_ret
  exact ⟨rfl, rfl⟩

theorem backS_stops (n : Nat) (hn : 1 ≤ n) (Bs b off cap : Nat) (A : Option Addr) (L : List ByteArray) (hd : L.length ≤ 1048576) (hA : 0 < L.length → A = some ⟨b, off, none⟩) (w : World) (hBs : Bs < w.heap.size) (hb : 0 < L.length → b < w.heap.size)
    (hc : w.cell? ⟨Bs, 0, none⟩ = some (.slice A L.length cap)) (hI : ∀ j (h : j < L.length), w.cell? ⟨b, off + j, none⟩ = some (.string L[j])) :
    SeqStopsK Fence.wide n Tryz.prog 48 #[.pointer (some ⟨Bs, 0, none⟩)] (encS L) (KpC Bs b) (fun ys => ys.map (fun x => x.1) = dnS L.length 0) (fun pre => ∃ r, r < L.length ∧ pre.map (fun x => x.1) = dnS L.length r) L.length w := fun l J Jx W hW _ _ hY h0 =>
  backS1_in n hn l Bs b off cap A L hd hA J Jx hY W ((hW.cell (p := ⟨Bs, 0, none⟩) hBs).trans hc) (fun j hj => (hW.cell (p := ⟨b, off + j, none⟩) (hb (by omega))).trans (hI j hj)) h0
end Go.Proofs.YtcbifdfcllaaaaaGreatDoor
