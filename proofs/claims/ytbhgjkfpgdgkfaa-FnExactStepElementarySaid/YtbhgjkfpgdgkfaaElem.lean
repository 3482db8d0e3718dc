/- Contracts of the step of an elementary automaton. -/
import Derived.Test.YtbhgjkfpgdgkfaaCells
import Derived.Test.YtbhgjkfpgdgkfaaStep
namespace Go.Proofs.Ytbhgjkfpgdgkfaa
open Go.RowKit
set_option linter.unusedVariables false

/-- the first k cells of the next row -/
def stX (n : Int) (zs : List Int) (k : Nat) : List Int := (List.range k).map fun i => nxI n (zs.getD i 0) (zs.getD (i + 1) 0) (zs.getD (i + 2) 0)
theorem stX_len (n : Int) (zs : List Int) (k : Nat) : (stX n zs k).length = k := by simp [stX]
theorem stX_succ {n : Int} {zs : List Int} {k : Nat} (h0 : k < zs.length) (h1 : k + 1 < zs.length) (h2 : k + 2 < zs.length) : stX n zs (k + 1) = stX n zs k ++ [nxI n zs[k] zs[k + 1] zs[k + 2]] := by
  simp [stX, List.range_succ, List.getD_eq_getElem?_getD, h0, h1, h2]
theorem st_step {w' : World} {base : Nat} {e : TypeId} {v : Value} {n : Int} {zs : List Int} {k k1 k2 : Nat} (e1 : k1 = k + 1) (e2 : k2 = k + 2) (h0 : k < zs.length) (h1 : k1 < zs.length) (h2 : k2 < zs.length)
    (h : w'.ownsRow base e 1 v (k + 1) ((stX n zs k).map (Value.int .i64) ++ [.int .i64 (nxI n zs[k] zs[k1] zs[k2])])) :
    w'.ownsRow base e 1 v (k + 1) ((stX n zs (k + 1)).map (Value.int .i64)) := by
  subst e1; subst e2
  rw [stX_succ h0 h1 h2, List.map_append]
  exact h
def stList (n : Int) (zs : List Int) : List Int := if eleB n zs then stX n zs (zs.length - 2) else []
def stCode (n : Int) (zs : List Int) : Int := if eleB n zs then 0 else 2
theorem stList_len (n : Int) (zs : List Int) : (stList n zs).length ≤ 24 := by
  unfold stList
  split
  · rename_i h
    simp only [eleB, celB, Bool.and_eq_true, decide_eq_true_eq] at h
    rw [stX_len]; omega
  · simp

set_option maxHeartbeats 4000000 in
theorem c_l16Step (n : Int) (lo hi : Nat) (v : Value) (zs : List Int) (w : World) (h : Rd w lo hi 1 v zs.length (zs.map (Value.int .i64))) (n0 : 0 ≤ n) (n1 : n ≤ 255) (hl : zs.length ≤ 24) (hb2 : belB 2 zs = true) :
    Calls Try.prog 81 #[.int .i64 n, v] w (GivesRow w 2 1 (zs.length - 2) ((stX n zs (zs.length - 2)).map (Value.int .i64))) := by
  obtain ⟨_, hm, hh, A, c, rfl, hrd⟩ := h
  have HB := Lib.hid (fun k hk => belB_at (k := k) hb2 hk)
  clear hb2
  go_enter Try.func81, Try.ntmps81
  go_wp2
  go_loopw [5, 6] (fun v i wr => ∃ k k1 : Nat, Hid (k1 = k + 1) ∧ k ≤ zs.length - 2 ∧ i = .int .i64 k1 ∧ wr.ownsRow w.heap.size 2 1 v k ((stX n zs k).map (Value.int .i64)) ∧ New w wr) (fun _ i _ => zs.length - (intOf i).toNat)
  case atStart => exact ⟨0, 1, Lib.hid rfl, by omega, rfl, World.ownsRow_made w #[] 0 (Nat.le_refl _) (by omega) rfl, (New.same w).box _⟩
  case round =>
    obtain ⟨k, k1, Hk1, hk, rfl, hown, hN⟩ := hrel
    have hk1 := Hk1.out
    have hz := hN.size
    have kb : (k1 : Int) ≤ 100 := by omega
    by_cases hlt : k + 2 < zs.length
    · obtain ⟨k2, hk2⟩ : ∃ k2, k2 = k + 2 := ⟨_, rfl⟩
      obtain ⟨b, off, rfl, _, hb1, hc⟩ := hrd (by omega)
      have y0 : k < zs.length := by omega
      have y1 : k1 < zs.length := by omega
      have y2 : k2 < zs.length := by omega
      have x0 : wr.cell? ⟨b, off + k, none⟩ = some (.int .i64 zs[k]) := by
        rw [hN.cell (p := ⟨b, off + k, none⟩) (by simp; omega)]
        exact hc k _ (by simp [y0])
      have x1 : wr.cell? ⟨b, off + k1, none⟩ = some (.int .i64 zs[k1]) := by
        rw [hN.cell (p := ⟨b, off + k1, none⟩) (by simp; omega)]
        exact hc k1 _ (by simp [y1])
      have x2 : wr.cell? ⟨b, off + k2, none⟩ = some (.int .i64 zs[k2]) := by
        rw [hN.cell (p := ⟨b, off + k2, none⟩) (by simp; omega)]
        exact hc k2 _ (by simp [y2])
      obtain ⟨d0, d1⟩ := HB.out k y0
      obtain ⟨d2, d3⟩ := HB.out k1 y1
      obtain ⟨d4, d5⟩ := HB.out k2 y2
      clear hc hrd
      have t1 : ((k1 : Nat) : Int) + 1 < (zs.length : Int) := by omega
      have p0 : (0 : Int) ≤ (k : Int) := by omega
      have p0' : (k : Int) < (zs.length : Int) := by omega
      have p1 : (0 : Int) ≤ (k1 : Int) := by omega
      have p1' : (k1 : Int) < (zs.length : Int) := by omega
      have p2 : (0 : Int) ≤ (k2 : Int) := by omega
      have p2' : (k2 : Int) < (zs.length : Int) := by omega
      have hbB : b < w.heap.size := by omega
      have hbw : b < wr.heap.size := by omega
      have HST := Lib.hid (fun (w' : World) (v : Value) => st_step (w' := w') (base := w.heap.size) (e := 2) (v := v) (n := n) hk1 hk2 y0 y1 y2)
      generalize zs[k] = q0 at *
      generalize zs[k1] = q1 at *
      generalize zs[k2] = q2 at *
      have E1 : Hid (IntKind.i64.wrap ((k1 : Int) - 1) = (k : Int)) := Lib.hid (by rw [IntWalk.i64_in _ (by omega)]; omega)
      have E2 : Hid (IntKind.i64.wrap ((k1 : Int) + 1) = (k2 : Int)) := Lib.hid (by rw [IntWalk.i64_in _ (by omega)]; omega)
      clear hk1 hk2
      go_upto_region 5 with fail
      have e1 := E1.out
      have e2 := E2.out
      go_region_held3 (fun w' => w'.cell? ⟨b, off + k, none⟩ = some (.int .i64 q0) ∧ w'.cell? ⟨b, off + k1, none⟩ = some (.int .i64 q1) ∧ w'.cell? ⟨b, off + k2, none⟩ = some (.int .i64 q2))
        (first | exact ⟨x0, x1, x2⟩ | exact ⟨((((New.same wr).drew_).box _).cell (p := ⟨b, off + k, none⟩) hbw).trans x0, ((((New.same wr).drew_).box _).cell (p := ⟨b, off + k1, none⟩) hbw).trans x1, ((((New.same wr).drew_).box _).cell (p := ⟨b, off + k2, none⟩) hbw).trans x2⟩ | (go_split_ands; exact ⟨(hb3.cell (p := ⟨b, off + k, none⟩) hbB).trans (by assumption), (hb3.cell (p := ⟨b, off + k1, none⟩) hbB).trans (by assumption), (hb3.cell (p := ⟨b, off + k2, none⟩) hbB).trans (by assumption)⟩))
        (first | (go_at_call 89; refine (c_l16Next n q0 q1 q2 _ n0 n1 (by omega) (by omega) (by omega) (by omega) (by omega) (by omega)).mono ?_; rintro e w' ⟨rfl, rfl⟩) | (refine step_app1 (by rfl) _ _ (by rfl) row_int64 w.heap.size ((hown.alloc _).drew) (by rfl) [.int .i64 (nxI n q0 q1 q2)] wr.heap.size (by rfl) (heap_alloc_new _ _) rfl (by simp [Value.oneCell']) (by unfold maxLen; omega) (by omega) (by simp; omega) ?_; intro v1 w1 hown1 hb3))
      have hN1 : New w w1 := (hN.drew_.box _).trans hb3
      clear hb3 e1 e2 E1 E2
      go_wp2
      go_roundw
      case rel => exact ⟨k + 1, k1 + 1, Lib.hid (by have := Hk1.out; omega), by omega, by go_num, HST.out _ _ hown1, hN1⟩
      case measure => simp [intOf]; omega
    · have t1 : decide (((k1 : Nat) : Int) + 1 < (zs.length : Int)) = false := by simp; omega
      have ek : k = zs.length - 2 := by omega
      clear hk1
      subst ek
      go_wp2
      go_ret
      exact ⟨_, rfl, Own.of hown, hN⟩
set_option maxHeartbeats 4000000 in
theorem c_implStep_ok (n : Int) (lo hi : Nat) (v : Value) (zs : List Int) (w : World) (h : Rd w lo hi 1 v zs.length (zs.map (Value.int .i64))) (hok : eleB n zs = true) :
    Calls Try.prog 54 #[.int .i64 n, v] w (GivesRowCode w 2 1 (zs.length - 2) ((stX n zs (zs.length - 2)).map (Value.int .i64)) 0) := by
  have HR := Lib.hid h
  obtain ⟨_, hm, hh, A, c, rfl, hrd⟩ := h
  have hok' := hok
  simp only [eleB, celB, Bool.and_eq_true, decide_eq_true_eq, inB_iff] at hok'
  obtain ⟨⟨n0, n1⟩, hl, hb2⟩ := hok'
  have HB := Lib.hid (fun k hk => belB_at (k := k) hb2 hk)
  clear hb2
  go_enter Try.func54, Try.ntmps54
  go_wp2_with (go_at_call 82; refine (c_elementaryOk n lo hi _ zs _ HR.out).mono ?_; rintro e w0 ⟨rfl, nn⟩)
  go_loopw [6, 7] (fun v i wr => ∃ k k1 : Nat, Hid (k1 = k + 1) ∧ k ≤ zs.length - 2 ∧ i = .int .i64 k1 ∧ wr.ownsRow w.heap.size 2 1 v k ((stX n zs k).map (Value.int .i64)) ∧ New w wr) (fun _ i _ => zs.length - (intOf i).toNat)
  case atStart => exact ⟨0, 1, Lib.hid rfl, by omega, rfl, World.ownsRow_nil _ _ _ _, nn⟩
  case round =>
    obtain ⟨k, k1, Hk1, hk, rfl, hown, hN⟩ := hrel
    have hk1 := Hk1.out
    have hz := hN.size
    have kb : (k1 : Int) ≤ 100 := by omega
    by_cases hlt : k + 2 < zs.length
    · obtain ⟨k2, hk2⟩ : ∃ k2, k2 = k + 2 := ⟨_, rfl⟩
      obtain ⟨b, off, rfl, _, hb1, hc⟩ := hrd (by omega)
      have y0 : k < zs.length := by omega
      have y1 : k1 < zs.length := by omega
      have y2 : k2 < zs.length := by omega
      have x0 : wr.cell? ⟨b, off + k, none⟩ = some (.int .i64 zs[k]) := by
        rw [hN.cell (p := ⟨b, off + k, none⟩) (by simp; omega)]
        exact hc k _ (by simp [y0])
      have x1 : wr.cell? ⟨b, off + k1, none⟩ = some (.int .i64 zs[k1]) := by
        rw [hN.cell (p := ⟨b, off + k1, none⟩) (by simp; omega)]
        exact hc k1 _ (by simp [y1])
      have x2 : wr.cell? ⟨b, off + k2, none⟩ = some (.int .i64 zs[k2]) := by
        rw [hN.cell (p := ⟨b, off + k2, none⟩) (by simp; omega)]
        exact hc k2 _ (by simp [y2])
      obtain ⟨d0, d1⟩ := HB.out k y0
      obtain ⟨d2, d3⟩ := HB.out k1 y1
      obtain ⟨d4, d5⟩ := HB.out k2 y2
      clear hc hrd
      have t1 : ((k1 : Nat) : Int) + 1 < (zs.length : Int) := by omega
      have p0 : (0 : Int) ≤ (k : Int) := by omega
      have p0' : (k : Int) < (zs.length : Int) := by omega
      have p1 : (0 : Int) ≤ (k1 : Int) := by omega
      have p1' : (k1 : Int) < (zs.length : Int) := by omega
      have p2 : (0 : Int) ≤ (k2 : Int) := by omega
      have p2' : (k2 : Int) < (zs.length : Int) := by omega
      have hbB : b < w.heap.size := by omega
      have hbw : b < wr.heap.size := by omega
      have HST := Lib.hid (fun (w' : World) (v : Value) => st_step (w' := w') (base := w.heap.size) (e := 2) (v := v) (n := n) hk1 hk2 y0 y1 y2)
      generalize zs[k] = q0 at *
      generalize zs[k1] = q1 at *
      generalize zs[k2] = q2 at *
      have E1 : Hid (IntKind.i64.wrap ((k1 : Int) - 1) = (k : Int)) := Lib.hid (by rw [IntWalk.i64_in _ (by omega)]; omega)
      have E2 : Hid (IntKind.i64.wrap ((k1 : Int) + 1) = (k2 : Int)) := Lib.hid (by rw [IntWalk.i64_in _ (by omega)]; omega)
      clear hk1 hk2
      go_upto_region 7 with fail
      have e1 := E1.out
      have e2 := E2.out
      go_region_held3 (fun w' => w'.cell? ⟨b, off + k, none⟩ = some (.int .i64 q0) ∧ w'.cell? ⟨b, off + k1, none⟩ = some (.int .i64 q1) ∧ w'.cell? ⟨b, off + k2, none⟩ = some (.int .i64 q2))
        (first | exact ⟨x0, x1, x2⟩ | exact ⟨((((New.same wr).drew_).box _).cell (p := ⟨b, off + k, none⟩) hbw).trans x0, ((((New.same wr).drew_).box _).cell (p := ⟨b, off + k1, none⟩) hbw).trans x1, ((((New.same wr).drew_).box _).cell (p := ⟨b, off + k2, none⟩) hbw).trans x2⟩ | (go_split_ands; exact ⟨(hb3.cell (p := ⟨b, off + k, none⟩) hbB).trans (by assumption), (hb3.cell (p := ⟨b, off + k1, none⟩) hbB).trans (by assumption), (hb3.cell (p := ⟨b, off + k2, none⟩) hbB).trans (by assumption)⟩))
        (first | (go_at_call 83; refine (c_elementary n q0 q1 q2 _ n0 n1 (by omega) (by omega) (by omega) (by omega) (by omega) (by omega)).mono ?_; rintro e w' ⟨rfl, rfl⟩) | (refine step_app1 (by rfl) _ _ (by rfl) row_int64 w.heap.size ((hown.alloc _).drew) (by rfl) [.int .i64 (nxI n q0 q1 q2)] wr.heap.size (by rfl) (heap_alloc_new _ _) rfl (by simp [Value.oneCell']) (by unfold maxLen; omega) (by omega) (by simp; omega) ?_; intro v1 w1 hown1 hb3))
      have hN1 : New w w1 := (hN.drew_.box _).trans hb3
      clear hb3 e1 e2 E1 E2
      go_wp2
      go_roundw
      case rel => exact ⟨k + 1, k1 + 1, Lib.hid (by have := Hk1.out; omega), by omega, by go_num, HST.out _ _ hown1, hN1⟩
      case measure => simp [intOf]; omega
    · have t1 : decide (((k1 : Nat) : Int) + 1 < (zs.length : Int)) = false := by simp; omega
      have ek : k = zs.length - 2 := by omega
      clear hk1
      subst ek
      go_wp2
      go_ret2
      exact ⟨_, rfl, Own.of hown, hN⟩

set_option maxHeartbeats 1000000 in
theorem c_implStep (n : Int) (lo hi : Nat) (v : Value) (zs : List Int) (w : World) (h : Rd w lo hi 1 v zs.length (zs.map (Value.int .i64))) :
    Calls Try.prog 54 #[.int .i64 n, v] w (GivesRowCode w 2 1 (stList n zs).length ((stList n zs).map (Value.int .i64)) (stCode n zs)) := by
  cases hok : eleB n zs
  · have HR := Lib.hid h
    obtain ⟨_, hm, hh, A, c, rfl, hrd⟩ := h
    rw [show stList n zs = [] by simp [stList, hok], show stCode n zs = 2 by simp [stCode, hok]]
    go_enter Try.func54, Try.ntmps54
    go_wp2_with (go_at_call 82; refine (c_elementaryOk n lo hi _ zs _ HR.out).mono ?_; rintro e w0 ⟨rfl, nn⟩)
    go_ret2
    exact ⟨_, rfl, ⟨World.ownsRow_nil _ _ _ _, Nat.le_refl _, fun g hg => by cases hg⟩, nn⟩
  · rw [show stList n zs = stX n zs (zs.length - 2) by simp [stList, hok], show stCode n zs = 0 by simp [stCode, hok], stX_len]
    exact c_implStep_ok n lo hi v zs w h hok

set_option maxHeartbeats 1000000 in
theorem c_specStep (n : Int) (lo hi : Nat) (v : Value) (zs : List Int) (w : World) (h : Rd w lo hi 1 v zs.length (zs.map (Value.int .i64))) :
    Calls Try.prog 52 #[.int .i64 n, v] w (GivesRowCode w 2 1 (stList n zs).length ((stList n zs).map (Value.int .i64)) (stCode n zs)) := by
  have HR := Lib.hid h
  obtain ⟨_, hm, hh, A, c, rfl, hrd⟩ := h
  cases hn : inB n 0 255
  · have hok : eleB n zs = false := by simp [eleB, hn]
    rw [show stList n zs = [] by simp [stList, hok], show stCode n zs = 2 by simp [stCode, hok]]
    clear hok
    go_enter Try.func52, Try.ntmps52
    go_wp2_with (go_at_call 58; refine (c_l00In _ _ _ _).mono ?_; rintro e w' ⟨rfl, rfl⟩)
    go_ret2
    exact ⟨_, rfl, ⟨World.ownsRow_nil _ _ _ _, Nat.le_refl _, fun g hg => by cases hg⟩, New.same _⟩
  · cases hc : celB zs
    · have hok : eleB n zs = false := by simp [eleB, hn, hc]
      rw [show stList n zs = [] by simp [stList, hok], show stCode n zs = 2 by simp [stCode, hok]]
      clear hok
      go_enter Try.func52, Try.ntmps52
      go_wp2_with (first | (go_at_call 58; refine (c_l00In _ _ _ _).mono ?_; rintro e w' ⟨rfl, rfl⟩) | (go_at_call 80; refine (c_l16Cells lo hi _ zs _ HR.out).mono ?_; rintro e w0 ⟨rfl, nn⟩))
      go_ret2
      exact ⟨_, rfl, ⟨World.ownsRow_nil _ _ _ _, Nat.le_refl _, fun g hg => by cases hg⟩, nn⟩
    · have hok : eleB n zs = true := by simp [eleB, hn, hc]
      rw [show stList n zs = stX n zs (zs.length - 2) by simp [stList, hok], show stCode n zs = 0 by simp [stCode, hok], stX_len]
      clear hok
      obtain ⟨n0, n1⟩ := inB_iff.1 hn
      have hc' := hc
      simp only [celB, Bool.and_eq_true, decide_eq_true_eq] at hc'
      have HC := Lib.hid hc'
      clear hc'
      go_enter Try.func52, Try.ntmps52
      go_wp2_with (first | (go_at_call 58; refine (c_l00In _ _ _ _).mono ?_; rintro e w' ⟨rfl, rfl⟩) | (go_at_call 80; refine (c_l16Cells lo hi _ zs _ HR.out).mono ?_; rintro e w0 ⟨rfl, nn⟩) | (go_at_call 81; refine (c_l16Step n lo hi _ zs _ (HR.out.new nn) n0 n1 HC.out.1 HC.out.2).mono ?_; rintro e w1 ⟨u, rfl, hO, n2⟩))
      go_ret2
      exact ⟨_, rfl, hO.wide nn.size (Nat.le_refl _) (Nat.le_refl _), nn.step n2⟩

end Go.Proofs.Ytbhgjkfpgdgkfaa
