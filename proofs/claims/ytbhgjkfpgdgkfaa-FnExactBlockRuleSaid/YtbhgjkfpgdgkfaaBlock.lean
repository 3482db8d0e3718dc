/- Contracts of the functions that make the rule of blocks. -/
import Derived.Test.YtbhgjkfpgdgkfaaRule
import Derived.Test.YtbhgjkfpgdgkfaaStep
import Derived.Test.YtbhgjkfpgdgkfaaLate
namespace Go.Proofs.Ytbhgjkfpgdgkfaa
open Go.RowKit
set_option linter.unusedVariables false
set_option linter.unusedSimpArgs false

/-- the state of two blocks -/
def blE (n k j : Int) : Int := IntKind.i64.wrap (IntKind.i64.wrap (2 * nxI n (k / 2) (k % 2) (j / 2)) + nxI n (k % 2) (j / 2) (j % 2))
def blX (n : Int) (m : Nat) : List Int := (List.range m).map fun i => blE n ((i / 4 : Nat) : Int) ((i % 4 : Nat) : Int)
theorem blX_len (n : Int) (m : Nat) : (blX n m).length = m := by simp [blX]
theorem bl_step {w' : World} {base : Nat} {e : TypeId} {v : Value} {n : Int} {k j m m1 : Nat} (hm : m = 4 * k + j) (hm1 : m1 = m + 1) (hj : j < 4) (h : w'.ownsRow base e 1 v (m + 1) ((blX n m).map (Value.int .i64) ++ [.int .i64 (blE n k j)])) :
    w'.ownsRow base e 1 v m1 ((blX n m1).map (Value.int .i64)) := by
  subst hm1
  have : blX n (m + 1) = blX n m ++ [blE n k j] := by
    simp only [blX, List.range_succ, List.map_append, List.map_cons, List.map_nil]
    rw [show m / 4 = k by omega, show m % 4 = j by omega]
  rw [this, List.map_append]
  exact h
theorem w64_ (n : Int) : wrap64 n = IntKind.i64.wrap n := by simp only [IntKind.wrap_i64, wrap64]
theorem own_slice {w : World} {base : Nat} {e : TypeId} {v : Value} {n : Nat} {xs : List Value} (h : w.ownsRow base e 1 v n xs) : ∃ A c, v = .slice A n c := by
  obtain ⟨_, _, _, A, c, rfl, _⟩ := (Own.of h).rd
  exact ⟨A, c, rfl⟩

set_option maxRecDepth 20000 in
set_option maxHeartbeats 4000000 in
theorem c_blockRule (n : Int) (w : World) (n0 : 0 ≤ n) (n1 : n ≤ 255) : Calls Try.prog 75 #[.int .i64 n] w fun e w' => ∃ u, e = .returned (.agg #[.int .i64 4, u]) ∧ Own w' w.heap.size w'.heap.size 2 1 u 16 ((blX n 16).map (Value.int .i64)) ∧ New w w' := by
  go_enter Try.func75, Try.ntmps75
  have N0 : New w ((w.alloc (.cells #[.int .i64 0, .slice none 0 0] 50)).alloc (.cells #[.int .i64 4, .slice none 0 0] 50)) := ((New.same w).box _).box _
  have B0 : BoxV ((w.alloc (.cells #[.int .i64 0, .slice none 0 0] 50)).alloc (.cells #[.int .i64 4, .slice none 0 0] 50)) w.heap.size [.int .i64 0, .slice none 0 0] := .two (by go_simp) (by go_simp) (by go_simp) (by go_simp) (by simp; omega)
  have B1 : BoxV ((w.alloc (.cells #[.int .i64 0, .slice none 0 0] 50)).alloc (.cells #[.int .i64 4, .slice none 0 0] 50)) (w.heap.size + 1) [.int .i64 4, .slice none 0 0] := .two (by go_simp) (by go_simp) (by go_simp) (by go_simp) (by simp)
  have Z0 : ((w.alloc (.cells #[.int .i64 0, .slice none 0 0] 50)).alloc (.cells #[.int .i64 4, .slice none 0 0] 50)).heap.size = w.heap.size + 2 := by simp
  go_wp2
  generalize ((w.alloc (.cells #[.int .i64 0, .slice none 0 0] 50)).alloc (.cells #[.int .i64 4, .slice none 0 0] 50)) = W0 at *
  go_loopw [11] (fun i wr => ∃ k : Nat, ∃ v : Value, k ≤ 4 ∧ i = .int .i64 k ∧ BoxV wr w.heap.size [.int .i64 0, .slice none 0 0] ∧ BoxV wr (w.heap.size + 1) [.int .i64 4, v] ∧ wr.ownsRow (w.heap.size + 2) 2 1 v (4 * k) ((blX n (4 * k)).map (Value.int .i64)) ∧ New w wr ∧ w.heap.size + 2 ≤ wr.heap.size) (fun i _ => 4 - (intOf i).toNat)
  case atStart => exact ⟨0, _, by omega, rfl, B0, B1, World.ownsRow_nil _ _ _ _, N0, by omega⟩
  case round =>
    obtain ⟨k, v, hk, rfl, C0, C1, hown, hN, hZ⟩ := hrel
    clear B0 B1 N0 Z0
    by_cases hlt : k < 4
    · have kb : (k : Int) < 4 := by omega
      go_wp2
      go_loopw [14] (fun i wq => ∃ j : Nat, ∃ v : Value, ∃ m : Nat, Hid (m = 4 * k + j) ∧ j ≤ 4 ∧ i = .int .i64 j ∧ BoxV wq w.heap.size [.int .i64 0, .slice none 0 0] ∧ BoxV wq (w.heap.size + 1) [.int .i64 4, v] ∧ wq.ownsRow (w.heap.size + 2) 2 1 v m ((blX n m).map (Value.int .i64)) ∧ New w wq ∧ w.heap.size + 2 ≤ wq.heap.size) (fun i _ => 4 - (intOf i).toNat)
      case atStart => exact ⟨0, v, 4 * k, Lib.hid rfl, by omega, rfl, C0, C1, hown, hN, hZ⟩
      case round =>
        obtain ⟨j, v, m, Hm, hj, rfl, C0, C1, hown, hN, hZ⟩ := hrel
        by_cases hlt2 : j < 4
        · have jb : (j : Int) < 4 := by omega
          have mb : m ≤ 16 := by have := Hm.out; omega
          obtain ⟨A, c, rfl⟩ := own_slice hown
          have ⟨⟨c1, d1⟩, ⟨f1, g1⟩, z1⟩ := C1.at2
          have a0 : 0 ≤ (k : Int) / 2 := by omega
          have a1 : (k : Int) / 2 ≤ 1 := by omega
          have a2 : 0 ≤ (k : Int) % 2 := by omega
          have a3 : (k : Int) % 2 ≤ 1 := by omega
          have a4 : 0 ≤ (j : Int) / 2 := by omega
          have a5 : (j : Int) / 2 ≤ 1 := by omega
          have a6 : 0 ≤ (j : Int) % 2 := by omega
          have a7 : (j : Int) % 2 ≤ 1 := by omega
          go_upto_region 9 with fail
          have HST : Hid (∀ (w' : World) (v : Value), w'.ownsRow (w.heap.size + 2) 2 1 v (m + 1) ((blX n m).map (Value.int .i64) ++ [.int .i64 (IntKind.i64.wrap (IntKind.i64.wrap (2 * nxI n ((k : Int) / 2) ((k : Int) % 2) ((j : Int) / 2)) + nxI n ((k : Int) % 2) ((j : Int) / 2) ((j : Int) % 2)))]) → w'.ownsRow (w.heap.size + 2) 2 1 v (m + 1) ((blX n (m + 1)).map (Value.int .i64))) := Lib.hid (fun w' v h => bl_step Hm.out rfl hlt2 h)
          generalize (k : Int) / 2 = qa at *
          generalize (k : Int) % 2 = qb at *
          generalize (j : Int) / 2 = qc at *
          generalize (j : Int) % 2 = qd at *
          have C3 := Lib.hid (fun w => c_elementary n qa qb qc w n0 n1 a0 a1 a2 a3 a4 a5)
          have C4 := Lib.hid (fun w => c_elementary n qb qc qd w n0 n1 a2 a3 a4 a5 a6 a7)
          have ld := Later.cell d1 z1
          refine wp_region_later_late [0, 1] [2, 3, 4, 5, 6, 7, 8, 9, 10, 11, 12, 13] 14 15 [16, 17] (by kernel_rfl) (by rfl) (by rfl) (by decide +kernel) ?_
          simp only [pickO, List.getElem?_cons_zero, List.getElem?_cons_succ]
          refine wpReads_cons (.pointer (some ⟨w.heap.size + 1, 1, none⟩)) (by rfl) (fun w' hw' => by go_simp) ?_
          simp only [Act.put, List.setIfInBounds_toArray, List.set_cons_zero, List.set_cons_succ]
          refine wpReads_cons (.slice A m c) (by rfl) (fun w' hw' => by obtain ⟨t, rfl⟩ := hw'; go_simp) ?_
          simp only [Act.put, List.setIfInBounds_toArray, List.set_cons_zero, List.set_cons_succ]
          simp only [wpReads]
          (repeat (go_big_quiet_step (first | (go_at_call 83; with_reducible exact later_same (C3.out _)) | (go_at_call 83; with_reducible exact later_same (C4.out _)))))
          refine wpQuiet_nil ?_
          intro wq hw'
          obtain ⟨⟨wz, nq⟩, hwz⟩ := hw'
          have hwz' : wq = wz := hwz
          subst hwz'
          clear hwz ld
          have D1 := C1.new nq
          have ⟨⟨_, d2⟩, ⟨_, g2⟩, z2⟩ := D1.at2
          have hown2 := ownsRow_new hown nq
          have hz2 : w.heap.size + 2 ≤ wq.heap.size := Nat.le_trans hZ nq.size
          clear c1 d1 f1 g1 z1 C1 hown
          go_wp2_with (at_builtin; refine wpList_app1 rfl _ _ rfl row_int64 _ (w.heap.size + 2) hown2 rfl [.int .i64 (wrap64 (wrap64 (2 * nxI n qa qb qc) + nxI n qb qc qd))] rfl rfl (by simp [Value.oneCell']) (by unfold maxLen; omega) (by omega) hz2 ?_; intro v1 w1 hown1 hb3 _ _; obtain ⟨A1, cc, rfl⟩ := own_slice hown1; simp only [w64_] at hown1; have E1 := D1.below hb3 (by omega); obtain ⟨⟨e1, e2⟩, ⟨e3, e4⟩, e5⟩ := E1.at2; clear d2 g2)
          have hz3 : w.heap.size + 2 ≤ w1.heap.size := Nat.le_trans hz2 hb3.size
          have C0' := ((C0.new nq).below hb3 (by omega)).off (p := ⟨w.heap.size + 1, 1, none⟩) (by simp) (.slice A1 (m + 1) cc)
          have C1' := E1.put2 (.slice A1 (m + 1) cc)
          have hown3 := ((Own.of (HST.out _ _ hown1)).fr ((Fr.refl (w.heap.size + 1) (w.heap.size + 2) w1).setCell (p := ⟨w.heap.size + 1, 1, none⟩) (by simp) (by simp) (.slice A1 (m + 1) cc)) (.inr (Nat.le_refl _))).1
          have hN3 : New w (w1.setCell ⟨w.heap.size + 1, 1, none⟩ (.slice A1 (m + 1) cc)) := Below.setCell ((hN.step nq).trans (hb3.mono (by omega))) (by simp) _
          have HM' := Lib.hid (show m + 1 = 4 * k + (j + 1) by have := Hm.out; omega)
          have hz4 : w.heap.size + 2 ≤ (w1.setCell ⟨w.heap.size + 1, 1, none⟩ (.slice A1 (m + 1) cc)).heap.size := by simpa [World.setCell] using hz3
          clear e1 e2 e3 e4 e5 D1 E1
          refine NoPanic.normal ?_
          go_wp2
          go_roundw
          case rel => exact ⟨j + 1, _, m + 1, HM', by omega, by go_num, C0', C1', hown3, hN3, hz4⟩
          case measure => simp [intOf]; omega
        · have HM' := Hm.out
          have ej : j = 4 := by omega
          have em : m = 4 * (k + 1) := by omega
          subst em
          clear HM' ej
          go_wp2
          go_roundw
          case rel => exact ⟨k + 1, v, by omega, by go_num, C0, C1, hown, hN, hZ⟩
          case measure => simp [intOf]; omega
    · have ek : k = 4 := by omega
      subst ek
      obtain ⟨A, c, rfl⟩ := own_slice hown
      have ⟨⟨c0, d0⟩, ⟨f0, g0⟩, z0⟩ := C0.at2
      have ⟨⟨c1, d1⟩, ⟨f1, g1⟩, z1⟩ := C1.at2
      have F := ((Fr.refl w.heap.size (w.heap.size + 2) wr).setCell (p := ⟨w.heap.size, 0, none⟩) (by simp) (by simp) (.int .i64 4)).setCell (p := ⟨w.heap.size, 1, none⟩) (by simp) (by simp) (.slice A 16 c)
      have HO := Lib.hid ((Own.of hown).fr F (.inr (Nat.le_refl _)))
      have NN := hN.fr F (Nat.le_refl _)
      have R := Lib.hid (C0.both (.int .i64 4) (.slice A 16 c))
      have hs9 := F.size
      clear hown F
      go_wp2
      generalize ((wr.setCell ⟨w.heap.size, 0, none⟩ (.int .i64 4)).setCell ⟨w.heap.size, 1, none⟩ (.slice A 16 c)) = W9 at *
      obtain ⟨⟨r0, r1⟩, _, _⟩ := R.out.at2
      exact bodyPost_ret (v := .agg #[.int .i64 4, .slice A 16 c]) (by simp [results, Try.results75, go_sem, r0, r1]) rfl ⟨_, rfl, HO.out.wide (by omega) (by omega) (Nat.le_refl _), NN⟩

set_option maxRecDepth 20000 in
set_option maxHeartbeats 4000000 in
theorem c_l16Block (n : Int) (w : World) (n0 : 0 ≤ n) (n1 : n ≤ 255) : Calls Try.prog 74 #[.int .i64 n] w fun e w' => ∃ u, e = .returned (.agg #[.int .i64 4, u]) ∧ Own w' w.heap.size w'.heap.size 2 1 u 16 ((blX n 16).map (Value.int .i64)) ∧ New w w' := by
  go_enter Try.func74, Try.ntmps74
  have N0 : New w ((w.alloc (.cells #[.int .i64 0, .slice none 0 0] 50)).alloc (.cells #[.int .i64 4, .slice none 0 0] 50)) := ((New.same w).box _).box _
  have B0 : BoxV ((w.alloc (.cells #[.int .i64 0, .slice none 0 0] 50)).alloc (.cells #[.int .i64 4, .slice none 0 0] 50)) w.heap.size [.int .i64 0, .slice none 0 0] := .two (by go_simp) (by go_simp) (by go_simp) (by go_simp) (by simp; omega)
  have B1 : BoxV ((w.alloc (.cells #[.int .i64 0, .slice none 0 0] 50)).alloc (.cells #[.int .i64 4, .slice none 0 0] 50)) (w.heap.size + 1) [.int .i64 4, .slice none 0 0] := .two (by go_simp) (by go_simp) (by go_simp) (by go_simp) (by simp)
  have Z0 : ((w.alloc (.cells #[.int .i64 0, .slice none 0 0] 50)).alloc (.cells #[.int .i64 4, .slice none 0 0] 50)).heap.size = w.heap.size + 2 := by simp
  go_wp2
  generalize ((w.alloc (.cells #[.int .i64 0, .slice none 0 0] 50)).alloc (.cells #[.int .i64 4, .slice none 0 0] 50)) = W0 at *
  go_loopw [4] (fun i wr => ∃ k : Nat, ∃ v : Value, k ≤ 4 ∧ i = .int .i64 k ∧ BoxV wr w.heap.size [.int .i64 0, .slice none 0 0] ∧ BoxV wr (w.heap.size + 1) [.int .i64 4, v] ∧ wr.ownsRow (w.heap.size + 2) 2 1 v (4 * k) ((blX n (4 * k)).map (Value.int .i64)) ∧ New w wr ∧ w.heap.size + 2 ≤ wr.heap.size) (fun i _ => 4 - (intOf i).toNat)
  case atStart => exact ⟨0, _, by omega, rfl, B0, B1, World.ownsRow_nil _ _ _ _, N0, by omega⟩
  case round =>
    obtain ⟨k, v, hk, rfl, C0, C1, hown, hN, hZ⟩ := hrel
    clear B0 B1 N0 Z0
    by_cases hlt : k < 4
    · have kb : (k : Int) < 4 := by omega
      go_wp2
      go_loopw [5] (fun i wq => ∃ j : Nat, ∃ v : Value, ∃ m : Nat, Hid (m = 4 * k + j) ∧ j ≤ 4 ∧ i = .int .i64 j ∧ BoxV wq w.heap.size [.int .i64 0, .slice none 0 0] ∧ BoxV wq (w.heap.size + 1) [.int .i64 4, v] ∧ wq.ownsRow (w.heap.size + 2) 2 1 v m ((blX n m).map (Value.int .i64)) ∧ New w wq ∧ w.heap.size + 2 ≤ wq.heap.size) (fun i _ => 4 - (intOf i).toNat)
      case atStart => exact ⟨0, v, 4 * k, Lib.hid rfl, by omega, rfl, C0, C1, hown, hN, hZ⟩
      case round =>
        obtain ⟨j, v, m, Hm, hj, rfl, C0, C1, hown, hN, hZ⟩ := hrel
        by_cases hlt2 : j < 4
        · have jb : (j : Int) < 4 := by omega
          have mb : m ≤ 16 := by have := Hm.out; omega
          obtain ⟨A, c, rfl⟩ := own_slice hown
          have ⟨⟨c1, d1⟩, ⟨f1, g1⟩, z1⟩ := C1.at2
          have a0 : 0 ≤ (k : Int) / 2 := by omega
          have a1 : (k : Int) / 2 ≤ 1 := by omega
          have a2 : 0 ≤ (k : Int) % 2 := by omega
          have a3 : (k : Int) % 2 ≤ 1 := by omega
          have a4 : 0 ≤ (j : Int) / 2 := by omega
          have a5 : (j : Int) / 2 ≤ 1 := by omega
          have a6 : 0 ≤ (j : Int) % 2 := by omega
          have a7 : (j : Int) % 2 ≤ 1 := by omega
          go_upto_region 12 with fail
          have HST : Hid (∀ (w' : World) (v : Value), w'.ownsRow (w.heap.size + 2) 2 1 v (m + 1) ((blX n m).map (Value.int .i64) ++ [.int .i64 (IntKind.i64.wrap (IntKind.i64.wrap (2 * nxI n ((k : Int) / 2) ((k : Int) % 2) ((j : Int) / 2)) + nxI n ((k : Int) % 2) ((j : Int) / 2) ((j : Int) % 2)))]) → w'.ownsRow (w.heap.size + 2) 2 1 v (m + 1) ((blX n (m + 1)).map (Value.int .i64))) := Lib.hid (fun w' v h => bl_step Hm.out rfl hlt2 h)
          generalize (k : Int) / 2 = qa at *
          generalize (k : Int) % 2 = qb at *
          generalize (j : Int) / 2 = qc at *
          generalize (j : Int) % 2 = qd at *
          have C3 := Lib.hid (fun w => c_l16Next n qa qb qc w n0 n1 a0 a1 a2 a3 a4 a5)
          have C4 := Lib.hid (fun w => c_l16Next n qb qc qd w n0 n1 a2 a3 a4 a5 a6 a7)
          have ld := Later.cell d1 z1
          refine wp_region_later_late [0, 1] [2, 3, 4, 5, 6, 7, 8, 9, 10, 11, 12, 13] 14 15 [16, 17] (by kernel_rfl) (by rfl) (by rfl) (by decide +kernel) ?_
          simp only [pickO, List.getElem?_cons_zero, List.getElem?_cons_succ]
          refine wpReads_cons (.pointer (some ⟨w.heap.size + 1, 1, none⟩)) (by rfl) (fun w' hw' => by go_simp) ?_
          simp only [Act.put, List.setIfInBounds_toArray, List.set_cons_zero, List.set_cons_succ]
          refine wpReads_cons (.slice A m c) (by rfl) (fun w' hw' => by obtain ⟨t, rfl⟩ := hw'; go_simp) ?_
          simp only [Act.put, List.setIfInBounds_toArray, List.set_cons_zero, List.set_cons_succ]
          simp only [wpReads]
          (repeat (go_big_quiet_step (first | (go_at_call 89; with_reducible exact later_same (C3.out _)) | (go_at_call 89; with_reducible exact later_same (C4.out _)))))
          refine wpQuiet_nil ?_
          intro wq hw'
          obtain ⟨⟨wz, nq⟩, hwz⟩ := hw'
          have hwz' : wq = wz := hwz
          subst hwz'
          clear hwz ld
          have D1 := C1.new nq
          have ⟨⟨_, d2⟩, ⟨_, g2⟩, z2⟩ := D1.at2
          have hown2 := ownsRow_new hown nq
          have hz2 : w.heap.size + 2 ≤ wq.heap.size := Nat.le_trans hZ nq.size
          clear c1 d1 f1 g1 z1 C1 hown
          go_wp2_with (at_builtin; refine wpList_app1 rfl _ _ rfl row_int64 _ (w.heap.size + 2) hown2 rfl [.int .i64 (wrap64 (wrap64 (2 * nxI n qa qb qc) + nxI n qb qc qd))] rfl rfl (by simp [Value.oneCell']) (by unfold maxLen; omega) (by omega) hz2 ?_; intro v1 w1 hown1 hb3 _ _; obtain ⟨A1, cc, rfl⟩ := own_slice hown1; simp only [w64_] at hown1; have E1 := D1.below hb3 (by omega); obtain ⟨⟨e1, e2⟩, ⟨e3, e4⟩, e5⟩ := E1.at2; clear d2 g2)
          have hz3 : w.heap.size + 2 ≤ w1.heap.size := Nat.le_trans hz2 hb3.size
          have C0' := ((C0.new nq).below hb3 (by omega)).off (p := ⟨w.heap.size + 1, 1, none⟩) (by simp) (.slice A1 (m + 1) cc)
          have C1' := E1.put2 (.slice A1 (m + 1) cc)
          have hown3 := ((Own.of (HST.out _ _ hown1)).fr ((Fr.refl (w.heap.size + 1) (w.heap.size + 2) w1).setCell (p := ⟨w.heap.size + 1, 1, none⟩) (by simp) (by simp) (.slice A1 (m + 1) cc)) (.inr (Nat.le_refl _))).1
          have hN3 : New w (w1.setCell ⟨w.heap.size + 1, 1, none⟩ (.slice A1 (m + 1) cc)) := Below.setCell ((hN.step nq).trans (hb3.mono (by omega))) (by simp) _
          have HM' := Lib.hid (show m + 1 = 4 * k + (j + 1) by have := Hm.out; omega)
          have hz4 : w.heap.size + 2 ≤ (w1.setCell ⟨w.heap.size + 1, 1, none⟩ (.slice A1 (m + 1) cc)).heap.size := by simpa [World.setCell] using hz3
          clear e1 e2 e3 e4 e5 D1 E1
          refine NoPanic.normal ?_
          go_wp2
          go_roundw
          case rel => exact ⟨j + 1, _, m + 1, HM', by omega, by go_num, C0', C1', hown3, hN3, hz4⟩
          case measure => simp [intOf]; omega
        · have HM' := Hm.out
          have ej : j = 4 := by omega
          have em : m = 4 * (k + 1) := by omega
          subst em
          clear HM' ej
          go_wp2
          go_roundw
          case rel => exact ⟨k + 1, v, by omega, by go_num, C0, C1, hown, hN, hZ⟩
          case measure => simp [intOf]; omega
    · have ek : k = 4 := by omega
      subst ek
      obtain ⟨A, c, rfl⟩ := own_slice hown
      have ⟨⟨c0, d0⟩, ⟨f0, g0⟩, z0⟩ := C0.at2
      have ⟨⟨c1, d1⟩, ⟨f1, g1⟩, z1⟩ := C1.at2
      have F := ((Fr.refl w.heap.size (w.heap.size + 2) wr).setCell (p := ⟨w.heap.size, 0, none⟩) (by simp) (by simp) (.int .i64 4)).setCell (p := ⟨w.heap.size, 1, none⟩) (by simp) (by simp) (.slice A 16 c)
      have HO := Lib.hid ((Own.of hown).fr F (.inr (Nat.le_refl _)))
      have NN := hN.fr F (Nat.le_refl _)
      have R := Lib.hid (C0.both (.int .i64 4) (.slice A 16 c))
      have hs9 := F.size
      clear hown F
      go_wp2
      generalize ((wr.setCell ⟨w.heap.size, 0, none⟩ (.int .i64 4)).setCell ⟨w.heap.size, 1, none⟩ (.slice A 16 c)) = W9 at *
      obtain ⟨⟨r0, r1⟩, _, _⟩ := R.out.at2
      exact bodyPost_ret (v := .agg #[.int .i64 4, .slice A 16 c]) (by simp [results, Try.results74, go_sem, r0, r1]) rfl ⟨_, rfl, HO.out.wide (by omega) (by omega) (Nat.le_refl _), NN⟩

end Go.Proofs.Ytbhgjkfpgdgkfaa
