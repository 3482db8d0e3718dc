/- Contracts of the functions that make a rectangle of points. -/
import Derived.Test.YtbhgjkfpgdgkfaaPts2
import Derived.Test.YtbhgjkfpgdgkfaaStep
import Derived.Test.YtbhgjkfpgdgkfaaBox
namespace Go.Proofs.Ytbhgjkfpgdgkfaa
open Go.RowKit
set_option linter.unusedVariables false
set_option linter.unusedSimpArgs false

/-- the first n points of a rectangle of that width, row by row -/
def rectL (wd : Int) (n : Nat) : List (Int × Int) := (List.range n).map fun (k : Nat) => ((k : Int) % wd, (k : Int) / wd)
theorem rectL_len (wd : Int) (n : Nat) : (rectL wd n).length = n := by simp [rectL]
theorem rectL_succ (wd : Int) (n : Nat) : rectL wd (n + 1) = rectL wd n ++ [((n : Int) % wd, (n : Int) / wd)] := by simp [rectL, List.range_succ]
theorem rectL0 (wd : Int) : (rectL wd 0).flatMap ptCells = [] := by simp [rectL]
theorem rect_step {w' : World} {base : Nat} {e : TypeId} {v : Value} {wd x y : Int} {k : Nat} (hx : x = (k : Int) % wd) (hy : y = (k : Int) / wd)
    (h : w'.ownsRow base e 2 v (k + 1) ((rectL wd k).flatMap ptCells ++ [.int .i64 x, .int .i64 y])) : w'.ownsRow base e 2 v (k + 1) ((rectL wd (k + 1)).flatMap ptCells) := by
  subst hx; subst hy
  rw [rectL_succ, List.flatMap_append]
  simpa [ptCells] using h
theorem rect_at {W i j m : Nat} (hm : m = j * W + i) (hi : i < W) : (m : Int) % (W : Int) = (i : Int) ∧ (m : Int) / (W : Int) = (j : Int) := by
  subst hm
  constructor
  · rw [← Int.natCast_emod, show (j * W + i) % W = i by rw [Nat.mul_comm, Nat.mul_add_mod, Nat.mod_eq_of_lt hi]]
  · rw [← Int.natCast_ediv, show (j * W + i) / W = j by rw [Nat.mul_comm, Nat.mul_add_div (by omega), Nat.div_eq_of_lt hi]; omega]

def rcB (wd ht : Int) : Bool := inB wd 1 60 && inB ht 1 60
def rcCode (wd ht : Int) : Int := if rcB wd ht then (if 500 < wd * ht then 4 else 0) else 2
def rcList (wd ht : Int) : List (Int × Int) := if rcB wd ht then (if 500 < wd * ht then [] else rectL wd (wd * ht).toNat) else []
theorem rcList_len (wd ht : Int) : (rcList wd ht).length ≤ 500 := by
  unfold rcList
  split
  · split
    · simp
    · rw [rectL_len]; omega
  · simp

set_option maxHeartbeats 4000000 in
theorem c_specRect (wd ht : Int) (w : World) : Calls Try.prog 34 #[.int .i64 wd, .int .i64 ht] w (GivesRowCode w 70 2 (rcList wd ht).length ((rcList wd ht).flatMap ptCells) (rcCode wd ht)) := by
  cases h1 : inB wd 1 60
  · have hok : rcB wd ht = false := by simp [rcB, h1]
    rw [show rcList wd ht = [] by simp [rcList, hok], show rcCode wd ht = 2 by simp [rcCode, hok]]
    clear hok
    go_enter Try.func34, Try.ntmps34
    go_wp2_with (go_at_call 58; refine (c_l00In _ _ _ _).mono ?_; rintro e w' ⟨rfl, rfl⟩)
    go_ret2
    exact ⟨_, rfl, ⟨World.ownsRow_nil _ _ _ _, Nat.le_refl _, fun g hg => by cases hg⟩, New.same _⟩
  · cases h2 : inB ht 1 60
    · have hok : rcB wd ht = false := by simp [rcB, h2]
      rw [show rcList wd ht = [] by simp [rcList, hok], show rcCode wd ht = 2 by simp [rcCode, hok]]
      clear hok
      go_enter Try.func34, Try.ntmps34
      go_wp2_with (go_at_call 58; refine (c_l00In _ _ _ _).mono ?_; rintro e w' ⟨rfl, rfl⟩)
      go_ret2
      exact ⟨_, rfl, ⟨World.ownsRow_nil _ _ _ _, Nat.le_refl _, fun g hg => by cases hg⟩, New.same _⟩
    · obtain ⟨a0, a1⟩ := inB_iff.1 h1
      obtain ⟨b0, b1⟩ := inB_iff.1 h2
      have hok : rcB wd ht = true := by simp [rcB, h1, h2]
      have P0 : 1 ≤ wd * ht := by have := Int.mul_le_mul a0 b0 (by omega) (by omega); omega
      have P1 : wd * ht ≤ 3600 := by have := Int.mul_le_mul a1 b1 (by omega) (by omega); omega
      by_cases h3 : 500 < wd * ht
      · rw [show rcList wd ht = [] by simp [rcList, hok, h3], show rcCode wd ht = 4 by simp [rcCode, hok, h3]]
        clear hok
        go_enter Try.func34, Try.ntmps34
        go_wp2_with (go_at_call 58; refine (c_l00In _ _ _ _).mono ?_; rintro e w' ⟨rfl, rfl⟩)
        go_ret2
        exact ⟨_, rfl, ⟨World.ownsRow_nil _ _ _ _, Nat.le_refl _, fun g hg => by cases hg⟩, New.same _⟩
      · rw [show rcList wd ht = rectL wd (wd * ht).toNat by simp [rcList, hok, h3], show rcCode wd ht = 0 by simp [rcCode, hok, h3], rectL_len]
        clear hok
        go_enter Try.func34, Try.ntmps34
        go_wp2_with (go_at_call 58; refine (c_l00In _ _ _ _).mono ?_; rintro e w' ⟨rfl, rfl⟩)
        obtain ⟨n, hn⟩ : ∃ n, n = (wd * ht).toNat := ⟨_, rfl⟩
        have HN := Lib.hid hn
        clear hn
        go_loopw [6, 7] (fun v i wr => ∃ k : Nat, k ≤ n ∧ i = .int .i64 k ∧ wr.ownsRow w.heap.size 70 2 v k ((rectL wd k).flatMap ptCells) ∧ New w wr) (fun _ i _ => n - (intOf i).toNat)
        case atStart => exact ⟨0, Nat.zero_le _, rfl, by rw [rectL0]; exact World.ownsRow_made w #[] 0 (Nat.le_refl _) (by omega) rfl, (New.same w).box _⟩
        case round =>
          obtain ⟨k, hk, rfl, hown, hN⟩ := hrel
          have hz := hN.size
          have kb : (k : Int) ≤ 500 := by have := HN.out; omega
          by_cases hlt : k < n
          · have t1 : (k : Int) < wd * ht := by have := HN.out; omega
            have E1 : Hid (Int.tmod (k : Int) wd = (k : Int) % wd) := Lib.hid (Int.tmod_eq_emod_of_nonneg (by omega))
            have E2 : Hid (IntKind.i64.wrap ((k : Int) / wd) = (k : Int) / wd) := Lib.hid (by rw [IntWalk.i64_in _ (by have := Int.ediv_nonneg (show 0 ≤ (k : Int) by omega) (show 0 ≤ wd by omega); have := Int.ediv_le_self wd (show 0 ≤ (k : Int) by omega); omega)])
            have z1 : (wd == 0) = false := by simp; omega
            have z2 : wd ≠ 0 := by omega
            go_upto_region 9 with fail
            have e1 := E1.out
            have e2 := E2.out
            go_region_held3 (fun w' => True) (trivial)
              ((refine step_app1 (by rfl) _ _ (by rfl) row_point w.heap.size ((hown.alloc _).drew) (by rfl) [.int .i64 ((k : Int) % wd), .int .i64 ((k : Int) / wd)] wr.heap.size (by rfl) (heap_alloc_new _ _) rfl (by simp [Value.oneCell']) (by unfold maxLen; omega) (by omega) (by simp; omega) ?_; intro v1 w1 hown1 hb3))
            have hN1 : New w w1 := (hN.drew_.box _).trans hb3
            clear hb3 E1 E2 e1 e2
            go_wp2
            go_roundw
            case rel => exact ⟨k + 1, by omega, by go_num, rect_step rfl rfl hown1, hN1⟩
            case measure => simp [intOf]; omega
          · have t1 : decide ((k : Int) < wd * ht) = false := by have := HN.out; simp; omega
            have ek : k = n := by omega
            subst ek
            go_wp2
            go_ret2
            exact ⟨_, rfl, by rw [← HN.out]; exact Own.of hown, hN⟩

set_option maxHeartbeats 4000000 in
theorem c_rectangle (a b : Int) (W H : Nat) (ha : (W : Int) = a + 1) (hb : (H : Int) = b + 1) (hW : W ≤ 60) (hH : H ≤ 60) (w : World) :
    Calls Try.prog 70 #[.agg #[.int .i64 0, .int .i64 0], .agg #[.int .i64 a, .int .i64 b]] w (GivesRow w 70 2 (H * W) ((rectL W (H * W)).flatMap ptCells)) := by
  have HA := Lib.hid ha
  have HB := Lib.hid hb
  clear ha hb
  have hHW : H * W ≤ 3600 := Nat.mul_le_mul hH hW
  go_enter Try.func70, Try.ntmps70
  have N0 : New w ((w.alloc (.cells #[.int .i64 0, .int .i64 0] 70)).alloc (.cells #[.int .i64 a, .int .i64 b] 70)) := ((New.same w).box _).box _
  have B0 : BoxV ((w.alloc (.cells #[.int .i64 0, .int .i64 0] 70)).alloc (.cells #[.int .i64 a, .int .i64 b] 70)) w.heap.size [.int .i64 0, .int .i64 0] := .two (by go_simp) (by go_simp) (by go_simp) (by go_simp) (by simp; omega)
  have B1 : BoxV ((w.alloc (.cells #[.int .i64 0, .int .i64 0] 70)).alloc (.cells #[.int .i64 a, .int .i64 b] 70)) (w.heap.size + 1) [.int .i64 a, .int .i64 b] := .two (by go_simp) (by go_simp) (by go_simp) (by go_simp) (by simp)
  have Z0 : ((w.alloc (.cells #[.int .i64 0, .int .i64 0] 70)).alloc (.cells #[.int .i64 a, .int .i64 b] 70)).heap.size = w.heap.size + 2 := by simp
  go_wp2
  generalize ((w.alloc (.cells #[.int .i64 0, .int .i64 0] 70)).alloc (.cells #[.int .i64 a, .int .i64 b] 70)) = W0 at *
  have z0 : w.heap.size + 2 ≤ W0.heap.size := by omega
  clear Z0
  go_loopw [5, 6] (fun v i wr => ∃ j : Nat, ∃ m : Nat, Hid (m = j * W) ∧ j ≤ H ∧ i = .int .i64 j ∧ BoxV wr w.heap.size [.int .i64 0, .int .i64 0] ∧ BoxV wr (w.heap.size + 1) [.int .i64 a, .int .i64 b] ∧ wr.ownsRow (w.heap.size + 2) 70 2 v m ((rectL W m).flatMap ptCells) ∧ New w wr ∧ w.heap.size + 2 ≤ wr.heap.size) (fun _ i _ => H - (intOf i).toNat)
  case atStart => exact ⟨0, 0, Lib.hid (by simp), Nat.zero_le _, rfl, B0, B1, by rw [rectL0]; exact World.ownsRow_nil _ _ _ _, N0, z0⟩
  case round =>
    obtain ⟨j, m, HM, hj, rfl, C0, C1, hown, hN, hZ⟩ := hrel
    clear B0 B1 N0 z0
    have ⟨⟨c0, d0⟩, _, _⟩ := C0.at2
    have ⟨⟨c1, d1⟩, _, _⟩ := C1.at2
    by_cases hlt : j < H
    · have t1 : (j : Int) ≤ b := by have := HB.out; omega
      go_wp2
      clear c0 d0 c1 d1
      go_loopw [5, 7] (fun v i wq => ∃ x : Nat, ∃ m : Nat, Hid (m = j * W + x) ∧ x ≤ W ∧ i = .int .i64 x ∧ BoxV wq w.heap.size [.int .i64 0, .int .i64 0] ∧ BoxV wq (w.heap.size + 1) [.int .i64 a, .int .i64 b] ∧ wq.ownsRow (w.heap.size + 2) 70 2 v m ((rectL W m).flatMap ptCells) ∧ New w wq ∧ w.heap.size + 2 ≤ wq.heap.size) (fun _ i _ => W - (intOf i).toNat)
      case atStart => exact ⟨0, m, Lib.hid (by have := HM.out; omega), Nat.zero_le _, rfl, C0, C1, hown, hN, hZ⟩
      case round =>
        clear C0 C1 hown hN hZ
        obtain ⟨x, m, HM, hx, rfl, C0, C1, hown, hN, hZ⟩ := hrel
        have ⟨⟨c0, d0⟩, _, _⟩ := C0.at2
        have ⟨⟨c1, d1⟩, _, _⟩ := C1.at2
        by_cases hlt2 : x < W
        · have t2 : (x : Int) ≤ a := by have := HA.out; omega
          have mb : m ≤ 3600 := by
            have h1 := HM.out
            have : (j + 1) * W ≤ H * W := Nat.mul_le_mul_right _ hlt
            rw [Nat.add_mul] at this
            omega
          have hs := hN.size
          go_wp2_with (at_builtin; refine wpList_app1 rfl _ _ rfl row_point _ (w.heap.size + 2) hown rfl [.int .i64 (x : Int), .int .i64 (j : Int)] rfl rfl (by simp [Value.oneCell']) (by unfold maxLen; omega) (by omega) hZ ?_; intro v1 w1 hown1 hb1 _ _)
          have hN1 : New w w1 := hN.trans (hb1.mono (by omega))
          have hb1' : Below (w.heap.size + 2) _ w1 := hb1
          clear c0 d0 c1 d1
          go_roundw
          case rel => exact ⟨x + 1, m + 1, Lib.hid (by have := HM.out; omega), by omega, by go_num, C0.below hb1' (by omega), C1.below hb1' (by omega), rect_step (rect_at HM.out hlt2).1.symm (rect_at HM.out hlt2).2.symm hown1, hN1, by have := hb1'.size; omega⟩
          case measure => simp [intOf]; omega
        · have t2 : decide ((x : Int) ≤ a) = false := by have := HA.out; simp; omega
          have ex : x = W := by omega
          subst ex
          go_wp2
          go_roundw
          case rel => exact ⟨j + 1, m, Lib.hid (by have := HM.out; rw [Nat.add_mul]; omega), by omega, by go_num, C0, C1, hown, hN, hZ⟩
          case measure => simp [intOf]; omega
    · have t1 : decide ((j : Int) ≤ b) = false := by have := HB.out; simp; omega
      have ej : j = H := by omega
      subst ej
      go_wp2
      go_ret
      exact ⟨_, rfl, by have := HM.out; subst this; exact (Own.of hown).wide (by omega) (Nat.le_refl _) (Nat.le_refl _), hN⟩

set_option maxHeartbeats 1000000 in
theorem c_implRect (wd ht : Int) (w : World) : Calls Try.prog 35 #[.int .i64 wd, .int .i64 ht] w (GivesRowCode w 70 2 (rcList wd ht).length ((rcList wd ht).flatMap ptCells) (rcCode wd ht)) := by
  cases h1 : inB wd 1 60
  · have hok : rcB wd ht = false := by simp [rcB, h1]
    rw [show rcList wd ht = [] by simp [rcList, hok], show rcCode wd ht = 2 by simp [rcCode, hok]]
    clear hok
    go_enter Try.func35, Try.ntmps35
    go_wp2_with (go_at_call 56; refine (c_within _ _ _ _).mono ?_; rintro e w' ⟨rfl, rfl⟩)
    go_ret2
    exact ⟨_, rfl, ⟨World.ownsRow_nil _ _ _ _, Nat.le_refl _, fun g hg => by cases hg⟩, New.same _⟩
  · cases h2 : inB ht 1 60
    · have hok : rcB wd ht = false := by simp [rcB, h2]
      rw [show rcList wd ht = [] by simp [rcList, hok], show rcCode wd ht = 2 by simp [rcCode, hok]]
      clear hok
      go_enter Try.func35, Try.ntmps35
      go_wp2_with (go_at_call 56; refine (c_within _ _ _ _).mono ?_; rintro e w' ⟨rfl, rfl⟩)
      go_ret2
      exact ⟨_, rfl, ⟨World.ownsRow_nil _ _ _ _, Nat.le_refl _, fun g hg => by cases hg⟩, New.same _⟩
    · obtain ⟨a0, a1⟩ := inB_iff.1 h1
      obtain ⟨b0, b1⟩ := inB_iff.1 h2
      have hok : rcB wd ht = true := by simp [rcB, h1, h2]
      have P0 : 1 ≤ wd * ht := by have := Int.mul_le_mul a0 b0 (by omega) (by omega); omega
      have P1 : wd * ht ≤ 3600 := by have := Int.mul_le_mul a1 b1 (by omega) (by omega); omega
      by_cases h3 : 500 < wd * ht
      · rw [show rcList wd ht = [] by simp [rcList, hok, h3], show rcCode wd ht = 4 by simp [rcCode, hok, h3]]
        clear hok
        go_enter Try.func35, Try.ntmps35
        go_wp2_with (go_at_call 56; refine (c_within _ _ _ _).mono ?_; rintro e w' ⟨rfl, rfl⟩)
        go_ret2
        exact ⟨_, rfl, ⟨World.ownsRow_nil _ _ _ _, Nat.le_refl _, fun g hg => by cases hg⟩, New.same _⟩
      · rw [show rcList wd ht = rectL wd (wd * ht).toNat by simp [rcList, hok, h3], show rcCode wd ht = 0 by simp [rcCode, hok, h3], rectL_len]
        clear hok
        obtain ⟨W, rfl⟩ := Int.eq_ofNat_of_zero_le (show 0 ≤ wd by omega)
        obtain ⟨H, rfl⟩ := Int.eq_ofNat_of_zero_le (show 0 ≤ ht by omega)
        rw [show ((W : Int) * (H : Int)).toNat = H * W by rw [← Int.natCast_mul, Int.toNat_natCast, Nat.mul_comm]]
        have W1 : W ≤ 60 := by omega
        have H1 : H ≤ 60 := by omega
        go_enter Try.func35, Try.ntmps35
        go_wp2_with (first | (go_at_call 56; refine (c_within _ _ _ _).mono ?_; rintro e w' ⟨rfl, rfl⟩) | (go_at_call 70; refine (c_rectangle _ _ W H (by omega) (by omega) W1 H1 _).mono ?_; rintro e w1 ⟨u, rfl, hO, n1⟩))
        go_ret2
        exact ⟨_, rfl, hO, n1⟩

end Go.Proofs.Ytbhgjkfpgdgkfaa
