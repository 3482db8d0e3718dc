/- Contracts of the functions that reduce fractions. -/
import Derived.Test.YtbhgjkfpgdgkfaaFrac
namespace Go.Proofs.Ytbhgjkfpgdgkfaa
open Go.RowKit

theorem region_still_tail {P : Program} {id : Nat} {Q : Exit → Act → World → Prop} {a : Act} {w : World} {l : List Oper} (n : Nat) (hm : P.follows .mixedOrders = true) (hB : Region.lexTailB .any l.toArray n = true)
    (h : wpStill P l.toArray w.drew (fun a' => wpList P l.toArray Q (l.drop n) a' w.drew) (l.take n) a) : (Code.region id l.toArray true).wp P Q a w := wp_region_still_tail n hm hB h

/-- the parts lie within the limits of a fraction -/
def redB (n d : Int) : Bool := inB (redN n d) (-1000000000) 1000000000 && decide (redD n d ≤ 1000000000)
def rN (n d : Int) : Int := if redB n d then redN n d else 0
def rD (n d : Int) : Int := if redB n d then redD n d else 0
def rC (n d : Int) : Int := if redB n d then 0 else 4

/-- what a call that hands back a fraction and a code ends in -/
def GivesFrac (w : World) (n d c : Int) (E : Ending) (w' : World) : Prop := E = .returned (.tuple #[.agg #[.int .i64 n, .int .i64 d], .int .i64 c]) ∧ New w w'

set_option maxHeartbeats 1000000 in
theorem c_reduced_neg (n d : Int) (w : World) (hd : d ≠ 0) (a1 : -4000000000000000000 ≤ n) (a2 : n ≤ 4000000000000000000) (b1 : -4000000000000000000 ≤ d) (b2 : d ≤ 4000000000000000000) (hneg : d < 0) :
    Calls Try.prog 60 #[.int .i64 n, .int .i64 d] w (GivesFrac w (rN n d) (rD n d) (rC n d)) := by
  have g1 := gI_pos (a := n) hd
  have g2 := gI_le (a := n) hd b1 b2
  have q1 := redN_neg (n := n) hneg
  have q2 := redD_neg (n := n) hneg
  obtain ⟨m1, m2⟩ := redN_bd hd a1 a2
  obtain ⟨m3, m4⟩ := redD_bd (n := n) hd b1 b2
  have c0 : (w.alloc (.cells #[.int .i64 0, .int .i64 0] 25)).cell? ⟨w.heap.size, 0, none⟩ = some (.int .i64 0) := by go_simp
  have c1 : (w.alloc (.cells #[.int .i64 0, .int .i64 0] 25)).cell? ⟨w.heap.size, 1, none⟩ = some (.int .i64 0) := by go_simp
  have f0 : (w.alloc (.cells #[.int .i64 0, .int .i64 0] 25)).frozen? ⟨w.heap.size, 0, none⟩ = false := by go_simp
  have f1 : (w.alloc (.cells #[.int .i64 0, .int .i64 0] 25)).frozen? ⟨w.heap.size, 1, none⟩ = false := by go_simp
  have z0 : w.heap.size < (w.alloc (.cells #[.int .i64 0, .int .i64 0] 25)).heap.size := by simp
  go_enter Try.func60, Try.ntmps60
  go_wp2_with (go_at_call 57; refine (c_gcd n d _ a1 a2 b1 b2).mono ?_; rintro e w1 ⟨rfl, n1⟩)
  have c0' := (n1.cell (p := ⟨w.heap.size, 0, none⟩) z0).trans c0
  have c1' := (n1.cell (p := ⟨w.heap.size, 1, none⟩) z0).trans c1
  have f0' := (n1.frozen (p := ⟨w.heap.size, 0, none⟩) z0).trans f0
  have f1' := (n1.frozen (p := ⟨w.heap.size, 1, none⟩) z0).trans f1
  have z1 := Nat.lt_of_lt_of_le z0 n1.size
  have N1 := Lib.hid ((((New.same w).box (.cells #[.int .i64 0, .int .i64 0] 25)).step n1))
  clear c0 c1 f0 f1 z0 n1
  have hz : ¬ -(gI n d) = 0 := by omega
  have v1 : IntKind.i64.wrap (redN n d) = redN n d := IntWalk.i64_in _ (by omega)
  have v2 : IntKind.i64.wrap (redD n d) = redD n d := IntWalk.i64_in _ (by omega)
  generalize -(gI n d) = g at *
  go_region
  clear v1 v2
  cases h1 : inB (redN n d) (-1000000000) 1000000000
  · have R : redB n d = false := by simp [redB, h1]
    have E1 := Lib.hid (show rN n d = 0 by simp [rN, R])
    have E2 := Lib.hid (show rD n d = 0 by simp [rD, R])
    have E3 := Lib.hid (show rC n d = 4 by simp [rC, R])
    clear R
    go_wp2_with (go_at_call 56; refine (c_within _ _ _ _).mono ?_; rintro e w' ⟨rfl, rfl⟩)
    refine bodyPost_ret (v := .tuple #[.agg #[.int .i64 0, .int .i64 0], .int .i64 4]) (by simp [results, Try.results60, go_sem, c0', c1', z1]) rfl ?_
    rw [E1.out, E2.out, E3.out]
    exact ⟨rfl, by have hN := N1.out; go_grown⟩
  · cases h2 : decide (redD n d ≤ 1000000000)
    · have R : redB n d = false := by simp [redB, h2]
      have E1 := Lib.hid (show rN n d = 0 by simp [rN, R])
      have E2 := Lib.hid (show rD n d = 0 by simp [rD, R])
      have E3 := Lib.hid (show rC n d = 4 by simp [rC, R])
      have h3 : 1000000000 < redD n d := by simpa using h2
      clear R
      go_wp2_with (go_at_call 56; refine (c_within _ _ _ _).mono ?_; rintro e w' ⟨rfl, rfl⟩)
      refine bodyPost_ret (v := .tuple #[.agg #[.int .i64 0, .int .i64 0], .int .i64 4]) (by simp [results, Try.results60, go_sem, c0', c1', z1]) rfl ?_
      rw [E1.out, E2.out, E3.out]
      exact ⟨rfl, by have hN := N1.out; go_grown⟩
    · have R : redB n d = true := by simp [redB, h1, h2]
      have E1 := Lib.hid (show rN n d = redN n d by simp [rN, R])
      have E2 := Lib.hid (show rD n d = redD n d by simp [rD, R])
      have E3 := Lib.hid (show rC n d = 0 by simp [rC, R])
      have h3 : redD n d ≤ 1000000000 := by simpa using h2
      have h4 : decide (1000000000 < redD n d) = false := by simp; omega
      clear R
      go_wp2_with (go_at_call 56; refine (c_within _ _ _ _).mono ?_; rintro e w' ⟨rfl, rfl⟩)
      refine bodyPost_ret (v := .tuple #[.agg #[.int .i64 (redN n d), .int .i64 (redD n d)], .int .i64 0]) (by simp [results, Try.results60, go_sem, c0', c1', z1]) rfl ?_
      rw [E1.out, E2.out, E3.out]
      exact ⟨rfl, by have hN := N1.out; go_grown⟩

set_option maxHeartbeats 1000000 in
theorem c_reduced_pos (n d : Int) (w : World) (hd : d ≠ 0) (a1 : -4000000000000000000 ≤ n) (a2 : n ≤ 4000000000000000000) (b1 : -4000000000000000000 ≤ d) (b2 : d ≤ 4000000000000000000) (hpos : 0 < d) :
    Calls Try.prog 60 #[.int .i64 n, .int .i64 d] w (GivesFrac w (rN n d) (rD n d) (rC n d)) := by
  have g1 := gI_pos (a := n) hd
  have g2 := gI_le (a := n) hd b1 b2
  have q1 := redN_pos (n := n) hpos
  have q2 := redD_pos (n := n) hpos
  obtain ⟨m1, m2⟩ := redN_bd hd a1 a2
  obtain ⟨m3, m4⟩ := redD_bd (n := n) hd b1 b2
  have c0 : (w.alloc (.cells #[.int .i64 0, .int .i64 0] 25)).cell? ⟨w.heap.size, 0, none⟩ = some (.int .i64 0) := by go_simp
  have c1 : (w.alloc (.cells #[.int .i64 0, .int .i64 0] 25)).cell? ⟨w.heap.size, 1, none⟩ = some (.int .i64 0) := by go_simp
  have f0 : (w.alloc (.cells #[.int .i64 0, .int .i64 0] 25)).frozen? ⟨w.heap.size, 0, none⟩ = false := by go_simp
  have f1 : (w.alloc (.cells #[.int .i64 0, .int .i64 0] 25)).frozen? ⟨w.heap.size, 1, none⟩ = false := by go_simp
  have z0 : w.heap.size < (w.alloc (.cells #[.int .i64 0, .int .i64 0] 25)).heap.size := by simp
  go_enter Try.func60, Try.ntmps60
  go_wp2_with (go_at_call 57; refine (c_gcd n d _ a1 a2 b1 b2).mono ?_; rintro e w1 ⟨rfl, n1⟩)
  have c0' := (n1.cell (p := ⟨w.heap.size, 0, none⟩) z0).trans c0
  have c1' := (n1.cell (p := ⟨w.heap.size, 1, none⟩) z0).trans c1
  have f0' := (n1.frozen (p := ⟨w.heap.size, 0, none⟩) z0).trans f0
  have f1' := (n1.frozen (p := ⟨w.heap.size, 1, none⟩) z0).trans f1
  have z1 := Nat.lt_of_lt_of_le z0 n1.size
  have N1 := Lib.hid ((((New.same w).box (.cells #[.int .i64 0, .int .i64 0] 25)).step n1))
  clear c0 c1 f0 f1 z0 n1
  have hz : ¬ gI n d = 0 := by omega
  have v1 : IntKind.i64.wrap (redN n d) = redN n d := IntWalk.i64_in _ (by omega)
  have v2 : IntKind.i64.wrap (redD n d) = redD n d := IntWalk.i64_in _ (by omega)
  generalize gI n d = g at *
  clear g1 g2
  go_region
  clear v1 v2
  cases h1 : inB (redN n d) (-1000000000) 1000000000
  · have R : redB n d = false := by simp [redB, h1]
    have E1 := Lib.hid (show rN n d = 0 by simp [rN, R])
    have E2 := Lib.hid (show rD n d = 0 by simp [rD, R])
    have E3 := Lib.hid (show rC n d = 4 by simp [rC, R])
    clear R
    go_wp2_with (go_at_call 56; refine (c_within _ _ _ _).mono ?_; rintro e w' ⟨rfl, rfl⟩)
    refine bodyPost_ret (v := .tuple #[.agg #[.int .i64 0, .int .i64 0], .int .i64 4]) (by simp [results, Try.results60, go_sem, c0', c1', z1]) rfl ?_
    rw [E1.out, E2.out, E3.out]
    exact ⟨rfl, by have hN := N1.out; go_grown⟩
  · cases h2 : decide (redD n d ≤ 1000000000)
    · have R : redB n d = false := by simp [redB, h2]
      have E1 := Lib.hid (show rN n d = 0 by simp [rN, R])
      have E2 := Lib.hid (show rD n d = 0 by simp [rD, R])
      have E3 := Lib.hid (show rC n d = 4 by simp [rC, R])
      have h3 : 1000000000 < redD n d := by simpa using h2
      clear R
      go_wp2_with (go_at_call 56; refine (c_within _ _ _ _).mono ?_; rintro e w' ⟨rfl, rfl⟩)
      refine bodyPost_ret (v := .tuple #[.agg #[.int .i64 0, .int .i64 0], .int .i64 4]) (by simp [results, Try.results60, go_sem, c0', c1', z1]) rfl ?_
      rw [E1.out, E2.out, E3.out]
      exact ⟨rfl, by have hN := N1.out; go_grown⟩
    · have R : redB n d = true := by simp [redB, h1, h2]
      have E1 := Lib.hid (show rN n d = redN n d by simp [rN, R])
      have E2 := Lib.hid (show rD n d = redD n d by simp [rD, R])
      have E3 := Lib.hid (show rC n d = 0 by simp [rC, R])
      have h3 : redD n d ≤ 1000000000 := by simpa using h2
      have h4 : decide (1000000000 < redD n d) = false := by simp; omega
      clear R
      go_wp2_with (go_at_call 56; refine (c_within _ _ _ _).mono ?_; rintro e w' ⟨rfl, rfl⟩)
      refine bodyPost_ret (v := .tuple #[.agg #[.int .i64 (redN n d), .int .i64 (redD n d)], .int .i64 0]) (by simp [results, Try.results60, go_sem, c0', c1', z1]) rfl ?_
      rw [E1.out, E2.out, E3.out]
      exact ⟨rfl, by have hN := N1.out; go_grown⟩

theorem c_reduced (n d : Int) (w : World) (hd : d ≠ 0) (a1 : -4000000000000000000 ≤ n) (a2 : n ≤ 4000000000000000000) (b1 : -4000000000000000000 ≤ d) (b2 : d ≤ 4000000000000000000) :
    Calls Try.prog 60 #[.int .i64 n, .int .i64 d] w (GivesFrac w (rN n d) (rD n d) (rC n d)) := by
  rcases Int.lt_or_le d 0 with h | h
  · exact c_reduced_neg n d w hd a1 a2 b1 b2 h
  · exact c_reduced_pos n d w hd a1 a2 b1 b2 (by omega)

set_option maxHeartbeats 1000000 in
theorem c_l01Make_neg (n d : Int) (w : World) (hd : d ≠ 0) (a1 : -4000000000000000000 ≤ n) (a2 : n ≤ 4000000000000000000) (b1 : -4000000000000000000 ≤ d) (b2 : d ≤ 4000000000000000000) (hneg : d < 0) :
    Calls Try.prog 59 #[.int .i64 n, .int .i64 d] w (GivesFrac w (rN n d) (rD n d) (rC n d)) := by
  have g1 := gI_pos (a := n) hd
  have g2 := gI_le (a := n) hd b1 b2
  have q1 := redN_neg' (n := n) hneg
  have q2 := redD_neg' (n := n) hneg
  obtain ⟨m1, m2⟩ := redN_bd hd a1 a2
  obtain ⟨m3, m4⟩ := redD_bd (n := n) hd b1 b2
  have e1 : gI (n.natAbs : Int) (-d) = gI n d := by rw [gI_neg_right, gI_abs]
  have hco := red_coprime (n := n) hd
  have HV := Lib.hid (show vfB (redN n d) (redD n d) = redB n d by
    have k : inB (redD n d) 1 1000000000 = decide (redD n d ≤ 1000000000) := by
      rw [Bool.eq_iff_iff, inB_iff, decide_eq_true_eq]; omega
    simp [vfB, redB, hco, k])
  clear hco
  have hn1 : (n.natAbs : Int) ≤ 4000000000000000000 := by omega
  have hn0 : 0 ≤ (n.natAbs : Int) := by omega
  go_enter Try.func59, Try.ntmps59
  go_wp2_with (first | (go_at_call 85; refine (c_l01Abs _ _ (by omega) (by omega)).mono ?_; rintro e w' ⟨rfl, rfl⟩) | (go_at_call 84; refine (c_l01Gcd _ _ _ (by omega) (by omega) (by omega) (by omega)).mono ?_; rintro e w' ⟨rfl, rfl⟩))
  clear hn0 hn1
  have hz : ¬ gI n d = 0 := by omega
  have v1 : IntKind.i64.wrap (redN n d) = redN n d := IntWalk.i64_in _ (by omega)
  have v2 : IntKind.i64.wrap (redD n d) = redD n d := IntWalk.i64_in _ (by omega)
  clear e1
  generalize gI n d = g at *
  clear g1 g2
  go_region
  clear v1 v2
  cases h1 : redB n d
  · have E1 := Lib.hid (show rN n d = 0 by simp [rN, h1])
    have E2 := Lib.hid (show rD n d = 0 by simp [rD, h1])
    have E3 := Lib.hid (show rC n d = 4 by simp [rC, h1])
    have H1 := Lib.hid h1
    clear h1
    go_wp2_with (go_at_call 55; refine (c_l01Frac _ _ _).mono ?_; rintro e w1 ⟨he, n1⟩; rw [HV.out, H1.out] at he; subst he; have z1 := n1.size; simp at z1; have c0 : w1.cell? ⟨w.heap.size, 0, none⟩ = some (.int .i64 0) := (n1.cell (p := ⟨w.heap.size, 0, none⟩) (by first | (simp; done) | (simp; omega))).trans (by go_simp); have c1 : w1.cell? ⟨w.heap.size, 1, none⟩ = some (.int .i64 0) := (n1.cell (p := ⟨w.heap.size, 1, none⟩) (by first | (simp; done) | (simp; omega))).trans (by go_simp); have c2 : w1.cell? ⟨w.heap.size + 1, 0, none⟩ = some (.int .i64 (redN n d)) := (n1.cell (p := ⟨w.heap.size + 1, 0, none⟩) (by first | (simp; done) | (simp; omega))).trans (by go_simp); have c3 : w1.cell? ⟨w.heap.size + 1, 1, none⟩ = some (.int .i64 (redD n d)) := (n1.cell (p := ⟨w.heap.size + 1, 1, none⟩) (by first | (simp; done) | (simp; omega))).trans (by go_simp); have f0 : w1.frozen? ⟨w.heap.size, 0, none⟩ = false := (n1.frozen (p := ⟨w.heap.size, 0, none⟩) (by first | (simp; done) | (simp; omega))).trans (by go_simp); have f1 : w1.frozen? ⟨w.heap.size, 1, none⟩ = false := (n1.frozen (p := ⟨w.heap.size, 1, none⟩) (by first | (simp; done) | (simp; omega))).trans (by go_simp); have hN : New w w1 := ((((New.same w).box _).box _).drew_).step n1; clear n1)
    refine bodyPost_ret (v := .tuple #[.agg #[.int .i64 0, .int .i64 0], .int .i64 4]) (by simp [results, Try.results59, go_sem, c0, c1]) rfl ?_
    rw [E1.out, E2.out, E3.out]
    exact ⟨rfl, by go_grown⟩
  · have E1 := Lib.hid (show rN n d = redN n d by simp [rN, h1])
    have E2 := Lib.hid (show rD n d = redD n d by simp [rD, h1])
    have E3 := Lib.hid (show rC n d = 0 by simp [rC, h1])
    have H1 := Lib.hid h1
    clear h1
    go_wp2_with (go_at_call 55; refine (c_l01Frac _ _ _).mono ?_; rintro e w1 ⟨he, n1⟩; rw [HV.out, H1.out] at he; subst he; have z1 := n1.size; simp at z1; have c0 : w1.cell? ⟨w.heap.size, 0, none⟩ = some (.int .i64 0) := (n1.cell (p := ⟨w.heap.size, 0, none⟩) (by first | (simp; done) | (simp; omega))).trans (by go_simp); have c1 : w1.cell? ⟨w.heap.size, 1, none⟩ = some (.int .i64 0) := (n1.cell (p := ⟨w.heap.size, 1, none⟩) (by first | (simp; done) | (simp; omega))).trans (by go_simp); have c2 : w1.cell? ⟨w.heap.size + 1, 0, none⟩ = some (.int .i64 (redN n d)) := (n1.cell (p := ⟨w.heap.size + 1, 0, none⟩) (by first | (simp; done) | (simp; omega))).trans (by go_simp); have c3 : w1.cell? ⟨w.heap.size + 1, 1, none⟩ = some (.int .i64 (redD n d)) := (n1.cell (p := ⟨w.heap.size + 1, 1, none⟩) (by first | (simp; done) | (simp; omega))).trans (by go_simp); have f0 : w1.frozen? ⟨w.heap.size, 0, none⟩ = false := (n1.frozen (p := ⟨w.heap.size, 0, none⟩) (by first | (simp; done) | (simp; omega))).trans (by go_simp); have f1 : w1.frozen? ⟨w.heap.size, 1, none⟩ = false := (n1.frozen (p := ⟨w.heap.size, 1, none⟩) (by first | (simp; done) | (simp; omega))).trans (by go_simp); have hN : New w w1 := ((((New.same w).box _).box _).drew_).step n1; clear n1)
    refine bodyPost_ret (v := .tuple #[.agg #[.int .i64 (redN n d), .int .i64 (redD n d)], .int .i64 0]) (by simp [results, Try.results59, go_sem, c0, c1]) rfl ?_
    rw [E1.out, E2.out, E3.out]
    exact ⟨rfl, by go_grown⟩

set_option maxHeartbeats 1000000 in
theorem c_l01Make_pos (n d : Int) (w : World) (hd : d ≠ 0) (a1 : -4000000000000000000 ≤ n) (a2 : n ≤ 4000000000000000000) (b1 : -4000000000000000000 ≤ d) (b2 : d ≤ 4000000000000000000) (hpos : 0 < d) :
    Calls Try.prog 59 #[.int .i64 n, .int .i64 d] w (GivesFrac w (rN n d) (rD n d) (rC n d)) := by
  have g1 := gI_pos (a := n) hd
  have g2 := gI_le (a := n) hd b1 b2
  have q1 := redN_pos (n := n) hpos
  have q2 := redD_pos (n := n) hpos
  obtain ⟨m1, m2⟩ := redN_bd hd a1 a2
  obtain ⟨m3, m4⟩ := redD_bd (n := n) hd b1 b2
  have e1 : gI (n.natAbs : Int) d = gI n d := gI_abs n d
  have hco := red_coprime (n := n) hd
  have HV := Lib.hid (show vfB (redN n d) (redD n d) = redB n d by
    have k : inB (redD n d) 1 1000000000 = decide (redD n d ≤ 1000000000) := by
      rw [Bool.eq_iff_iff, inB_iff, decide_eq_true_eq]; omega
    simp [vfB, redB, hco, k])
  clear hco
  have hn1 : (n.natAbs : Int) ≤ 4000000000000000000 := by omega
  have hn0 : 0 ≤ (n.natAbs : Int) := by omega
  go_enter Try.func59, Try.ntmps59
  go_wp2_with (first | (go_at_call 85; refine (c_l01Abs _ _ (by omega) (by omega)).mono ?_; rintro e w' ⟨rfl, rfl⟩) | (go_at_call 84; refine (c_l01Gcd _ _ _ (by omega) (by omega) (by omega) (by omega)).mono ?_; rintro e w' ⟨rfl, rfl⟩))
  clear hn0 hn1
  have hz : ¬ gI n d = 0 := by omega
  have v1 : IntKind.i64.wrap (redN n d) = redN n d := IntWalk.i64_in _ (by omega)
  have v2 : IntKind.i64.wrap (redD n d) = redD n d := IntWalk.i64_in _ (by omega)
  clear e1
  generalize gI n d = g at *
  clear g1 g2
  go_region
  clear v1 v2
  cases h1 : redB n d
  · have E1 := Lib.hid (show rN n d = 0 by simp [rN, h1])
    have E2 := Lib.hid (show rD n d = 0 by simp [rD, h1])
    have E3 := Lib.hid (show rC n d = 4 by simp [rC, h1])
    have H1 := Lib.hid h1
    clear h1
    go_wp2_with (go_at_call 55; refine (c_l01Frac _ _ _).mono ?_; rintro e w1 ⟨he, n1⟩; rw [HV.out, H1.out] at he; subst he; have z1 := n1.size; simp at z1; have c0 : w1.cell? ⟨w.heap.size, 0, none⟩ = some (.int .i64 0) := (n1.cell (p := ⟨w.heap.size, 0, none⟩) (by first | (simp; done) | (simp; omega))).trans (by go_simp); have c1 : w1.cell? ⟨w.heap.size, 1, none⟩ = some (.int .i64 0) := (n1.cell (p := ⟨w.heap.size, 1, none⟩) (by first | (simp; done) | (simp; omega))).trans (by go_simp); have c2 : w1.cell? ⟨w.heap.size + 1, 0, none⟩ = some (.int .i64 (redN n d)) := (n1.cell (p := ⟨w.heap.size + 1, 0, none⟩) (by first | (simp; done) | (simp; omega))).trans (by go_simp); have c3 : w1.cell? ⟨w.heap.size + 1, 1, none⟩ = some (.int .i64 (redD n d)) := (n1.cell (p := ⟨w.heap.size + 1, 1, none⟩) (by first | (simp; done) | (simp; omega))).trans (by go_simp); have f0 : w1.frozen? ⟨w.heap.size, 0, none⟩ = false := (n1.frozen (p := ⟨w.heap.size, 0, none⟩) (by first | (simp; done) | (simp; omega))).trans (by go_simp); have f1 : w1.frozen? ⟨w.heap.size, 1, none⟩ = false := (n1.frozen (p := ⟨w.heap.size, 1, none⟩) (by first | (simp; done) | (simp; omega))).trans (by go_simp); have hN : New w w1 := ((((New.same w).box _).box _).drew_).step n1; clear n1)
    refine bodyPost_ret (v := .tuple #[.agg #[.int .i64 0, .int .i64 0], .int .i64 4]) (by simp [results, Try.results59, go_sem, c0, c1]) rfl ?_
    rw [E1.out, E2.out, E3.out]
    exact ⟨rfl, by go_grown⟩
  · have E1 := Lib.hid (show rN n d = redN n d by simp [rN, h1])
    have E2 := Lib.hid (show rD n d = redD n d by simp [rD, h1])
    have E3 := Lib.hid (show rC n d = 0 by simp [rC, h1])
    have H1 := Lib.hid h1
    clear h1
    go_wp2_with (go_at_call 55; refine (c_l01Frac _ _ _).mono ?_; rintro e w1 ⟨he, n1⟩; rw [HV.out, H1.out] at he; subst he; have z1 := n1.size; simp at z1; have c0 : w1.cell? ⟨w.heap.size, 0, none⟩ = some (.int .i64 0) := (n1.cell (p := ⟨w.heap.size, 0, none⟩) (by first | (simp; done) | (simp; omega))).trans (by go_simp); have c1 : w1.cell? ⟨w.heap.size, 1, none⟩ = some (.int .i64 0) := (n1.cell (p := ⟨w.heap.size, 1, none⟩) (by first | (simp; done) | (simp; omega))).trans (by go_simp); have c2 : w1.cell? ⟨w.heap.size + 1, 0, none⟩ = some (.int .i64 (redN n d)) := (n1.cell (p := ⟨w.heap.size + 1, 0, none⟩) (by first | (simp; done) | (simp; omega))).trans (by go_simp); have c3 : w1.cell? ⟨w.heap.size + 1, 1, none⟩ = some (.int .i64 (redD n d)) := (n1.cell (p := ⟨w.heap.size + 1, 1, none⟩) (by first | (simp; done) | (simp; omega))).trans (by go_simp); have f0 : w1.frozen? ⟨w.heap.size, 0, none⟩ = false := (n1.frozen (p := ⟨w.heap.size, 0, none⟩) (by first | (simp; done) | (simp; omega))).trans (by go_simp); have f1 : w1.frozen? ⟨w.heap.size, 1, none⟩ = false := (n1.frozen (p := ⟨w.heap.size, 1, none⟩) (by first | (simp; done) | (simp; omega))).trans (by go_simp); have hN : New w w1 := ((((New.same w).box _).box _).drew_).step n1; clear n1)
    refine bodyPost_ret (v := .tuple #[.agg #[.int .i64 (redN n d), .int .i64 (redD n d)], .int .i64 0]) (by simp [results, Try.results59, go_sem, c0, c1]) rfl ?_
    rw [E1.out, E2.out, E3.out]
    exact ⟨rfl, by go_grown⟩

theorem c_l01Make (n d : Int) (w : World) (hd : d ≠ 0) (a1 : -4000000000000000000 ≤ n) (a2 : n ≤ 4000000000000000000) (b1 : -4000000000000000000 ≤ d) (b2 : d ≤ 4000000000000000000) :
    Calls Try.prog 59 #[.int .i64 n, .int .i64 d] w (GivesFrac w (rN n d) (rD n d) (rC n d)) := by
  rcases Int.lt_or_le d 0 with h | h
  · exact c_l01Make_neg n d w hd a1 a2 b1 b2 h
  · exact c_l01Make_pos n d w hd a1 a2 b1 b2 (by omega)

end Go.Proofs.Ytbhgjkfpgdgkfaa
