/- Contracts of the functions that add, multiply and divide fractions. -/
import Derived.Test.YtbhgjkfpgdgkfaaFrac2
namespace Go.Proofs.Ytbhgjkfpgdgkfaa
open Go.RowKit

/-- block b of the world w is a struct of two integers -/
def Box2 (w : World) (b : Nat) (x y : Int) : Prop := (w.cell? ⟨b, 0, none⟩ = some (.int .i64 x) ∧ w.cell? ⟨b, 1, none⟩ = some (.int .i64 y)) ∧ (w.frozen? ⟨b, 0, none⟩ = false ∧ w.frozen? ⟨b, 1, none⟩ = false) ∧ b < w.heap.size
theorem Box2.new {w w' : World} {b : Nat} {x y : Int} (h : Box2 w b x y) (n : New w w') : Box2 w' b x y := by
  obtain ⟨⟨h1, h2⟩, ⟨h3, h4⟩, h5⟩ := h
  exact ⟨⟨(n.cell (p := ⟨b, 0, none⟩) h5).trans h1, (n.cell (p := ⟨b, 1, none⟩) h5).trans h2⟩, ⟨(n.frozen (p := ⟨b, 0, none⟩) h5).trans h3, (n.frozen (p := ⟨b, 1, none⟩) h5).trans h4⟩, Nat.lt_of_lt_of_le h5 n.size⟩

theorem box3 (w : World) (x0 y0 x1 y1 x2 y2 : Int) (t0 t1 t2 : TypeId) :
    New w (((w.alloc (.cells #[.int .i64 x0, .int .i64 y0] t0)).alloc (.cells #[.int .i64 x1, .int .i64 y1] t1)).alloc (.cells #[.int .i64 x2, .int .i64 y2] t2)) ∧
    Box2 (((w.alloc (.cells #[.int .i64 x0, .int .i64 y0] t0)).alloc (.cells #[.int .i64 x1, .int .i64 y1] t1)).alloc (.cells #[.int .i64 x2, .int .i64 y2] t2)) w.heap.size x0 y0 ∧
    Box2 (((w.alloc (.cells #[.int .i64 x0, .int .i64 y0] t0)).alloc (.cells #[.int .i64 x1, .int .i64 y1] t1)).alloc (.cells #[.int .i64 x2, .int .i64 y2] t2)) (w.heap.size + 1) x1 y1 ∧
    Box2 (((w.alloc (.cells #[.int .i64 x0, .int .i64 y0] t0)).alloc (.cells #[.int .i64 x1, .int .i64 y1] t1)).alloc (.cells #[.int .i64 x2, .int .i64 y2] t2)) (w.heap.size + 1 + 1) x2 y2 := by
  refine ⟨(((New.same w).box _).box _).box _, ⟨⟨by go_simp, by go_simp⟩, ⟨by go_simp, by go_simp⟩, by simp; omega⟩, ⟨⟨by go_simp, by go_simp⟩, ⟨by go_simp, by go_simp⟩, by simp⟩, ⟨⟨by go_simp, by go_simp⟩, ⟨by go_simp, by go_simp⟩, by simp⟩⟩

/-- both fractions are valid -/
def okAB (an ad bn bd : Int) : Bool := vfB an ad && vfB bn bd
/-- the parts of the result of an operation on two fractions: S over P, if ok -/
def opN (ok : Bool) (S P : Int) : Int := if ok then rN S P else 0
def opD (ok : Bool) (S P : Int) : Int := if ok then rD S P else 0
def opC (ok : Bool) (code S P : Int) : Int := if ok then rC S P else code

set_option maxHeartbeats 1000000 in
theorem c_l01Sum (an ad bn bd : Int) (w : World) (q1 : -1000000000 ≤ an) (q2 : an ≤ 1000000000) (q3 : 1 ≤ ad) (q4 : ad ≤ 1000000000) (q5 : -1000000000 ≤ bn) (q6 : bn ≤ 1000000000) (q7 : 1 ≤ bd) (q8 : bd ≤ 1000000000) :
    Calls Try.prog 64 #[.agg #[.int .i64 an, .int .i64 ad], .agg #[.int .i64 bn, .int .i64 bd]] w (GivesFrac w (rN (an * bd + bn * ad) (ad * bd)) (rD (an * bd + bn * ad) (ad * bd)) (rC (an * bd + bn * ad) (ad * bd))) := by
  have P1 := mul_bd (x := an) (y := bd) (A := 1000000000) (B := 1000000000) (by omega) (by omega) (by omega) (by omega) (by omega) (by omega)
  have P2 := mul_bd (x := bn) (y := ad) (A := 1000000000) (B := 1000000000) (by omega) (by omega) (by omega) (by omega) (by omega) (by omega)
  have P3 := mul_bd (x := ad) (y := bd) (A := 1000000000) (B := 1000000000) (by omega) (by omega) (by omega) (by omega) (by omega) (by omega)
  have hnz : ad * bd ≠ 0 := (Int.ne_of_gt (Int.mul_pos (by omega) (by omega)))
  obtain ⟨n0, B0, B1, B2⟩ := box3 w an ad bn bd 0 0 25 25 25
  go_enter Try.func64, Try.ntmps64
  go_wp2_with fail
  generalize (((w.alloc (.cells #[.int .i64 an, .int .i64 ad] 25)).alloc (.cells #[.int .i64 bn, .int .i64 bd] 25)).alloc (.cells #[.int .i64 0, .int .i64 0] 25)) = W0 at *
  obtain ⟨⟨u1, u2⟩, ⟨u3, u4⟩, u5⟩ := B2
  refine (c_l01Make _ _ _ hnz (by omega) (by omega) (by omega) (by omega)).mono ?_
  rintro e w1 ⟨rfl, n1⟩
  obtain ⟨⟨s1, s2⟩, ⟨s3, s4⟩, s5⟩ := Box2.new ⟨⟨u1, u2⟩, ⟨u3, u4⟩, u5⟩ n1
  have hN : New w w1 := n0.step n1
  clear n1 n0 B0 B1
  generalize rN (an * bd + bn * ad) (ad * bd) = RN at *
  generalize rD (an * bd + bn * ad) (ad * bd) = RD at *
  generalize rC (an * bd + bn * ad) (ad * bd) = RC at *
  go_wp2
  refine bodyPost_ret (v := .tuple #[.agg #[.int .i64 RN, .int .i64 RD], .int .i64 RC]) (by simp [results, Try.results64, go_sem, s1, s2]) rfl ?_
  exact ⟨rfl, by go_grown⟩

set_option maxHeartbeats 1000000 in
theorem c_l01Mul (an ad bn bd : Int) (w : World) (q1 : -1000000000 ≤ an) (q2 : an ≤ 1000000000) (q3 : 1 ≤ ad) (q4 : ad ≤ 1000000000) (q5 : -1000000000 ≤ bn) (q6 : bn ≤ 1000000000) (q7 : 1 ≤ bd) (q8 : bd ≤ 1000000000) :
    Calls Try.prog 61 #[.agg #[.int .i64 an, .int .i64 ad], .agg #[.int .i64 bn, .int .i64 bd]] w (GivesFrac w (rN (an * bn) (ad * bd)) (rD (an * bn) (ad * bd)) (rC (an * bn) (ad * bd))) := by
  have P3 := mul_bd (x := ad) (y := bd) (A := 1000000000) (B := 1000000000) (by omega) (by omega) (by omega) (by omega) (by omega) (by omega)
  have P4 := mul_bd (x := an) (y := bn) (A := 1000000000) (B := 1000000000) (by omega) (by omega) (by omega) (by omega) (by omega) (by omega)
  have hnz : ad * bd ≠ 0 := (Int.ne_of_gt (Int.mul_pos (by omega) (by omega)))
  obtain ⟨n0, B0, B1, B2⟩ := box3 w an ad bn bd 0 0 25 25 25
  go_enter Try.func61, Try.ntmps61
  go_wp2_with fail
  generalize (((w.alloc (.cells #[.int .i64 an, .int .i64 ad] 25)).alloc (.cells #[.int .i64 bn, .int .i64 bd] 25)).alloc (.cells #[.int .i64 0, .int .i64 0] 25)) = W0 at *
  obtain ⟨⟨u1, u2⟩, ⟨u3, u4⟩, u5⟩ := B2
  refine (c_l01Make _ _ _ hnz (by omega) (by omega) (by omega) (by omega)).mono ?_
  rintro e w1 ⟨rfl, n1⟩
  obtain ⟨⟨s1, s2⟩, ⟨s3, s4⟩, s5⟩ := Box2.new ⟨⟨u1, u2⟩, ⟨u3, u4⟩, u5⟩ n1
  have hN : New w w1 := n0.step n1
  clear n1 n0 B0 B1
  generalize rN (an * bn) (ad * bd) = RN at *
  generalize rD (an * bn) (ad * bd) = RD at *
  generalize rC (an * bn) (ad * bd) = RC at *
  go_wp2
  refine bodyPost_ret (v := .tuple #[.agg #[.int .i64 RN, .int .i64 RD], .int .i64 RC]) (by simp [results, Try.results61, go_sem, s1, s2]) rfl ?_
  exact ⟨rfl, by go_grown⟩

set_option maxHeartbeats 1000000 in
theorem c_l01Div (an ad bn bd : Int) (w : World) (q1 : -1000000000 ≤ an) (q2 : an ≤ 1000000000) (q3 : 1 ≤ ad) (q4 : ad ≤ 1000000000) (q5 : -1000000000 ≤ bn) (q6 : bn ≤ 1000000000) (q7 : 1 ≤ bd) (q8 : bd ≤ 1000000000) (hb0 : bn ≠ 0) :
    Calls Try.prog 65 #[.agg #[.int .i64 an, .int .i64 ad], .agg #[.int .i64 bn, .int .i64 bd]] w (GivesFrac w (rN (an * bd) (ad * bn)) (rD (an * bd) (ad * bn)) (rC (an * bd) (ad * bn))) := by
  have P1 := mul_bd (x := an) (y := bd) (A := 1000000000) (B := 1000000000) (by omega) (by omega) (by omega) (by omega) (by omega) (by omega)
  have P5 := mul_bd (x := ad) (y := bn) (A := 1000000000) (B := 1000000000) (by omega) (by omega) (by omega) (by omega) (by omega) (by omega)
  have hnz : ad * bn ≠ 0 := (Int.mul_ne_zero (by omega) hb0)
  obtain ⟨n0, B0, B1, B2⟩ := box3 w an ad bn bd 0 0 25 25 25
  go_enter Try.func65, Try.ntmps65
  go_wp2_with fail
  generalize (((w.alloc (.cells #[.int .i64 an, .int .i64 ad] 25)).alloc (.cells #[.int .i64 bn, .int .i64 bd] 25)).alloc (.cells #[.int .i64 0, .int .i64 0] 25)) = W0 at *
  obtain ⟨⟨u1, u2⟩, ⟨u3, u4⟩, u5⟩ := B2
  refine (c_l01Make _ _ _ hnz (by omega) (by omega) (by omega) (by omega)).mono ?_
  rintro e w1 ⟨rfl, n1⟩
  obtain ⟨⟨s1, s2⟩, ⟨s3, s4⟩, s5⟩ := Box2.new ⟨⟨u1, u2⟩, ⟨u3, u4⟩, u5⟩ n1
  have hN : New w w1 := n0.step n1
  clear n1 n0 B0 B1
  generalize rN (an * bd) (ad * bn) = RN at *
  generalize rD (an * bd) (ad * bn) = RD at *
  generalize rC (an * bd) (ad * bn) = RC at *
  go_wp2
  refine bodyPost_ret (v := .tuple #[.agg #[.int .i64 RN, .int .i64 RD], .int .i64 RC]) (by simp [results, Try.results65, go_sem, s1, s2]) rfl ?_
  exact ⟨rfl, by go_grown⟩

end Go.Proofs.Ytbhgjkfpgdgkfaa
