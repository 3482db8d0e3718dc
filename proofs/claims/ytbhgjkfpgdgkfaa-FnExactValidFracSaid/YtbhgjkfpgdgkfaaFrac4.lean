/- Contracts of the operations on fractions, and of the laws' own functions on them. -/
import Derived.Test.YtbhgjkfpgdgkfaaFrac3
import Derived.Deep.DeepCutAuto
import Derived.Deep.RegionHeld3
namespace Go.Proofs.Ytbhgjkfpgdgkfaa
open Go.RowKit
set_option linter.unusedSimpArgs false

set_option maxHeartbeats 400000 in
theorem c_toFrac (x y : Int) (w : World) : Calls Try.prog 16 #[.agg #[.int .i64 x, .int .i64 y]] w fun e w' => e = .returned (.agg #[.int .i64 x, .int .i64 y]) ∧ New w w' := by
  go_enter Try.func16, Try.ntmps16
  go_wp2
  exact bodyPost_ret (v := .agg #[.int .i64 x, .int .i64 y]) (by simp [results, Try.results16, go_sem]) rfl ⟨rfl, by go_grown⟩

set_option maxHeartbeats 400000 in
theorem c_eqFrac_self (n d : Int) (w : World) : Calls Try.prog 20 #[.agg #[.int .i64 n, .int .i64 d], .agg #[.int .i64 n, .int .i64 d]] w fun e w' => e = .returned (.bool true) ∧ New w w' := by
  go_enter Try.func20, Try.ntmps20
  go_wp2
  go_ret
  exact ⟨rfl, by go_grown⟩

set_option maxHeartbeats 400000 in
theorem c_specValidFrac (n d : Int) (w : World) : Calls Try.prog 15 #[.agg #[.int .i64 n, .int .i64 d]] w fun e w' => e = .returned (.bool (vfB n d)) ∧ New w w' := by
  go_enter Try.func15, Try.ntmps15
  go_wp2_with (go_at_call 55; refine (c_l01Frac _ _ _).mono ?_; rintro e w1 ⟨rfl, hb⟩)
  go_ret
  exact ⟨rfl, ((New.same w).box _).step hb⟩

/-- Box2, not to be taken apart -/
structure BoxK (w : World) (b : Nat) (x y : Int) : Prop where
  out : Box2 w b x y
theorem BoxK.new {w w' : World} {b : Nat} {x y : Int} (h : BoxK w b x y) (n : New w w') : BoxK w' b x y := ⟨h.out.new n⟩
theorem BoxK.at {w : World} {b : Nat} {x y : Int} (h : BoxK w b x y) : (w.cell? ⟨b, 0, none⟩ = some (.int .i64 x) ∧ w.cell? ⟨b, 1, none⟩ = some (.int .i64 y)) ∧ (w.frozen? ⟨b, 0, none⟩ = false ∧ w.frozen? ⟨b, 1, none⟩ = false) ∧ b < w.heap.size := h.out
theorem BoxK.alloc (w : World) (x y : Int) (t : TypeId) : BoxK (w.alloc (.cells #[.int .i64 x, .int .i64 y] t)) w.heap.size x y := ⟨⟨⟨by go_simp, by go_simp⟩, ⟨by go_simp, by go_simp⟩, by simp⟩⟩

theorem BoxK.set {w : World} {b : Nat} {x0 y0 : Int} (h : BoxK w b x0 y0) (x y : Int) : BoxK ((w.setCell ⟨b, 0, none⟩ (.int .i64 x)).setCell ⟨b, 1, none⟩ (.int .i64 y)) b x y := by
  obtain ⟨⟨c, d⟩, ⟨f, g⟩, z⟩ := h.at
  exact ⟨⟨⟨by simp [go_sem, *], by simp [go_sem, *]⟩, ⟨by simp [go_sem, *], by simp [go_sem, *]⟩, by simp [go_sem, *]⟩⟩
theorem keep4 {w1 w2 : World} {b0 b1 : Nat} {x0 y0 x1 y1 : Int} (n : New w1 w2) (h0 : BoxK w1 b0 x0 y0) (h1 : BoxK w1 b1 x1 y1) :
    w2.cell? ⟨b0, 0, none⟩ = some (.int .i64 x0) ∧ w2.cell? ⟨b0, 1, none⟩ = some (.int .i64 y0) ∧ w2.cell? ⟨b1, 0, none⟩ = some (.int .i64 x1) ∧ w2.cell? ⟨b1, 1, none⟩ = some (.int .i64 y1) :=
  ⟨(h0.new n).at.1.1, (h0.new n).at.1.2, (h1.new n).at.1.1, (h1.new n).at.1.2⟩

theorem New.set {a b c : World} (h : New a b) (k : New a c) (o : Nat) (v : Value) : New a (b.setCell ⟨c.heap.size, o, none⟩ v) := Below.setCell h k.size v

/-- two numbers that make a fraction -/
def okM (n d : Int) : Bool := inB n (-1000000000) 1000000000 && inB d (-1000000000) 1000000000 && !(d == 0)

set_option maxHeartbeats 1000000 in
theorem c_implMakeFrac (n d : Int) (w : World) : Calls Try.prog 19 #[.int .i64 n, .int .i64 d] w (GivesFrac w (opN (okM n d) n d) (opD (okM n d) n d) (opC (okM n d) 2 n d)) := by
  have n0 : New w (w.alloc (.cells #[.int .i64 0, .int .i64 0] 25)) := (New.same w).box _
  have B0 : Box2 (w.alloc (.cells #[.int .i64 0, .int .i64 0] 25)) w.heap.size 0 0 := ⟨⟨by go_simp, by go_simp⟩, ⟨by go_simp, by go_simp⟩, by simp⟩
  cases h1 : inB n (-1000000000) 1000000000
  · rw [show okM n d = false by simp [okM, *]]
    go_enter Try.func19, Try.ntmps19
    go_wp2_with (go_at_call 56; refine (c_within _ _ _ _).mono ?_; rintro e w' ⟨rfl, rfl⟩)
    refine bodyPost_ret (v := .tuple #[.agg #[.int .i64 0, .int .i64 0], .int .i64 2]) (by simp [results, Try.results19, go_sem, *]) rfl ?_
    exact ⟨rfl, by go_grown⟩
  · cases h2 : inB d (-1000000000) 1000000000
    · rw [show okM n d = false by simp [okM, *]]
      go_enter Try.func19, Try.ntmps19
      go_wp2_with (go_at_call 56; refine (c_within _ _ _ _).mono ?_; rintro e w' ⟨rfl, rfl⟩)
      refine bodyPost_ret (v := .tuple #[.agg #[.int .i64 0, .int .i64 0], .int .i64 2]) (by simp [results, Try.results19, go_sem, *]) rfl ?_
      exact ⟨rfl, by go_grown⟩
    · by_cases h3 : d = 0
      · subst h3
        rw [show okM n 0 = false by simp [okM, *]]
        go_enter Try.func19, Try.ntmps19
        go_wp2_with (go_at_call 56; refine (c_within _ _ _ _).mono ?_; rintro e w' ⟨rfl, rfl⟩)
        refine bodyPost_ret (v := .tuple #[.agg #[.int .i64 0, .int .i64 0], .int .i64 2]) (by simp [results, Try.results19, go_sem, *]) rfl ?_
        exact ⟨rfl, by go_grown⟩
      · have h3' : (d == 0) = false := by simpa using h3
        have R : okM n d = true := by simp [okM, *]
        rw [show opN (okM n d) n d = rN n d by rw [R]; rfl, show opD (okM n d) n d = rD n d by rw [R]; rfl, show opC (okM n d) 2 n d = rC n d by rw [R]; rfl]
        obtain ⟨k1, k2⟩ := inB_iff.1 h1
        obtain ⟨k3, k4⟩ := inB_iff.1 h2
        go_enter Try.func19, Try.ntmps19
        go_wp2_with (first | (go_at_call 56; refine (c_within _ _ _ _).mono ?_; rintro e w' ⟨rfl, rfl⟩))
        refine (c_reduced n d _ h3 (by omega) (by omega) (by omega) (by omega)).mono ?_
        rintro e w1 ⟨rfl, n1⟩
        obtain ⟨⟨s1, s2⟩, ⟨s3, s4⟩, s5⟩ := Box2.new B0 n1
        have hN : New w w1 := n0.step n1
        clear n1 n0 B0 R
        generalize rN n d = RN at *
        generalize rD n d = RD at *
        generalize rC n d = RC at *
        go_wp2
        refine bodyPost_ret (v := .tuple #[.agg #[.int .i64 RN, .int .i64 RD], .int .i64 RC]) (by simp [results, Try.results19, go_sem, s1, s2]) rfl ?_
        exact ⟨rfl, by go_grown⟩

set_option maxHeartbeats 1000000 in
theorem c_specMakeFrac (n d : Int) (w : World) : Calls Try.prog 18 #[.int .i64 n, .int .i64 d] w (GivesFrac w (opN (okM n d) n d) (opD (okM n d) n d) (opC (okM n d) 2 n d)) := by
  have n0 : New w (w.alloc (.cells #[.int .i64 0, .int .i64 0] 25)) := (New.same w).box _
  have B0 : Box2 (w.alloc (.cells #[.int .i64 0, .int .i64 0] 25)) w.heap.size 0 0 := ⟨⟨by go_simp, by go_simp⟩, ⟨by go_simp, by go_simp⟩, by simp⟩
  cases h1 : inB n (-1000000000) 1000000000
  · rw [show okM n d = false by simp [okM, *]]
    go_enter Try.func18, Try.ntmps18
    go_wp2_with (go_at_call 58; refine (c_l00In _ _ _ _).mono ?_; rintro e w' ⟨rfl, rfl⟩)
    refine bodyPost_ret (v := .tuple #[.agg #[.int .i64 0, .int .i64 0], .int .i64 2]) (by simp [results, Try.results18, go_sem, *]) rfl ?_
    exact ⟨rfl, by go_grown⟩
  · cases h2 : inB d (-1000000000) 1000000000
    · rw [show okM n d = false by simp [okM, *]]
      go_enter Try.func18, Try.ntmps18
      go_wp2_with (go_at_call 58; refine (c_l00In _ _ _ _).mono ?_; rintro e w' ⟨rfl, rfl⟩)
      refine bodyPost_ret (v := .tuple #[.agg #[.int .i64 0, .int .i64 0], .int .i64 2]) (by simp [results, Try.results18, go_sem, *]) rfl ?_
      exact ⟨rfl, by go_grown⟩
    · by_cases h3 : d = 0
      · subst h3
        rw [show okM n 0 = false by simp [okM, *]]
        go_enter Try.func18, Try.ntmps18
        go_wp2_with (go_at_call 58; refine (c_l00In _ _ _ _).mono ?_; rintro e w' ⟨rfl, rfl⟩)
        refine bodyPost_ret (v := .tuple #[.agg #[.int .i64 0, .int .i64 0], .int .i64 2]) (by simp [results, Try.results18, go_sem, *]) rfl ?_
        exact ⟨rfl, by go_grown⟩
      · have h3' : (d == 0) = false := by simpa using h3
        have R : okM n d = true := by simp [okM, *]
        rw [show opN (okM n d) n d = rN n d by rw [R]; rfl, show opD (okM n d) n d = rD n d by rw [R]; rfl, show opC (okM n d) 2 n d = rC n d by rw [R]; rfl]
        obtain ⟨k1, k2⟩ := inB_iff.1 h1
        obtain ⟨k3, k4⟩ := inB_iff.1 h2
        go_enter Try.func18, Try.ntmps18
        go_wp2_with (first | (go_at_call 58; refine (c_l00In _ _ _ _).mono ?_; rintro e w' ⟨rfl, rfl⟩))
        refine (c_l01Make n d _ h3 (by omega) (by omega) (by omega) (by omega)).mono ?_
        rintro e w1 ⟨rfl, n1⟩
        obtain ⟨⟨s1, s2⟩, ⟨s3, s4⟩, s5⟩ := Box2.new B0 n1
        have hN : New w w1 := n0.step n1
        clear n1 n0 B0 R
        generalize rN n d = RN at *
        generalize rD n d = RD at *
        generalize rC n d = RC at *
        go_wp2
        refine bodyPost_ret (v := .tuple #[.agg #[.int .i64 RN, .int .i64 RD], .int .i64 RC]) (by simp [results, Try.results18, go_sem, s1, s2]) rfl ?_
        exact ⟨rfl, by go_grown⟩

set_option maxHeartbeats 2000000 in
theorem c_implAddFrac (an ad bn bd : Int) (w : World) : Calls Try.prog 26 #[.agg #[.int .i64 an, .int .i64 ad], .agg #[.int .i64 bn, .int .i64 bd]] w (GivesFrac w (opN (okAB an ad bn bd) (an * bd + bn * ad) (ad * bd)) (opD (okAB an ad bn bd) (an * bd + bn * ad) (ad * bd)) (opC (okAB an ad bn bd) 1 (an * bd + bn * ad) (ad * bd))) := by
  obtain ⟨n0, B0, B1, B2⟩ := box3 w an ad bn bd 0 0 25 25 25
  cases hA : vfB an ad
  · rw [show okAB an ad bn bd = false by simp [okAB, hA]]
    go_enter Try.func26, Try.ntmps26
    go_wp2_with fail
    generalize (((w.alloc (.cells #[.int .i64 an, .int .i64 ad] 25)).alloc (.cells #[.int .i64 bn, .int .i64 bd] 25)).alloc (.cells #[.int .i64 0, .int .i64 0] 25)) = W0 at *
    try clear R
    refine (c_implValidFrac _ _ _).mono ?_
    rintro e w1 ⟨rfl, n1⟩
    replace n0 := n0.step n1
    replace B0 := B0.new n1
    replace B1 := B1.new n1
    replace B2 := B2.new n1
    have ⟨⟨c0, d0⟩, ⟨f0, g0⟩, z0⟩ := B0
    have ⟨⟨c1, d1⟩, ⟨f1, g1⟩, z1⟩ := B1
    have ⟨⟨c2, d2⟩, ⟨f2, g2⟩, z2⟩ := B2
    clear n1 B0 B1 B2
    go_wp2
    refine bodyPost_ret (v := .tuple #[.agg #[.int .i64 0, .int .i64 0], .int .i64 1]) (by simp [results, Try.results26, go_sem, c2, d2, z2]) rfl ?_
    exact ⟨rfl, by go_grown⟩
  · cases hB : vfB bn bd
    · rw [show okAB an ad bn bd = false by simp [okAB, hB]]
      go_enter Try.func26, Try.ntmps26
      go_wp2_with fail
      generalize (((w.alloc (.cells #[.int .i64 an, .int .i64 ad] 25)).alloc (.cells #[.int .i64 bn, .int .i64 bd] 25)).alloc (.cells #[.int .i64 0, .int .i64 0] 25)) = W0 at *
      try clear R
      refine (c_implValidFrac _ _ _).mono ?_
      rintro e w1 ⟨rfl, n1⟩
      replace n0 := n0.step n1
      replace B0 := B0.new n1
      replace B1 := B1.new n1
      replace B2 := B2.new n1
      have ⟨⟨c1, d1⟩, ⟨f1, g1⟩, z1⟩ := B1
      go_wp2_with fail
      clear c1 d1 f1 g1 z1
      refine (c_implValidFrac _ _ _).mono ?_
      rintro e w2 ⟨rfl, n2⟩
      replace n0 := n0.step n2
      replace B0 := B0.new n2
      replace B1 := B1.new n2
      replace B2 := B2.new n2
      have ⟨⟨c0, d0⟩, ⟨f0, g0⟩, z0⟩ := B0
      have ⟨⟨c1, d1⟩, ⟨f1, g1⟩, z1⟩ := B1
      have ⟨⟨c2, d2⟩, ⟨f2, g2⟩, z2⟩ := B2
      clear n1 n2 B0 B1 B2
      go_wp2
      refine bodyPost_ret (v := .tuple #[.agg #[.int .i64 0, .int .i64 0], .int .i64 1]) (by simp [results, Try.results26, go_sem, c2, d2, z2]) rfl ?_
      exact ⟨rfl, by go_grown⟩
    · have R : okAB an ad bn bd = true := by simp [okAB, hA, hB]
      rw [show opN (okAB an ad bn bd) (an * bd + bn * ad) (ad * bd) = rN (an * bd + bn * ad) (ad * bd) by rw [R]; rfl, show opD (okAB an ad bn bd) (an * bd + bn * ad) (ad * bd) = rD (an * bd + bn * ad) (ad * bd) by rw [R]; rfl, show opC (okAB an ad bn bd) 1 (an * bd + bn * ad) (ad * bd) = rC (an * bd + bn * ad) (ad * bd) by rw [R]; rfl]
      obtain ⟨⟨⟨q1, q2⟩, q3, q4⟩, -⟩ := vfB_iff.1 hA
      obtain ⟨⟨⟨q5, q6⟩, q7, q8⟩, -⟩ := vfB_iff.1 hB
      have P1 := mul_bd (x := an) (y := bd) (A := 1000000000) (B := 1000000000) (by omega) (by omega) (by omega) (by omega) (by omega) (by omega)
      have P2 := mul_bd (x := bn) (y := ad) (A := 1000000000) (B := 1000000000) (by omega) (by omega) (by omega) (by omega) (by omega) (by omega)
      have P3 := mul_bd (x := ad) (y := bd) (A := 1000000000) (B := 1000000000) (by omega) (by omega) (by omega) (by omega) (by omega) (by omega)
      have hnz : ad * bd ≠ 0 := (Int.ne_of_gt (Int.mul_pos (by omega) (by omega)))
      go_enter Try.func26, Try.ntmps26
      go_wp2_with fail
      generalize (((w.alloc (.cells #[.int .i64 an, .int .i64 ad] 25)).alloc (.cells #[.int .i64 bn, .int .i64 bd] 25)).alloc (.cells #[.int .i64 0, .int .i64 0] 25)) = W0 at *
      try clear R
      refine (c_implValidFrac _ _ _).mono ?_
      rintro e w1 ⟨rfl, n1⟩
      replace n0 := n0.step n1
      replace B0 := B0.new n1
      replace B1 := B1.new n1
      replace B2 := B2.new n1
      have ⟨⟨c1, d1⟩, ⟨f1, g1⟩, z1⟩ := B1
      go_wp2_with fail
      clear c1 d1 f1 g1 z1
      refine (c_implValidFrac _ _ _).mono ?_
      rintro e w2 ⟨rfl, n2⟩
      replace n0 := n0.step n2
      replace B0 := B0.new n2
      replace B1 := B1.new n2
      replace B2 := B2.new n2
      have ⟨⟨c0, d0⟩, ⟨f0, g0⟩, z0⟩ := B0
      have ⟨⟨c1, d1⟩, ⟨f1, g1⟩, z1⟩ := B1
      have ⟨⟨c2, d2⟩, ⟨f2, g2⟩, z2⟩ := B2
      clear n1 n2 B0 B1
      go_wp2_with fail
      refine (c_reduced _ _ _ hnz (by omega) (by omega) (by omega) (by omega)).mono ?_
      rintro e w3 ⟨rfl, n3⟩
      replace n0 := n0.step n3
      clear c2 d2 f2 g2 z2
      obtain ⟨⟨c2, d2⟩, ⟨f2, g2⟩, z2⟩ := B2.new n3
      clear n3 B2
      generalize rN (an * bd + bn * ad) (ad * bd) = RN at *
      generalize rD (an * bd + bn * ad) (ad * bd) = RD at *
      generalize rC (an * bd + bn * ad) (ad * bd) = RC at *
      go_wp2
      refine bodyPost_ret (v := .tuple #[.agg #[.int .i64 RN, .int .i64 RD], .int .i64 RC]) (by simp [results, Try.results26, go_sem, c2, d2, z2]) rfl ?_
      exact ⟨rfl, by go_grown⟩

set_option maxHeartbeats 2000000 in
theorem c_specAddFrac (an ad bn bd : Int) (w : World) : Calls Try.prog 25 #[.agg #[.int .i64 an, .int .i64 ad], .agg #[.int .i64 bn, .int .i64 bd]] w (GivesFrac w (opN (okAB an ad bn bd) (an * bd + bn * ad) (ad * bd)) (opD (okAB an ad bn bd) (an * bd + bn * ad) (ad * bd)) (opC (okAB an ad bn bd) 1 (an * bd + bn * ad) (ad * bd))) := by
  obtain ⟨n0, B0, B1, B2⟩ := box3 w an ad bn bd 0 0 25 25 25
  cases hA : vfB an ad
  · rw [show okAB an ad bn bd = false by simp [okAB, hA]]
    go_enter Try.func25, Try.ntmps25
    go_wp2_with fail
    generalize (((w.alloc (.cells #[.int .i64 an, .int .i64 ad] 25)).alloc (.cells #[.int .i64 bn, .int .i64 bd] 25)).alloc (.cells #[.int .i64 0, .int .i64 0] 25)) = W0 at *
    try clear R
    refine (c_l01Frac _ _ _).mono ?_
    rintro e w1 ⟨rfl, n1⟩
    replace n0 := n0.step n1
    replace B0 := B0.new n1
    replace B1 := B1.new n1
    replace B2 := B2.new n1
    have ⟨⟨c0, d0⟩, ⟨f0, g0⟩, z0⟩ := B0
    have ⟨⟨c1, d1⟩, ⟨f1, g1⟩, z1⟩ := B1
    have ⟨⟨c2, d2⟩, ⟨f2, g2⟩, z2⟩ := B2
    clear n1 B0 B1 B2
    go_wp2
    refine bodyPost_ret (v := .tuple #[.agg #[.int .i64 0, .int .i64 0], .int .i64 1]) (by simp [results, Try.results25, go_sem, c2, d2, z2]) rfl ?_
    exact ⟨rfl, by go_grown⟩
  · cases hB : vfB bn bd
    · rw [show okAB an ad bn bd = false by simp [okAB, hB]]
      go_enter Try.func25, Try.ntmps25
      go_wp2_with fail
      generalize (((w.alloc (.cells #[.int .i64 an, .int .i64 ad] 25)).alloc (.cells #[.int .i64 bn, .int .i64 bd] 25)).alloc (.cells #[.int .i64 0, .int .i64 0] 25)) = W0 at *
      try clear R
      refine (c_l01Frac _ _ _).mono ?_
      rintro e w1 ⟨rfl, n1⟩
      replace n0 := n0.step n1
      replace B0 := B0.new n1
      replace B1 := B1.new n1
      replace B2 := B2.new n1
      have ⟨⟨c1, d1⟩, ⟨f1, g1⟩, z1⟩ := B1
      go_wp2_with fail
      clear c1 d1 f1 g1 z1
      refine (c_l01Frac _ _ _).mono ?_
      rintro e w2 ⟨rfl, n2⟩
      replace n0 := n0.step n2
      replace B0 := B0.new n2
      replace B1 := B1.new n2
      replace B2 := B2.new n2
      have ⟨⟨c0, d0⟩, ⟨f0, g0⟩, z0⟩ := B0
      have ⟨⟨c1, d1⟩, ⟨f1, g1⟩, z1⟩ := B1
      have ⟨⟨c2, d2⟩, ⟨f2, g2⟩, z2⟩ := B2
      clear n1 n2 B0 B1 B2
      go_wp2
      refine bodyPost_ret (v := .tuple #[.agg #[.int .i64 0, .int .i64 0], .int .i64 1]) (by simp [results, Try.results25, go_sem, c2, d2, z2]) rfl ?_
      exact ⟨rfl, by go_grown⟩
    · have R : okAB an ad bn bd = true := by simp [okAB, hA, hB]
      rw [show opN (okAB an ad bn bd) (an * bd + bn * ad) (ad * bd) = rN (an * bd + bn * ad) (ad * bd) by rw [R]; rfl, show opD (okAB an ad bn bd) (an * bd + bn * ad) (ad * bd) = rD (an * bd + bn * ad) (ad * bd) by rw [R]; rfl, show opC (okAB an ad bn bd) 1 (an * bd + bn * ad) (ad * bd) = rC (an * bd + bn * ad) (ad * bd) by rw [R]; rfl]
      obtain ⟨⟨⟨q1, q2⟩, q3, q4⟩, -⟩ := vfB_iff.1 hA
      obtain ⟨⟨⟨q5, q6⟩, q7, q8⟩, -⟩ := vfB_iff.1 hB
      go_enter Try.func25, Try.ntmps25
      go_wp2_with fail
      generalize (((w.alloc (.cells #[.int .i64 an, .int .i64 ad] 25)).alloc (.cells #[.int .i64 bn, .int .i64 bd] 25)).alloc (.cells #[.int .i64 0, .int .i64 0] 25)) = W0 at *
      try clear R
      refine (c_l01Frac _ _ _).mono ?_
      rintro e w1 ⟨rfl, n1⟩
      replace n0 := n0.step n1
      replace B0 := B0.new n1
      replace B1 := B1.new n1
      replace B2 := B2.new n1
      have ⟨⟨c1, d1⟩, ⟨f1, g1⟩, z1⟩ := B1
      go_wp2_with fail
      clear c1 d1 f1 g1 z1
      refine (c_l01Frac _ _ _).mono ?_
      rintro e w2 ⟨rfl, n2⟩
      replace n0 := n0.step n2
      replace B0 := B0.new n2
      replace B1 := B1.new n2
      replace B2 := B2.new n2
      have ⟨⟨c0, d0⟩, ⟨f0, g0⟩, z0⟩ := B0
      have ⟨⟨c1, d1⟩, ⟨f1, g1⟩, z1⟩ := B1
      have ⟨⟨c2, d2⟩, ⟨f2, g2⟩, z2⟩ := B2
      clear n1 n2 B0 B1
      go_wp2_with fail
      refine (c_l01Sum an ad bn bd _ q1 q2 q3 q4 q5 q6 q7 q8).mono ?_
      rintro e w3 ⟨rfl, n3⟩
      replace n0 := n0.step n3
      clear c2 d2 f2 g2 z2
      obtain ⟨⟨c2, d2⟩, ⟨f2, g2⟩, z2⟩ := B2.new n3
      clear n3 B2
      generalize rN (an * bd + bn * ad) (ad * bd) = RN at *
      generalize rD (an * bd + bn * ad) (ad * bd) = RD at *
      generalize rC (an * bd + bn * ad) (ad * bd) = RC at *
      go_wp2
      refine bodyPost_ret (v := .tuple #[.agg #[.int .i64 RN, .int .i64 RD], .int .i64 RC]) (by simp [results, Try.results25, go_sem, c2, d2, z2]) rfl ?_
      exact ⟨rfl, by go_grown⟩

set_option maxHeartbeats 2000000 in
theorem c_implMulFrac (an ad bn bd : Int) (w : World) : Calls Try.prog 22 #[.agg #[.int .i64 an, .int .i64 ad], .agg #[.int .i64 bn, .int .i64 bd]] w (GivesFrac w (opN (okAB an ad bn bd) (an * bn) (ad * bd)) (opD (okAB an ad bn bd) (an * bn) (ad * bd)) (opC (okAB an ad bn bd) 1 (an * bn) (ad * bd))) := by
  obtain ⟨n0, B0, B1, B2⟩ := box3 w an ad bn bd 0 0 25 25 25
  cases hA : vfB an ad
  · rw [show okAB an ad bn bd = false by simp [okAB, hA]]
    go_enter Try.func22, Try.ntmps22
    go_wp2_with fail
    generalize (((w.alloc (.cells #[.int .i64 an, .int .i64 ad] 25)).alloc (.cells #[.int .i64 bn, .int .i64 bd] 25)).alloc (.cells #[.int .i64 0, .int .i64 0] 25)) = W0 at *
    try clear R
    refine (c_implValidFrac _ _ _).mono ?_
    rintro e w1 ⟨rfl, n1⟩
    replace n0 := n0.step n1
    replace B0 := B0.new n1
    replace B1 := B1.new n1
    replace B2 := B2.new n1
    have ⟨⟨c0, d0⟩, ⟨f0, g0⟩, z0⟩ := B0
    have ⟨⟨c1, d1⟩, ⟨f1, g1⟩, z1⟩ := B1
    have ⟨⟨c2, d2⟩, ⟨f2, g2⟩, z2⟩ := B2
    clear n1 B0 B1 B2
    go_wp2
    refine bodyPost_ret (v := .tuple #[.agg #[.int .i64 0, .int .i64 0], .int .i64 1]) (by simp [results, Try.results22, go_sem, c2, d2, z2]) rfl ?_
    exact ⟨rfl, by go_grown⟩
  · cases hB : vfB bn bd
    · rw [show okAB an ad bn bd = false by simp [okAB, hB]]
      go_enter Try.func22, Try.ntmps22
      go_wp2_with fail
      generalize (((w.alloc (.cells #[.int .i64 an, .int .i64 ad] 25)).alloc (.cells #[.int .i64 bn, .int .i64 bd] 25)).alloc (.cells #[.int .i64 0, .int .i64 0] 25)) = W0 at *
      try clear R
      refine (c_implValidFrac _ _ _).mono ?_
      rintro e w1 ⟨rfl, n1⟩
      replace n0 := n0.step n1
      replace B0 := B0.new n1
      replace B1 := B1.new n1
      replace B2 := B2.new n1
      have ⟨⟨c1, d1⟩, ⟨f1, g1⟩, z1⟩ := B1
      go_wp2_with fail
      clear c1 d1 f1 g1 z1
      refine (c_implValidFrac _ _ _).mono ?_
      rintro e w2 ⟨rfl, n2⟩
      replace n0 := n0.step n2
      replace B0 := B0.new n2
      replace B1 := B1.new n2
      replace B2 := B2.new n2
      have ⟨⟨c0, d0⟩, ⟨f0, g0⟩, z0⟩ := B0
      have ⟨⟨c1, d1⟩, ⟨f1, g1⟩, z1⟩ := B1
      have ⟨⟨c2, d2⟩, ⟨f2, g2⟩, z2⟩ := B2
      clear n1 n2 B0 B1 B2
      go_wp2
      refine bodyPost_ret (v := .tuple #[.agg #[.int .i64 0, .int .i64 0], .int .i64 1]) (by simp [results, Try.results22, go_sem, c2, d2, z2]) rfl ?_
      exact ⟨rfl, by go_grown⟩
    · have R : okAB an ad bn bd = true := by simp [okAB, hA, hB]
      rw [show opN (okAB an ad bn bd) (an * bn) (ad * bd) = rN (an * bn) (ad * bd) by rw [R]; rfl, show opD (okAB an ad bn bd) (an * bn) (ad * bd) = rD (an * bn) (ad * bd) by rw [R]; rfl, show opC (okAB an ad bn bd) 1 (an * bn) (ad * bd) = rC (an * bn) (ad * bd) by rw [R]; rfl]
      obtain ⟨⟨⟨q1, q2⟩, q3, q4⟩, -⟩ := vfB_iff.1 hA
      obtain ⟨⟨⟨q5, q6⟩, q7, q8⟩, -⟩ := vfB_iff.1 hB
      have P1 := mul_bd (x := an) (y := bn) (A := 1000000000) (B := 1000000000) (by omega) (by omega) (by omega) (by omega) (by omega) (by omega)
      have P2 := mul_bd (x := ad) (y := bd) (A := 1000000000) (B := 1000000000) (by omega) (by omega) (by omega) (by omega) (by omega) (by omega)
      have hnz : ad * bd ≠ 0 := (Int.ne_of_gt (Int.mul_pos (by omega) (by omega)))
      go_enter Try.func22, Try.ntmps22
      go_wp2_with fail
      generalize (((w.alloc (.cells #[.int .i64 an, .int .i64 ad] 25)).alloc (.cells #[.int .i64 bn, .int .i64 bd] 25)).alloc (.cells #[.int .i64 0, .int .i64 0] 25)) = W0 at *
      try clear R
      refine (c_implValidFrac _ _ _).mono ?_
      rintro e w1 ⟨rfl, n1⟩
      replace n0 := n0.step n1
      replace B0 := B0.new n1
      replace B1 := B1.new n1
      replace B2 := B2.new n1
      have ⟨⟨c1, d1⟩, ⟨f1, g1⟩, z1⟩ := B1
      go_wp2_with fail
      clear c1 d1 f1 g1 z1
      refine (c_implValidFrac _ _ _).mono ?_
      rintro e w2 ⟨rfl, n2⟩
      replace n0 := n0.step n2
      replace B0 := B0.new n2
      replace B1 := B1.new n2
      replace B2 := B2.new n2
      have ⟨⟨c0, d0⟩, ⟨f0, g0⟩, z0⟩ := B0
      have ⟨⟨c1, d1⟩, ⟨f1, g1⟩, z1⟩ := B1
      have ⟨⟨c2, d2⟩, ⟨f2, g2⟩, z2⟩ := B2
      clear n1 n2 B0 B1
      go_wp2_with fail
      refine (c_reduced _ _ _ hnz (by omega) (by omega) (by omega) (by omega)).mono ?_
      rintro e w3 ⟨rfl, n3⟩
      replace n0 := n0.step n3
      clear c2 d2 f2 g2 z2
      obtain ⟨⟨c2, d2⟩, ⟨f2, g2⟩, z2⟩ := B2.new n3
      clear n3 B2
      generalize rN (an * bn) (ad * bd) = RN at *
      generalize rD (an * bn) (ad * bd) = RD at *
      generalize rC (an * bn) (ad * bd) = RC at *
      go_wp2
      refine bodyPost_ret (v := .tuple #[.agg #[.int .i64 RN, .int .i64 RD], .int .i64 RC]) (by simp [results, Try.results22, go_sem, c2, d2, z2]) rfl ?_
      exact ⟨rfl, by go_grown⟩

set_option maxHeartbeats 2000000 in
theorem c_specMulFrac (an ad bn bd : Int) (w : World) : Calls Try.prog 21 #[.agg #[.int .i64 an, .int .i64 ad], .agg #[.int .i64 bn, .int .i64 bd]] w (GivesFrac w (opN (okAB an ad bn bd) (an * bn) (ad * bd)) (opD (okAB an ad bn bd) (an * bn) (ad * bd)) (opC (okAB an ad bn bd) 1 (an * bn) (ad * bd))) := by
  obtain ⟨n0, B0, B1, B2⟩ := box3 w an ad bn bd 0 0 25 25 25
  cases hA : vfB an ad
  · rw [show okAB an ad bn bd = false by simp [okAB, hA]]
    go_enter Try.func21, Try.ntmps21
    go_wp2_with fail
    generalize (((w.alloc (.cells #[.int .i64 an, .int .i64 ad] 25)).alloc (.cells #[.int .i64 bn, .int .i64 bd] 25)).alloc (.cells #[.int .i64 0, .int .i64 0] 25)) = W0 at *
    try clear R
    refine (c_l01Frac _ _ _).mono ?_
    rintro e w1 ⟨rfl, n1⟩
    replace n0 := n0.step n1
    replace B0 := B0.new n1
    replace B1 := B1.new n1
    replace B2 := B2.new n1
    have ⟨⟨c0, d0⟩, ⟨f0, g0⟩, z0⟩ := B0
    have ⟨⟨c1, d1⟩, ⟨f1, g1⟩, z1⟩ := B1
    have ⟨⟨c2, d2⟩, ⟨f2, g2⟩, z2⟩ := B2
    clear n1 B0 B1 B2
    go_wp2
    refine bodyPost_ret (v := .tuple #[.agg #[.int .i64 0, .int .i64 0], .int .i64 1]) (by simp [results, Try.results21, go_sem, c2, d2, z2]) rfl ?_
    exact ⟨rfl, by go_grown⟩
  · cases hB : vfB bn bd
    · rw [show okAB an ad bn bd = false by simp [okAB, hB]]
      go_enter Try.func21, Try.ntmps21
      go_wp2_with fail
      generalize (((w.alloc (.cells #[.int .i64 an, .int .i64 ad] 25)).alloc (.cells #[.int .i64 bn, .int .i64 bd] 25)).alloc (.cells #[.int .i64 0, .int .i64 0] 25)) = W0 at *
      try clear R
      refine (c_l01Frac _ _ _).mono ?_
      rintro e w1 ⟨rfl, n1⟩
      replace n0 := n0.step n1
      replace B0 := B0.new n1
      replace B1 := B1.new n1
      replace B2 := B2.new n1
      have ⟨⟨c1, d1⟩, ⟨f1, g1⟩, z1⟩ := B1
      go_wp2_with fail
      clear c1 d1 f1 g1 z1
      refine (c_l01Frac _ _ _).mono ?_
      rintro e w2 ⟨rfl, n2⟩
      replace n0 := n0.step n2
      replace B0 := B0.new n2
      replace B1 := B1.new n2
      replace B2 := B2.new n2
      have ⟨⟨c0, d0⟩, ⟨f0, g0⟩, z0⟩ := B0
      have ⟨⟨c1, d1⟩, ⟨f1, g1⟩, z1⟩ := B1
      have ⟨⟨c2, d2⟩, ⟨f2, g2⟩, z2⟩ := B2
      clear n1 n2 B0 B1 B2
      go_wp2
      refine bodyPost_ret (v := .tuple #[.agg #[.int .i64 0, .int .i64 0], .int .i64 1]) (by simp [results, Try.results21, go_sem, c2, d2, z2]) rfl ?_
      exact ⟨rfl, by go_grown⟩
    · have R : okAB an ad bn bd = true := by simp [okAB, hA, hB]
      rw [show opN (okAB an ad bn bd) (an * bn) (ad * bd) = rN (an * bn) (ad * bd) by rw [R]; rfl, show opD (okAB an ad bn bd) (an * bn) (ad * bd) = rD (an * bn) (ad * bd) by rw [R]; rfl, show opC (okAB an ad bn bd) 1 (an * bn) (ad * bd) = rC (an * bn) (ad * bd) by rw [R]; rfl]
      obtain ⟨⟨⟨q1, q2⟩, q3, q4⟩, -⟩ := vfB_iff.1 hA
      obtain ⟨⟨⟨q5, q6⟩, q7, q8⟩, -⟩ := vfB_iff.1 hB
      go_enter Try.func21, Try.ntmps21
      go_wp2_with fail
      generalize (((w.alloc (.cells #[.int .i64 an, .int .i64 ad] 25)).alloc (.cells #[.int .i64 bn, .int .i64 bd] 25)).alloc (.cells #[.int .i64 0, .int .i64 0] 25)) = W0 at *
      try clear R
      refine (c_l01Frac _ _ _).mono ?_
      rintro e w1 ⟨rfl, n1⟩
      replace n0 := n0.step n1
      replace B0 := B0.new n1
      replace B1 := B1.new n1
      replace B2 := B2.new n1
      have ⟨⟨c1, d1⟩, ⟨f1, g1⟩, z1⟩ := B1
      go_wp2_with fail
      clear c1 d1 f1 g1 z1
      refine (c_l01Frac _ _ _).mono ?_
      rintro e w2 ⟨rfl, n2⟩
      replace n0 := n0.step n2
      replace B0 := B0.new n2
      replace B1 := B1.new n2
      replace B2 := B2.new n2
      have ⟨⟨c0, d0⟩, ⟨f0, g0⟩, z0⟩ := B0
      have ⟨⟨c1, d1⟩, ⟨f1, g1⟩, z1⟩ := B1
      have ⟨⟨c2, d2⟩, ⟨f2, g2⟩, z2⟩ := B2
      clear n1 n2 B0 B1
      go_wp2_with fail
      refine (c_l01Mul an ad bn bd _ q1 q2 q3 q4 q5 q6 q7 q8).mono ?_
      rintro e w3 ⟨rfl, n3⟩
      replace n0 := n0.step n3
      clear c2 d2 f2 g2 z2
      obtain ⟨⟨c2, d2⟩, ⟨f2, g2⟩, z2⟩ := B2.new n3
      clear n3 B2
      generalize rN (an * bn) (ad * bd) = RN at *
      generalize rD (an * bn) (ad * bd) = RD at *
      generalize rC (an * bn) (ad * bd) = RC at *
      go_wp2
      refine bodyPost_ret (v := .tuple #[.agg #[.int .i64 RN, .int .i64 RD], .int .i64 RC]) (by simp [results, Try.results21, go_sem, c2, d2, z2]) rfl ?_
      exact ⟨rfl, by go_grown⟩

set_option maxHeartbeats 2000000 in
theorem c_implDivFrac (an ad bn bd : Int) (w : World) : Calls Try.prog 28 #[.agg #[.int .i64 an, .int .i64 ad], .agg #[.int .i64 bn, .int .i64 bd]] w (GivesFrac w (opN (okAB an ad bn bd && !(bn == 0)) (an * bd) (ad * bn)) (opD (okAB an ad bn bd && !(bn == 0)) (an * bd) (ad * bn)) (opC (okAB an ad bn bd && !(bn == 0)) (if okAB an ad bn bd then 2 else 1) (an * bd) (ad * bn))) := by
  obtain ⟨n0, B0, B1, B2⟩ := box3 w an ad bn bd 0 0 25 25 25
  cases hA : vfB an ad
  · rw [show okAB an ad bn bd = false by simp [okAB, hA]]
    go_enter Try.func28, Try.ntmps28
    go_wp2_with fail
    generalize (((w.alloc (.cells #[.int .i64 an, .int .i64 ad] 25)).alloc (.cells #[.int .i64 bn, .int .i64 bd] 25)).alloc (.cells #[.int .i64 0, .int .i64 0] 25)) = W0 at *
    try clear R
    refine (c_implValidFrac _ _ _).mono ?_
    rintro e w1 ⟨rfl, n1⟩
    replace n0 := n0.step n1
    replace B0 := B0.new n1
    replace B1 := B1.new n1
    replace B2 := B2.new n1
    have ⟨⟨c0, d0⟩, ⟨f0, g0⟩, z0⟩ := B0
    have ⟨⟨c1, d1⟩, ⟨f1, g1⟩, z1⟩ := B1
    have ⟨⟨c2, d2⟩, ⟨f2, g2⟩, z2⟩ := B2
    clear n1 B0 B1 B2
    go_wp2
    refine bodyPost_ret (v := .tuple #[.agg #[.int .i64 0, .int .i64 0], .int .i64 1]) (by simp [results, Try.results28, go_sem, c2, d2, z2]) rfl ?_
    exact ⟨rfl, by go_grown⟩
  · cases hB : vfB bn bd
    · rw [show okAB an ad bn bd = false by simp [okAB, hB]]
      go_enter Try.func28, Try.ntmps28
      go_wp2_with fail
      generalize (((w.alloc (.cells #[.int .i64 an, .int .i64 ad] 25)).alloc (.cells #[.int .i64 bn, .int .i64 bd] 25)).alloc (.cells #[.int .i64 0, .int .i64 0] 25)) = W0 at *
      try clear R
      refine (c_implValidFrac _ _ _).mono ?_
      rintro e w1 ⟨rfl, n1⟩
      replace n0 := n0.step n1
      replace B0 := B0.new n1
      replace B1 := B1.new n1
      replace B2 := B2.new n1
      have ⟨⟨c1, d1⟩, ⟨f1, g1⟩, z1⟩ := B1
      go_wp2_with fail
      clear c1 d1 f1 g1 z1
      refine (c_implValidFrac _ _ _).mono ?_
      rintro e w2 ⟨rfl, n2⟩
      replace n0 := n0.step n2
      replace B0 := B0.new n2
      replace B1 := B1.new n2
      replace B2 := B2.new n2
      have ⟨⟨c0, d0⟩, ⟨f0, g0⟩, z0⟩ := B0
      have ⟨⟨c1, d1⟩, ⟨f1, g1⟩, z1⟩ := B1
      have ⟨⟨c2, d2⟩, ⟨f2, g2⟩, z2⟩ := B2
      clear n1 n2 B0 B1 B2
      go_wp2
      refine bodyPost_ret (v := .tuple #[.agg #[.int .i64 0, .int .i64 0], .int .i64 1]) (by simp [results, Try.results28, go_sem, c2, d2, z2]) rfl ?_
      exact ⟨rfl, by go_grown⟩
    · by_cases hz : bn = 0
      · subst hz
        rw [show okAB an ad 0 bd = true by simp [okAB, hA, hB]]
        go_enter Try.func28, Try.ntmps28
        go_wp2_with fail
        generalize (((w.alloc (.cells #[.int .i64 an, .int .i64 ad] 25)).alloc (.cells #[.int .i64 0, .int .i64 bd] 25)).alloc (.cells #[.int .i64 0, .int .i64 0] 25)) = W0 at *
        try clear R
        refine (c_implValidFrac _ _ _).mono ?_
        rintro e w1 ⟨rfl, n1⟩
        replace n0 := n0.step n1
        replace B0 := B0.new n1
        replace B1 := B1.new n1
        replace B2 := B2.new n1
        have ⟨⟨c1, d1⟩, ⟨f1, g1⟩, z1⟩ := B1
        go_wp2_with fail
        clear c1 d1 f1 g1 z1
        refine (c_implValidFrac _ _ _).mono ?_
        rintro e w2 ⟨rfl, n2⟩
        replace n0 := n0.step n2
        replace B0 := B0.new n2
        replace B1 := B1.new n2
        replace B2 := B2.new n2
        have ⟨⟨c0, d0⟩, ⟨f0, g0⟩, z0⟩ := B0
        have ⟨⟨c1, d1⟩, ⟨f1, g1⟩, z1⟩ := B1
        have ⟨⟨c2, d2⟩, ⟨f2, g2⟩, z2⟩ := B2
        clear n1 n2 B0 B1 B2
        go_wp2
        refine bodyPost_ret (v := .tuple #[.agg #[.int .i64 0, .int .i64 0], .int .i64 2]) (by simp [results, Try.results28, go_sem, c2, d2, z2]) rfl ?_
        exact ⟨rfl, by go_grown⟩
      · have hz' : (bn == 0) = false := by simpa using hz
        have R : (okAB an ad bn bd && !(bn == 0)) = true := by simp [okAB, hA, hB, hz]
        rw [show opN (okAB an ad bn bd && !(bn == 0)) (an * bd) (ad * bn) = rN (an * bd) (ad * bn) by rw [R]; rfl, show opD (okAB an ad bn bd && !(bn == 0)) (an * bd) (ad * bn) = rD (an * bd) (ad * bn) by rw [R]; rfl, show opC (okAB an ad bn bd && !(bn == 0)) (if okAB an ad bn bd then 2 else 1) (an * bd) (ad * bn) = rC (an * bd) (ad * bn) by rw [R]; rfl]
        obtain ⟨⟨⟨q1, q2⟩, q3, q4⟩, -⟩ := vfB_iff.1 hA
        obtain ⟨⟨⟨q5, q6⟩, q7, q8⟩, -⟩ := vfB_iff.1 hB
        have P1 := mul_bd (x := an) (y := bd) (A := 1000000000) (B := 1000000000) (by omega) (by omega) (by omega) (by omega) (by omega) (by omega)
        have P2 := mul_bd (x := ad) (y := bn) (A := 1000000000) (B := 1000000000) (by omega) (by omega) (by omega) (by omega) (by omega) (by omega)
        have hnz : ad * bn ≠ 0 := (Int.mul_ne_zero (by omega) hz)
        go_enter Try.func28, Try.ntmps28
        go_wp2_with fail
        generalize (((w.alloc (.cells #[.int .i64 an, .int .i64 ad] 25)).alloc (.cells #[.int .i64 bn, .int .i64 bd] 25)).alloc (.cells #[.int .i64 0, .int .i64 0] 25)) = W0 at *
        try clear R
        refine (c_implValidFrac _ _ _).mono ?_
        rintro e w1 ⟨rfl, n1⟩
        replace n0 := n0.step n1
        replace B0 := B0.new n1
        replace B1 := B1.new n1
        replace B2 := B2.new n1
        have ⟨⟨c1, d1⟩, ⟨f1, g1⟩, z1⟩ := B1
        go_wp2_with fail
        clear c1 d1 f1 g1 z1
        refine (c_implValidFrac _ _ _).mono ?_
        rintro e w2 ⟨rfl, n2⟩
        replace n0 := n0.step n2
        replace B0 := B0.new n2
        replace B1 := B1.new n2
        replace B2 := B2.new n2
        have ⟨⟨c0, d0⟩, ⟨f0, g0⟩, z0⟩ := B0
        have ⟨⟨c1, d1⟩, ⟨f1, g1⟩, z1⟩ := B1
        have ⟨⟨c2, d2⟩, ⟨f2, g2⟩, z2⟩ := B2
        clear n1 n2 B0 B1
        go_wp2_with fail
        refine (c_reduced _ _ _ hnz (by omega) (by omega) (by omega) (by omega)).mono ?_
        rintro e w3 ⟨rfl, n3⟩
        replace n0 := n0.step n3
        clear c2 d2 f2 g2 z2
        obtain ⟨⟨c2, d2⟩, ⟨f2, g2⟩, z2⟩ := B2.new n3
        clear n3 B2
        generalize rN (an * bd) (ad * bn) = RN at *
        generalize rD (an * bd) (ad * bn) = RD at *
        generalize rC (an * bd) (ad * bn) = RC at *
        go_wp2
        refine bodyPost_ret (v := .tuple #[.agg #[.int .i64 RN, .int .i64 RD], .int .i64 RC]) (by simp [results, Try.results28, go_sem, c2, d2, z2]) rfl ?_
        exact ⟨rfl, by go_grown⟩

set_option maxHeartbeats 2000000 in
theorem c_specDivFrac (an ad bn bd : Int) (w : World) : Calls Try.prog 27 #[.agg #[.int .i64 an, .int .i64 ad], .agg #[.int .i64 bn, .int .i64 bd]] w (GivesFrac w (opN (okAB an ad bn bd && !(bn == 0)) (an * bd) (ad * bn)) (opD (okAB an ad bn bd && !(bn == 0)) (an * bd) (ad * bn)) (opC (okAB an ad bn bd && !(bn == 0)) (if okAB an ad bn bd then 2 else 1) (an * bd) (ad * bn))) := by
  obtain ⟨n0, B0, B1, B2⟩ := box3 w an ad bn bd 0 0 25 25 25
  cases hA : vfB an ad
  · rw [show okAB an ad bn bd = false by simp [okAB, hA]]
    go_enter Try.func27, Try.ntmps27
    go_wp2_with fail
    generalize (((w.alloc (.cells #[.int .i64 an, .int .i64 ad] 25)).alloc (.cells #[.int .i64 bn, .int .i64 bd] 25)).alloc (.cells #[.int .i64 0, .int .i64 0] 25)) = W0 at *
    try clear R
    refine (c_l01Frac _ _ _).mono ?_
    rintro e w1 ⟨rfl, n1⟩
    replace n0 := n0.step n1
    replace B0 := B0.new n1
    replace B1 := B1.new n1
    replace B2 := B2.new n1
    have ⟨⟨c0, d0⟩, ⟨f0, g0⟩, z0⟩ := B0
    have ⟨⟨c1, d1⟩, ⟨f1, g1⟩, z1⟩ := B1
    have ⟨⟨c2, d2⟩, ⟨f2, g2⟩, z2⟩ := B2
    clear n1 B0 B1 B2
    go_wp2
    refine bodyPost_ret (v := .tuple #[.agg #[.int .i64 0, .int .i64 0], .int .i64 1]) (by simp [results, Try.results27, go_sem, c2, d2, z2]) rfl ?_
    exact ⟨rfl, by go_grown⟩
  · cases hB : vfB bn bd
    · rw [show okAB an ad bn bd = false by simp [okAB, hB]]
      go_enter Try.func27, Try.ntmps27
      go_wp2_with fail
      generalize (((w.alloc (.cells #[.int .i64 an, .int .i64 ad] 25)).alloc (.cells #[.int .i64 bn, .int .i64 bd] 25)).alloc (.cells #[.int .i64 0, .int .i64 0] 25)) = W0 at *
      try clear R
      refine (c_l01Frac _ _ _).mono ?_
      rintro e w1 ⟨rfl, n1⟩
      replace n0 := n0.step n1
      replace B0 := B0.new n1
      replace B1 := B1.new n1
      replace B2 := B2.new n1
      have ⟨⟨c1, d1⟩, ⟨f1, g1⟩, z1⟩ := B1
      go_wp2_with fail
      clear c1 d1 f1 g1 z1
      refine (c_l01Frac _ _ _).mono ?_
      rintro e w2 ⟨rfl, n2⟩
      replace n0 := n0.step n2
      replace B0 := B0.new n2
      replace B1 := B1.new n2
      replace B2 := B2.new n2
      have ⟨⟨c0, d0⟩, ⟨f0, g0⟩, z0⟩ := B0
      have ⟨⟨c1, d1⟩, ⟨f1, g1⟩, z1⟩ := B1
      have ⟨⟨c2, d2⟩, ⟨f2, g2⟩, z2⟩ := B2
      clear n1 n2 B0 B1 B2
      go_wp2
      refine bodyPost_ret (v := .tuple #[.agg #[.int .i64 0, .int .i64 0], .int .i64 1]) (by simp [results, Try.results27, go_sem, c2, d2, z2]) rfl ?_
      exact ⟨rfl, by go_grown⟩
    · by_cases hz : bn = 0
      · subst hz
        rw [show okAB an ad 0 bd = true by simp [okAB, hA, hB]]
        go_enter Try.func27, Try.ntmps27
        go_wp2_with fail
        generalize (((w.alloc (.cells #[.int .i64 an, .int .i64 ad] 25)).alloc (.cells #[.int .i64 0, .int .i64 bd] 25)).alloc (.cells #[.int .i64 0, .int .i64 0] 25)) = W0 at *
        try clear R
        refine (c_l01Frac _ _ _).mono ?_
        rintro e w1 ⟨rfl, n1⟩
        replace n0 := n0.step n1
        replace B0 := B0.new n1
        replace B1 := B1.new n1
        replace B2 := B2.new n1
        have ⟨⟨c1, d1⟩, ⟨f1, g1⟩, z1⟩ := B1
        go_wp2_with fail
        clear c1 d1 f1 g1 z1
        refine (c_l01Frac _ _ _).mono ?_
        rintro e w2 ⟨rfl, n2⟩
        replace n0 := n0.step n2
        replace B0 := B0.new n2
        replace B1 := B1.new n2
        replace B2 := B2.new n2
        have ⟨⟨c0, d0⟩, ⟨f0, g0⟩, z0⟩ := B0
        have ⟨⟨c1, d1⟩, ⟨f1, g1⟩, z1⟩ := B1
        have ⟨⟨c2, d2⟩, ⟨f2, g2⟩, z2⟩ := B2
        clear n1 n2 B0 B1 B2
        go_wp2
        refine bodyPost_ret (v := .tuple #[.agg #[.int .i64 0, .int .i64 0], .int .i64 2]) (by simp [results, Try.results27, go_sem, c2, d2, z2]) rfl ?_
        exact ⟨rfl, by go_grown⟩
      · have hz' : (bn == 0) = false := by simpa using hz
        have R : (okAB an ad bn bd && !(bn == 0)) = true := by simp [okAB, hA, hB, hz]
        rw [show opN (okAB an ad bn bd && !(bn == 0)) (an * bd) (ad * bn) = rN (an * bd) (ad * bn) by rw [R]; rfl, show opD (okAB an ad bn bd && !(bn == 0)) (an * bd) (ad * bn) = rD (an * bd) (ad * bn) by rw [R]; rfl, show opC (okAB an ad bn bd && !(bn == 0)) (if okAB an ad bn bd then 2 else 1) (an * bd) (ad * bn) = rC (an * bd) (ad * bn) by rw [R]; rfl]
        obtain ⟨⟨⟨q1, q2⟩, q3, q4⟩, -⟩ := vfB_iff.1 hA
        obtain ⟨⟨⟨q5, q6⟩, q7, q8⟩, -⟩ := vfB_iff.1 hB
        go_enter Try.func27, Try.ntmps27
        go_wp2_with fail
        generalize (((w.alloc (.cells #[.int .i64 an, .int .i64 ad] 25)).alloc (.cells #[.int .i64 bn, .int .i64 bd] 25)).alloc (.cells #[.int .i64 0, .int .i64 0] 25)) = W0 at *
        try clear R
        refine (c_l01Frac _ _ _).mono ?_
        rintro e w1 ⟨rfl, n1⟩
        replace n0 := n0.step n1
        replace B0 := B0.new n1
        replace B1 := B1.new n1
        replace B2 := B2.new n1
        have ⟨⟨c1, d1⟩, ⟨f1, g1⟩, z1⟩ := B1
        go_wp2_with fail
        clear c1 d1 f1 g1 z1
        refine (c_l01Frac _ _ _).mono ?_
        rintro e w2 ⟨rfl, n2⟩
        replace n0 := n0.step n2
        replace B0 := B0.new n2
        replace B1 := B1.new n2
        replace B2 := B2.new n2
        have ⟨⟨c0, d0⟩, ⟨f0, g0⟩, z0⟩ := B0
        have ⟨⟨c1, d1⟩, ⟨f1, g1⟩, z1⟩ := B1
        have ⟨⟨c2, d2⟩, ⟨f2, g2⟩, z2⟩ := B2
        clear n1 n2 B0 B1
        go_wp2_with fail
        refine (c_l01Div an ad bn bd _ q1 q2 q3 q4 q5 q6 q7 q8 hz).mono ?_
        rintro e w3 ⟨rfl, n3⟩
        replace n0 := n0.step n3
        clear c2 d2 f2 g2 z2
        obtain ⟨⟨c2, d2⟩, ⟨f2, g2⟩, z2⟩ := B2.new n3
        clear n3 B2
        generalize rN (an * bd) (ad * bn) = RN at *
        generalize rD (an * bd) (ad * bn) = RD at *
        generalize rC (an * bd) (ad * bn) = RC at *
        go_wp2
        refine bodyPost_ret (v := .tuple #[.agg #[.int .i64 RN, .int .i64 RD], .int .i64 RC]) (by simp [results, Try.results27, go_sem, c2, d2, z2]) rfl ?_
        exact ⟨rfl, by go_grown⟩

set_option maxHeartbeats 400000 in
theorem c_isNaN (x : Int) (w : World) : Calls Try.prog 86 #[.int .i64 x] w fun e w' => e = .returned (.bool false) ∧ w = w' := by
  go_enter Try.func86, Try.ntmps86
  go_wp2
  go_ret
  exact ⟨ret_bool (by simp), rfl⟩

/-- the sign of a comparison -/
def cmpI (x y : Int) : Int := if x < y then -1 else if y < x then 1 else 0
theorem cmpI_lt {x y : Int} (h : x < y) : cmpI x y = -1 := by simp [cmpI, h]
theorem cmpI_gt {x y : Int} (h : y < x) : cmpI x y = 1 := by unfold cmpI; rw [if_neg (by omega), if_pos h]
theorem cmpI_eq {x y : Int} (h : x = y) : cmpI x y = 0 := by unfold cmpI; rw [if_neg (by omega), if_neg (by omega)]

set_option maxHeartbeats 400000 in
theorem c_cmp (x y : Int) (w : World) : Calls Try.prog 63 #[.int .i64 x, .int .i64 y] w fun e w' => e = .returned (.int .i64 (cmpI x y)) ∧ w = w' := by
  rcases (show x < y ∨ y < x ∨ x = y from by omega) with h | h | h
  · go_enter Try.func63, Try.ntmps63
    go_wp2_with (go_at_call 86; refine (c_isNaN _ _).mono ?_; rintro e w' ⟨rfl, rfl⟩)
    go_ret
    exact ⟨ret_int (cmpI_lt h).symm, rfl⟩
  · have h' : decide (x < y) = false := by simp; omega
    go_enter Try.func63, Try.ntmps63
    go_wp2_with (go_at_call 86; refine (c_isNaN _ _).mono ?_; rintro e w' ⟨rfl, rfl⟩)
    go_ret
    exact ⟨ret_int (cmpI_gt h).symm, rfl⟩
  · subst h
    have h' : decide (x < x) = false := by simp
    go_enter Try.func63, Try.ntmps63
    go_wp2_with (go_at_call 86; refine (c_isNaN _ _).mono ?_; rintro e w' ⟨rfl, rfl⟩)
    go_ret
    exact ⟨ret_int (cmpI_eq rfl).symm, rfl⟩

/-- the result of a comparison of two fractions -/
def cpR (an ad bn bd : Int) : Int := if okAB an ad bn bd then cmpI (an * bd) (bn * ad) else 0
def cpC (an ad bn bd : Int) : Int := if okAB an ad bn bd then 0 else 1

theorem box2 (w : World) (x0 y0 x1 y1 : Int) (t0 t1 : TypeId) :
    New w ((w.alloc (.cells #[.int .i64 x0, .int .i64 y0] t0)).alloc (.cells #[.int .i64 x1, .int .i64 y1] t1)) ∧
    Box2 ((w.alloc (.cells #[.int .i64 x0, .int .i64 y0] t0)).alloc (.cells #[.int .i64 x1, .int .i64 y1] t1)) w.heap.size x0 y0 ∧
    Box2 ((w.alloc (.cells #[.int .i64 x0, .int .i64 y0] t0)).alloc (.cells #[.int .i64 x1, .int .i64 y1] t1)) (w.heap.size + 1) x1 y1 := by
  refine ⟨((New.same w).box _).box _, ⟨⟨by go_simp, by go_simp⟩, ⟨by go_simp, by go_simp⟩, by simp; omega⟩, ⟨⟨by go_simp, by go_simp⟩, ⟨by go_simp, by go_simp⟩, by simp⟩⟩

set_option maxHeartbeats 1000000 in
theorem c_l01Compare (an ad bn bd : Int) (w : World) (q1 : -1000000000 ≤ an) (q2 : an ≤ 1000000000) (q3 : 1 ≤ ad) (q4 : ad ≤ 1000000000) (q5 : -1000000000 ≤ bn) (q6 : bn ≤ 1000000000) (q7 : 1 ≤ bd) (q8 : bd ≤ 1000000000) :
    Calls Try.prog 62 #[.agg #[.int .i64 an, .int .i64 ad], .agg #[.int .i64 bn, .int .i64 bd]] w fun e w' => e = .returned (.int .i64 (cmpI (an * bd) (bn * ad))) ∧ New w w' := by
  have P1 := mul_bd (x := an) (y := bd) (A := 1000000000) (B := 1000000000) (by omega) (by omega) (by omega) (by omega) (by omega) (by omega)
  have P2 := mul_bd (x := bn) (y := ad) (A := 1000000000) (B := 1000000000) (by omega) (by omega) (by omega) (by omega) (by omega) (by omega)
  rcases (show an * bd < bn * ad ∨ bn * ad < an * bd ∨ an * bd = bn * ad from by omega) with h | h | h
  · rw [cmpI_lt h]
    go_enter Try.func62, Try.ntmps62
    go_wp2
    go_ret
    exact ⟨rfl, by go_grown⟩
  · rw [cmpI_gt h]
    have h' : decide (an * bd < bn * ad) = false := by simp; omega
    go_enter Try.func62, Try.ntmps62
    go_wp2
    go_ret
    exact ⟨rfl, by go_grown⟩
  · rw [cmpI_eq h]
    have h' : decide (an * bd < bn * ad) = false := by simp; omega
    have h'' : decide (bn * ad < an * bd) = false := by simp; omega
    go_enter Try.func62, Try.ntmps62
    go_wp2
    go_ret
    exact ⟨rfl, by go_grown⟩

set_option maxHeartbeats 2000000 in
theorem c_implCompareFrac (an ad bn bd : Int) (w : World) : Calls Try.prog 24 #[.agg #[.int .i64 an, .int .i64 ad], .agg #[.int .i64 bn, .int .i64 bd]] w fun e w' => e = .returned (.tuple #[.int .i64 (cpR an ad bn bd), .int .i64 (cpC an ad bn bd)]) ∧ New w w' := by
  obtain ⟨n0, B0, B1⟩ := box2 w an ad bn bd 25 25
  cases hA : vfB an ad
  · rw [show cpR an ad bn bd = 0 by simp [cpR, okAB, *], show cpC an ad bn bd = 1 by simp [cpC, okAB, *]]
    go_enter Try.func24, Try.ntmps24
    go_wp2_with fail
    generalize ((w.alloc (.cells #[.int .i64 an, .int .i64 ad] 25)).alloc (.cells #[.int .i64 bn, .int .i64 bd] 25)) = W0 at *
    refine (c_implValidFrac _ _ _).mono ?_
    rintro e w1 ⟨rfl, n1⟩
    replace n0 := n0.step n1
    replace B0 := B0.new n1
    replace B1 := B1.new n1
    have ⟨⟨c0, d0⟩, ⟨f0, g0⟩, z0⟩ := B0
    have ⟨⟨c1, d1⟩, ⟨f1, g1⟩, z1⟩ := B1
    clear n1 B0 B1
    go_wp2
    refine bodyPost_ret (v := .tuple #[.int .i64 0, .int .i64 1]) (by simp [results, Try.results24, go_sem]) rfl ?_
    exact ⟨rfl, n0⟩
  · cases hB : vfB bn bd
    · rw [show cpR an ad bn bd = 0 by simp [cpR, okAB, *], show cpC an ad bn bd = 1 by simp [cpC, okAB, *]]
      go_enter Try.func24, Try.ntmps24
      go_wp2_with fail
      generalize ((w.alloc (.cells #[.int .i64 an, .int .i64 ad] 25)).alloc (.cells #[.int .i64 bn, .int .i64 bd] 25)) = W0 at *
      refine (c_implValidFrac _ _ _).mono ?_
      rintro e w1 ⟨rfl, n1⟩
      replace n0 := n0.step n1
      replace B0 := B0.new n1
      replace B1 := B1.new n1
      have ⟨⟨c1, d1⟩, ⟨f1, g1⟩, z1⟩ := B1
      go_wp2_with fail
      clear c1 d1 f1 g1 z1 n1
      refine (c_implValidFrac _ _ _).mono ?_
      rintro e w2 ⟨rfl, n2⟩
      replace n0 := n0.step n2
      replace B0 := B0.new n2
      replace B1 := B1.new n2
      have ⟨⟨c0, d0⟩, ⟨f0, g0⟩, z0⟩ := B0
      have ⟨⟨c1, d1⟩, ⟨f1, g1⟩, z1⟩ := B1
      clear n2 B0 B1
      go_wp2
      refine bodyPost_ret (v := .tuple #[.int .i64 0, .int .i64 1]) (by simp [results, Try.results24, go_sem]) rfl ?_
      exact ⟨rfl, n0⟩
    · rw [show cpR an ad bn bd = cmpI (an * bd) (bn * ad) by simp [cpR, okAB, *], show cpC an ad bn bd = 0 by simp [cpC, okAB, *]]
      obtain ⟨⟨⟨q1, q2⟩, q3, q4⟩, -⟩ := vfB_iff.1 hA
      obtain ⟨⟨⟨q5, q6⟩, q7, q8⟩, -⟩ := vfB_iff.1 hB
      have P1 := mul_bd (x := an) (y := bd) (A := 1000000000) (B := 1000000000) (by omega) (by omega) (by omega) (by omega) (by omega) (by omega)
      have P2 := mul_bd (x := bn) (y := ad) (A := 1000000000) (B := 1000000000) (by omega) (by omega) (by omega) (by omega) (by omega) (by omega)
      go_enter Try.func24, Try.ntmps24
      go_wp2_with fail
      generalize ((w.alloc (.cells #[.int .i64 an, .int .i64 ad] 25)).alloc (.cells #[.int .i64 bn, .int .i64 bd] 25)) = W0 at *
      refine (c_implValidFrac _ _ _).mono ?_
      rintro e w1 ⟨rfl, n1⟩
      replace n0 := n0.step n1
      replace B0 := B0.new n1
      replace B1 := B1.new n1
      have ⟨⟨c1, d1⟩, ⟨f1, g1⟩, z1⟩ := B1
      go_wp2_with fail
      clear c1 d1 f1 g1 z1 n1
      refine (c_implValidFrac _ _ _).mono ?_
      rintro e w2 ⟨rfl, n2⟩
      replace n0 := n0.step n2
      replace B0 := B0.new n2
      replace B1 := B1.new n2
      have ⟨⟨c0, d0⟩, ⟨f0, g0⟩, z0⟩ := B0
      have ⟨⟨c1, d1⟩, ⟨f1, g1⟩, z1⟩ := B1
      clear n2 B0 B1
      go_wp2_with fail
      refine (c_cmp _ _ _).mono ?_
      rintro e w3 ⟨rfl, rfl⟩
      go_wp2
      refine bodyPost_ret (v := .tuple #[.int .i64 (cmpI (an * bd) (bn * ad)), .int .i64 0]) (by simp [results, Try.results24, go_sem]) rfl ?_
      exact ⟨rfl, n0⟩

set_option maxHeartbeats 2000000 in
theorem c_specCompareFrac (an ad bn bd : Int) (w : World) : Calls Try.prog 23 #[.agg #[.int .i64 an, .int .i64 ad], .agg #[.int .i64 bn, .int .i64 bd]] w fun e w' => e = .returned (.tuple #[.int .i64 (cpR an ad bn bd), .int .i64 (cpC an ad bn bd)]) ∧ New w w' := by
  obtain ⟨n0, B0, B1⟩ := box2 w an ad bn bd 25 25
  cases hA : vfB an ad
  · rw [show cpR an ad bn bd = 0 by simp [cpR, okAB, *], show cpC an ad bn bd = 1 by simp [cpC, okAB, *]]
    go_enter Try.func23, Try.ntmps23
    go_wp2_with fail
    generalize ((w.alloc (.cells #[.int .i64 an, .int .i64 ad] 25)).alloc (.cells #[.int .i64 bn, .int .i64 bd] 25)) = W0 at *
    refine (c_l01Frac _ _ _).mono ?_
    rintro e w1 ⟨rfl, n1⟩
    replace n0 := n0.step n1
    replace B0 := B0.new n1
    replace B1 := B1.new n1
    have ⟨⟨c0, d0⟩, ⟨f0, g0⟩, z0⟩ := B0
    have ⟨⟨c1, d1⟩, ⟨f1, g1⟩, z1⟩ := B1
    clear n1 B0 B1
    go_wp2
    refine bodyPost_ret (v := .tuple #[.int .i64 0, .int .i64 1]) (by simp [results, Try.results23, go_sem]) rfl ?_
    exact ⟨rfl, n0⟩
  · cases hB : vfB bn bd
    · rw [show cpR an ad bn bd = 0 by simp [cpR, okAB, *], show cpC an ad bn bd = 1 by simp [cpC, okAB, *]]
      go_enter Try.func23, Try.ntmps23
      go_wp2_with fail
      generalize ((w.alloc (.cells #[.int .i64 an, .int .i64 ad] 25)).alloc (.cells #[.int .i64 bn, .int .i64 bd] 25)) = W0 at *
      refine (c_l01Frac _ _ _).mono ?_
      rintro e w1 ⟨rfl, n1⟩
      replace n0 := n0.step n1
      replace B0 := B0.new n1
      replace B1 := B1.new n1
      have ⟨⟨c1, d1⟩, ⟨f1, g1⟩, z1⟩ := B1
      go_wp2_with fail
      clear c1 d1 f1 g1 z1 n1
      refine (c_l01Frac _ _ _).mono ?_
      rintro e w2 ⟨rfl, n2⟩
      replace n0 := n0.step n2
      replace B0 := B0.new n2
      replace B1 := B1.new n2
      have ⟨⟨c0, d0⟩, ⟨f0, g0⟩, z0⟩ := B0
      have ⟨⟨c1, d1⟩, ⟨f1, g1⟩, z1⟩ := B1
      clear n2 B0 B1
      go_wp2
      refine bodyPost_ret (v := .tuple #[.int .i64 0, .int .i64 1]) (by simp [results, Try.results23, go_sem]) rfl ?_
      exact ⟨rfl, n0⟩
    · rw [show cpR an ad bn bd = cmpI (an * bd) (bn * ad) by simp [cpR, okAB, *], show cpC an ad bn bd = 0 by simp [cpC, okAB, *]]
      obtain ⟨⟨⟨q1, q2⟩, q3, q4⟩, -⟩ := vfB_iff.1 hA
      obtain ⟨⟨⟨q5, q6⟩, q7, q8⟩, -⟩ := vfB_iff.1 hB
      go_enter Try.func23, Try.ntmps23
      go_wp2_with fail
      generalize ((w.alloc (.cells #[.int .i64 an, .int .i64 ad] 25)).alloc (.cells #[.int .i64 bn, .int .i64 bd] 25)) = W0 at *
      refine (c_l01Frac _ _ _).mono ?_
      rintro e w1 ⟨rfl, n1⟩
      replace n0 := n0.step n1
      replace B0 := B0.new n1
      replace B1 := B1.new n1
      have ⟨⟨c1, d1⟩, ⟨f1, g1⟩, z1⟩ := B1
      go_wp2_with fail
      clear c1 d1 f1 g1 z1 n1
      refine (c_l01Frac _ _ _).mono ?_
      rintro e w2 ⟨rfl, n2⟩
      replace n0 := n0.step n2
      replace B0 := B0.new n2
      replace B1 := B1.new n2
      have ⟨⟨c0, d0⟩, ⟨f0, g0⟩, z0⟩ := B0
      have ⟨⟨c1, d1⟩, ⟨f1, g1⟩, z1⟩ := B1
      clear n2 B0 B1
      go_wp2_with fail
      refine (c_l01Compare an ad bn bd _ q1 q2 q3 q4 q5 q6 q7 q8).mono ?_
      rintro e w3 ⟨rfl, n3⟩
      replace n0 := n0.step n3
      go_wp2
      refine bodyPost_ret (v := .tuple #[.int .i64 (cmpI (an * bd) (bn * ad)), .int .i64 0]) (by simp [results, Try.results23, go_sem]) rfl ?_
      exact ⟨rfl, n0⟩

end Go.Proofs.Ytbhgjkfpgdgkfaa
