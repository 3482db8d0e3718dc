/- Contracts of the functions that read a point's text. -/
import Derived.Test.YthoobnepcbbdeaaDoorRpP
import Derived.Test.YthoobnepcbbdeaaDoorReadI
import Derived.Test.YthoobnepcbbdeaaDoorLayCut
import Derived.Test.YthoobnepcbbdeaaDoorBox
namespace Go.Proofs.YthoobnepcbbdeaaDoor
open Go.RowKit Go.Deep
set_option linter.unusedVariables false
set_option linter.unusedSimpArgs false

def GivesRp (s : ByteArray) (w : World) (E : Ending) (w' : World) : Prop := ∃ x y b, E = .returned (.tuple #[.agg #[.int .i64 x, .int .i64 y], .bool b]) ∧ RpS s x y b ∧ New w w'
theorem part_size {s : ByteArray} {a b : List UInt8} (h : s.data.toList = a ++ 44 :: b) (hs : s.size ≤ 1048576) : (⟨a.toArray⟩ : ByteArray).size ≤ 1048576 ∧ (⟨b.toArray⟩ : ByteArray).size ≤ 1048576 := by
  have h1 : s.data.toList.length = s.size := Array.length_toList
  rw [h, List.length_append, List.length_cons] at h1
  have ha : (⟨a.toArray⟩ : ByteArray).size = a.length := by simp [ByteArray.size]
  have hb : (⟨b.toArray⟩ : ByteArray).size = b.length := by simp [ByteArray.size]
  omega

theorem Own.form' {w : World} {lo hi n C : Nat} {e : TypeId} {v : Value} {xs : List Value} (h : Own w lo hi e C v n xs) (hn : 0 < n) : ∃ g c, v = .slice (some ⟨g, 0, none⟩) n c ∧ lo ≤ g ∧ g < hi ∧ ∀ j, w.frozen? ⟨g, j, none⟩ = false := by
  obtain ⟨h1, h2, h3⟩ := h
  have hh := h1
  rcases h1.2 with ⟨rfl, rfl⟩ | ⟨g, c, cur, rfl, hb, _⟩
  · omega
  · exact ⟨g, c, rfl, hb, h3 g rfl, fun j => hh.frozenAt j⟩
theorem rd_cell' {w : World} {lo hi C : Nat} {v : Value} {n : Nat} {cs : List Value} (h : Rd w lo hi C v n cs) {b off c : Nat} (hv : v = .slice (some ⟨b, off, none⟩) n c) {j : Nat} {u : Value} (hj : cs[j]? = some u) (hn : 0 < n := by simp) :
    w.cell? ⟨b, off + j, none⟩ = some u ∧ b < w.heap.size := by
  obtain ⟨_, _, hh, A, c', hv', hrd⟩ := h
  rw [hv] at hv'
  obtain ⟨b', off', e, _, hb, hc⟩ := hrd hn
  have hA : A = some ⟨b, off, none⟩ := by cases hv'; rfl
  rw [hA] at e
  obtain ⟨rfl, rfl⟩ : b = b' ∧ off = off' := by simpa using e
  exact ⟨hc j _ hj, by omega⟩

set_option maxRecDepth 20000 in
set_option maxHeartbeats 4000000 in
theorem c_specReadPoint (s : ByteArray) (w : World) (hs : s.size ≤ 1048576) : Calls Tryd.prog 18 #[.string s] w (GivesRp s w) := by
  have n0 : New w (w.alloc (.cells #[.int .i64 0, .int .i64 0] 27)) := (New.same w).box _
  have B0 : BoxV (w.alloc (.cells #[.int .i64 0, .int .i64 0] 27)) w.heap.size [.int .i64 0, .int .i64 0] := .two (by go_simp) (by go_simp) (by go_simp) (by go_simp) (by simp)
  obtain ⟨ls, hls⟩ : ∃ ls, spl 44 [] s.data.toList = ls := ⟨_, rfl⟩
  have C0 := fun w => c_l01Split s 44 w hs
  rw [hls] at C0
  have HC := Lib.hid C0
  clear C0
  by_cases h2 : ls.length = 2
  · obtain ⟨a, b, rfl⟩ : ∃ a b, ls = [a, b] := by
      match ls, h2 with
      | [a, b], _ => exact ⟨a, b, rfl⟩
    have hl := spl_two 44 _ _ _ _ hls
    simp only [List.nil_append] at hl
    obtain ⟨sa, sb⟩ := part_size hl hs
    have HF := Lib.hid (spl_first 44 _ _ _ _ (by simp) hls)
    have HL := Lib.hid hl
    clear hl hls h2
    go_enter Tryd.func18, Tryd.ntmps18
    go_wp2_with fail
    generalize (w.alloc (.cells #[.int .i64 0, .int .i64 0] 27)) = W0 at *
    refine (HC.out _).mono ?_
    rintro e w1 ⟨v, rfl, hO, n1⟩
    obtain ⟨g, c, rfl, hg0, hg1, _⟩ := hO.form' (by simp)
    have HO := Lib.hid hO
    obtain ⟨x0, xl⟩ := rd_cell' hO.rd rfl (j := 0) (u := .string ⟨a.toArray⟩) rfl
    obtain ⟨x1, _⟩ := rd_cell' hO.rd rfl (j := 1) (u := .string ⟨b.toArray⟩) rfl
    clear hO
    simp only [Nat.zero_add] at x0 x1
    go_wp2_with fail
    refine (c_specReadDecimal _ _ sa).mono ?_
    rintro e w2 ⟨m1, b1, rfl, R1, n2⟩
    have y1 := (n2.cell (p := ⟨g, 1, none⟩) xl).trans x1
    have HR1 := Lib.hid R1
    clear R1 x0 x1
    go_wp2_with fail
    refine (c_specReadDecimal _ _ sb).mono ?_
    rintro e w3 ⟨m2, b2, rfl, R2, n3⟩
    have RR := RpS.of HL.out HF.out HR1.out R2
    have HY := Lib.hid RR.1
    have HX := Lib.hid RR.2
    clear RR R2 y1
    have BP : BoxV (w3.alloc (.cells #[.int .i64 m1, .int .i64 m2] 27)) w3.heap.size [.int .i64 m1, .int .i64 m2] := .two (by go_simp) (by go_simp) (by go_simp) (by go_simp) (by simp)
    have n5 : New w3 (w3.alloc (.cells #[.int .i64 m1, .int .i64 m2] 27)) := (New.same w3).box _
    have N5 := (((n0.step n1).step n2).step n3).step n5
    have B5 := (((B0.new n1).new n2).new n3).new n5
    go_upto_region 7 with fail
    generalize (w3.alloc (.cells #[.int .i64 m1, .int .i64 m2] 27)) = W5 at *
    have ⟨⟨p0, p1⟩, _, pl⟩ := BP.at2
    have ⟨⟨c0, d0⟩, ⟨f0, g0⟩, l0⟩ := B5.at2
    cases b1
    · have HR := Lib.hid (HX.out (.inl rfl))
      go_wp2
      have BB := (B5).both (.int .i64 0) (.int .i64 0)
      obtain ⟨⟨e0, e1⟩, _, _⟩ := BB.at2
      exact bodyPost_ret (v := .tuple #[.agg #[.int .i64 0, .int .i64 0], .bool false]) (by simp [results, Tryd.results18, go_sem, e0, e1]) rfl ⟨_, _, _, rfl, HR.out, ((N5).setCell (p := ⟨w.heap.size, 0, none⟩) (Nat.le_refl _) _).setCell (p := ⟨w.heap.size, 1, none⟩) (Nat.le_refl _) _⟩
    cases b2
    · have HR := Lib.hid (HX.out (.inr (.inl rfl)))
      go_wp2
      have BB := (B5).both (.int .i64 0) (.int .i64 0)
      obtain ⟨⟨e0, e1⟩, _, _⟩ := BB.at2
      exact bodyPost_ret (v := .tuple #[.agg #[.int .i64 0, .int .i64 0], .bool false]) (by simp [results, Tryd.results18, go_sem, e0, e1]) rfl ⟨_, _, _, rfl, HR.out, ((N5).setCell (p := ⟨w.heap.size, 0, none⟩) (Nat.le_refl _) _).setCell (p := ⟨w.heap.size, 1, none⟩) (Nat.le_refl _) _⟩
    cases hv : vpB m1 m2
    · have HR := Lib.hid (HX.out (.inr (.inr hv)))
      go_wp2_with (go_loud (go_at_call 22; refine (c_l01Point m1 m2 _).mono ?_; rintro e w6 ⟨rfl, n6⟩; have ⟨⟨p2, p3⟩, _, pl2⟩ := (BP.new n6).at2; have ⟨⟨c2, d2⟩, ⟨f2, g2⟩, l2⟩ := (B5.new n6).at2))
      have BB := (B5.new n6).both (.int .i64 0) (.int .i64 0)
      obtain ⟨⟨e0, e1⟩, _, _⟩ := BB.at2
      exact bodyPost_ret (v := .tuple #[.agg #[.int .i64 0, .int .i64 0], .bool false]) (by simp [results, Tryd.results18, go_sem, e0, e1]) rfl ⟨_, _, _, rfl, HR.out, ((N5.step n6).setCell (p := ⟨w.heap.size, 0, none⟩) (Nat.le_refl _) _).setCell (p := ⟨w.heap.size, 1, none⟩) (Nat.le_refl _) _⟩
    · have HR := Lib.hid (HY.out rfl rfl hv)
      go_wp2_with (go_loud (go_at_call 22; refine (c_l01Point m1 m2 _).mono ?_; rintro e w6 ⟨rfl, n6⟩; have ⟨⟨p2, p3⟩, _, pl2⟩ := (BP.new n6).at2; have ⟨⟨c2, d2⟩, ⟨f2, g2⟩, l2⟩ := (B5.new n6).at2))
      have BB := (B5.new n6).both (.int .i64 m1) (.int .i64 m2)
      obtain ⟨⟨e0, e1⟩, _, _⟩ := BB.at2
      exact bodyPost_ret (v := .tuple #[.agg #[.int .i64 m1, .int .i64 m2], .bool true]) (by simp [results, Tryd.results18, go_sem, e0, e1]) rfl ⟨_, _, _, rfl, HR.out, ((N5.step n6).setCell (p := ⟨w.heap.size, 0, none⟩) (Nat.le_refl _) _).setCell (p := ⟨w.heap.size, 1, none⟩) (Nat.le_refl _) _⟩
  · have HN := Lib.hid (RpS.no (s := s) (by rw [hls]; exact h2))
    have hne : decide ((ls.length : Int) = 2) = false := by simp; omega
    have hne2 : ((ls.length : Int) != 2) = true := by simp; omega
    clear hls
    go_enter Tryd.func18, Tryd.ntmps18
    go_wp2_with fail
    generalize (w.alloc (.cells #[.int .i64 0, .int .i64 0] 27)) = W0 at *
    refine (HC.out _).mono ?_
    rintro e w1 ⟨v, rfl, hO, n1⟩
    obtain ⟨_, _, _, A, c, rfl, _⟩ := hO.rd
    have ⟨⟨c0, d0⟩, ⟨f0, g0⟩, l0⟩ := (B0.new n1).at2
    clear hO
    go_wp2
    have BB := (B0.new n1).both (.int .i64 0) (.int .i64 0)
    obtain ⟨⟨e0, e1⟩, _, _⟩ := BB.at2
    exact bodyPost_ret (v := .tuple #[.agg #[.int .i64 0, .int .i64 0], .bool false]) (by simp [results, Tryd.results18, go_sem, e0, e1]) rfl ⟨_, _, _, rfl, HN.out, ((n0.step n1).setCell (p := ⟨w.heap.size, 0, none⟩) (Nat.le_refl _) _).setCell (p := ⟨w.heap.size, 1, none⟩) (Nat.le_refl _) _⟩
theorem c_Cut (s : ByteArray) (w : World) (hs : s.size ≤ 1048576) (hM : ∃ m, w.cell? ⟨3, 0, none⟩ = some (.int .i64 m)) :
    Calls Tryd.prog 31 #[.string s, .string ⟨#[44]⟩] w fun e w' => e = .returned (.tuple #[.string ⟨(Lib.cut s.data.toList [44]).1.toArray⟩, .string ⟨(Lib.cut s.data.toList [44]).2.1.toArray⟩, .bool (Lib.cut s.data.toList [44]).2.2]) ∧ New w w' := by
  obtain ⟨m, hm⟩ := hM
  refine Calls.mono (P := Tryd.prog) (f := 31) (Any.strings_Cut Tryd.lays145 s ⟨#[44]⟩ m w (by omega) hm) ?_
  rintro e w' ⟨rfl, n, rfl⟩
  exact ⟨rfl, (New.same w).draws n⟩
set_option maxRecDepth 20000 in
set_option maxHeartbeats 4000000 in
theorem c_implReadPoint (s : ByteArray) (w : World) (hs : s.size ≤ 1048576) (hT : TabW w) (hE : ErrW w) (hM : ∃ m, w.cell? ⟨3, 0, none⟩ = some (.int .i64 m)) (h3 : 3 < w.heap.size) : Calls Tryd.prog 19 #[.string s] w (GivesRp s w) := by
  have n0 : New w (w.alloc (.cells #[.int .i64 0, .int .i64 0] 27)) := (New.same w).box _
  have B0 : BoxV (w.alloc (.cells #[.int .i64 0, .int .i64 0] 27)) w.heap.size [.int .i64 0, .int .i64 0] := .two (by go_simp) (by go_simp) (by go_simp) (by go_simp) (by simp)
  have HM : Hid (∃ m, (w.alloc (.cells #[.int .i64 0, .int .i64 0] 27)).cell? ⟨3, 0, none⟩ = some (.int .i64 m)) := by
    obtain ⟨m, hm⟩ := hM
    exact Lib.hid ⟨m, (n0.cell (p := ⟨3, 0, none⟩) h3).trans hm⟩
  have HT := Lib.hid (tab_new hT n0)
  have HE := Lib.hid (err_new hE n0)
  clear hM hT hE
  have C0 := fun w h => c_Cut s w hs h
  by_cases hc : (44 : UInt8) ∈ s.data.toList
  · obtain ⟨a, b, hl, ha⟩ := List.eq_append_cons_of_mem hc
    rw [hl, cut_at ha] at C0
    obtain ⟨sa, sb⟩ := part_size hl hs
    have HC := Lib.hid C0
    have HF := Lib.hid ha
    have HL := Lib.hid hl
    clear C0 hl ha hc
    go_enter Tryd.func19, Tryd.ntmps19
    go_wp2_with fail
    generalize (w.alloc (.cells #[.int .i64 0, .int .i64 0] 27)) = W0 at *
    refine (HC.out _ HM.out).mono ?_
    rintro e w1 ⟨rfl, n1⟩
    go_wp2_with fail
    refine (c_implReadDecimal _ _ sa (tab_new HT.out n1) (err_new HE.out n1)).mono ?_
    rintro e w2 ⟨m1, b1, rfl, R1, n2⟩
    have HR1 := Lib.hid R1
    clear R1
    go_wp2_with fail
    refine (c_implReadDecimal _ _ sb (tab_new (tab_new HT.out n1) n2) (err_new (err_new HE.out n1) n2)).mono ?_
    rintro e w3 ⟨m2, b2, rfl, R2, n3⟩
    have RR := RpS.of HL.out HF.out HR1.out R2
    have HY := Lib.hid RR.1
    have HX := Lib.hid RR.2
    clear RR R2
    have BP : BoxV (w3.alloc (.cells #[.int .i64 m1, .int .i64 m2] 27)) w3.heap.size [.int .i64 m1, .int .i64 m2] := .two (by go_simp) (by go_simp) (by go_simp) (by go_simp) (by simp)
    have n5 : New w3 (w3.alloc (.cells #[.int .i64 m1, .int .i64 m2] 27)) := (New.same w3).box _
    have N5 := (((n0.step n1).step n2).step n3).step n5
    have B5 := (((B0.new n1).new n2).new n3).new n5
    go_upto_region 5 with fail
    generalize (w3.alloc (.cells #[.int .i64 m1, .int .i64 m2] 27)) = W5 at *
    have ⟨⟨p0, p1⟩, _, pl⟩ := BP.at2
    have ⟨⟨c0, d0⟩, ⟨f0, g0⟩, l0⟩ := B5.at2
    cases b1
    · have HR := Lib.hid (HX.out (.inl rfl))
      go_wp2
      have BB := (B5).both (.int .i64 0) (.int .i64 0)
      obtain ⟨⟨e0, e1⟩, _, _⟩ := BB.at2
      exact bodyPost_ret (v := .tuple #[.agg #[.int .i64 0, .int .i64 0], .bool false]) (by simp [results, Tryd.results19, go_sem, e0, e1]) rfl ⟨_, _, _, rfl, HR.out, ((N5).setCell (p := ⟨w.heap.size, 0, none⟩) (Nat.le_refl _) _).setCell (p := ⟨w.heap.size, 1, none⟩) (Nat.le_refl _) _⟩
    cases b2
    · have HR := Lib.hid (HX.out (.inr (.inl rfl)))
      go_wp2
      have BB := (B5).both (.int .i64 0) (.int .i64 0)
      obtain ⟨⟨e0, e1⟩, _, _⟩ := BB.at2
      exact bodyPost_ret (v := .tuple #[.agg #[.int .i64 0, .int .i64 0], .bool false]) (by simp [results, Tryd.results19, go_sem, e0, e1]) rfl ⟨_, _, _, rfl, HR.out, ((N5).setCell (p := ⟨w.heap.size, 0, none⟩) (Nat.le_refl _) _).setCell (p := ⟨w.heap.size, 1, none⟩) (Nat.le_refl _) _⟩
    cases hv : vpB m1 m2
    · have HR := Lib.hid (HX.out (.inr (.inr hv)))
      go_wp2_with (go_loud (go_at_call 23; refine (c_implValidPoint m1 m2 _).mono ?_; rintro e w6 ⟨rfl, n6⟩; have ⟨⟨p2, p3⟩, _, pl2⟩ := (BP.new n6).at2; have ⟨⟨c2, d2⟩, ⟨f2, g2⟩, l2⟩ := (B5.new n6).at2))
      have BB := (B5.new n6).both (.int .i64 0) (.int .i64 0)
      obtain ⟨⟨e0, e1⟩, _, _⟩ := BB.at2
      exact bodyPost_ret (v := .tuple #[.agg #[.int .i64 0, .int .i64 0], .bool false]) (by simp [results, Tryd.results19, go_sem, e0, e1]) rfl ⟨_, _, _, rfl, HR.out, ((N5.step n6).setCell (p := ⟨w.heap.size, 0, none⟩) (Nat.le_refl _) _).setCell (p := ⟨w.heap.size, 1, none⟩) (Nat.le_refl _) _⟩
    · have HR := Lib.hid (HY.out rfl rfl hv)
      go_wp2_with (go_loud (go_at_call 23; refine (c_implValidPoint m1 m2 _).mono ?_; rintro e w6 ⟨rfl, n6⟩; have ⟨⟨p2, p3⟩, _, pl2⟩ := (BP.new n6).at2; have ⟨⟨c2, d2⟩, ⟨f2, g2⟩, l2⟩ := (B5.new n6).at2))
      have BB := (B5.new n6).both (.int .i64 m1) (.int .i64 m2)
      obtain ⟨⟨e0, e1⟩, _, _⟩ := BB.at2
      exact bodyPost_ret (v := .tuple #[.agg #[.int .i64 m1, .int .i64 m2], .bool true]) (by simp [results, Tryd.results19, go_sem, e0, e1]) rfl ⟨_, _, _, rfl, HR.out, ((N5.step n6).setCell (p := ⟨w.heap.size, 0, none⟩) (Nat.le_refl _) _).setCell (p := ⟨w.heap.size, 1, none⟩) (Nat.le_refl _) _⟩
  · rw [cut_no hc] at C0
    have HC := Lib.hid C0
    have HN := Lib.hid (RpS.none_ hc)
    clear C0 hc
    go_enter Tryd.func19, Tryd.ntmps19
    go_wp2_with fail
    generalize (w.alloc (.cells #[.int .i64 0, .int .i64 0] 27)) = W0 at *
    refine (HC.out _ HM.out).mono ?_
    rintro e w1 ⟨rfl, n1⟩
    go_wp2_with fail
    refine (c_implReadDecimal _ _ hs (tab_new HT.out n1) (err_new HE.out n1)).mono ?_
    rintro e w2 ⟨m1, b1, rfl, R1, n2⟩
    clear R1
    go_wp2_with fail
    refine (c_implReadDecimal _ _ (by simp [ByteArray.size]) (tab_new (tab_new HT.out n1) n2) (err_new (err_new HE.out n1) n2)).mono ?_
    rintro e w3 ⟨m2, b2, rfl, R2, n3⟩
    obtain ⟨rfl, rfl⟩ := RdS.unique R2 (RdS.size (s := ⟨(List.toArray [])⟩) (.inl (by simp [ByteArray.size])))
    have HX : Hid ((b1 = false ∨ False ∨ False) ∨ True → RpS s 0 0 false) := Lib.hid (fun _ => HN.out)
    clear R2
    have BP : BoxV (w3.alloc (.cells #[.int .i64 m1, .int .i64 0] 27)) w3.heap.size [.int .i64 m1, .int .i64 0] := .two (by go_simp) (by go_simp) (by go_simp) (by go_simp) (by simp)
    have n5 : New w3 (w3.alloc (.cells #[.int .i64 m1, .int .i64 0] 27)) := (New.same w3).box _
    have N5 := (((n0.step n1).step n2).step n3).step n5
    have B5 := (((B0.new n1).new n2).new n3).new n5
    go_upto_region 5 with fail
    generalize (w3.alloc (.cells #[.int .i64 m1, .int .i64 0] 27)) = W5 at *
    have ⟨⟨p0, p1⟩, _, pl⟩ := BP.at2
    have ⟨⟨c0, d0⟩, ⟨f0, g0⟩, l0⟩ := B5.at2
    cases b1
    · have HR := Lib.hid (HX.out (.inr trivial))
      go_wp2
      have BB := (B5).both (.int .i64 0) (.int .i64 0)
      obtain ⟨⟨e0, e1⟩, _, _⟩ := BB.at2
      exact bodyPost_ret (v := .tuple #[.agg #[.int .i64 0, .int .i64 0], .bool false]) (by simp [results, Tryd.results19, go_sem, e0, e1]) rfl ⟨_, _, _, rfl, HR.out, ((N5).setCell (p := ⟨w.heap.size, 0, none⟩) (Nat.le_refl _) _).setCell (p := ⟨w.heap.size, 1, none⟩) (Nat.le_refl _) _⟩
    have HR := Lib.hid (HX.out (.inr trivial))
    go_wp2
    have BB := (B5).both (.int .i64 0) (.int .i64 0)
    obtain ⟨⟨e0, e1⟩, _, _⟩ := BB.at2
    exact bodyPost_ret (v := .tuple #[.agg #[.int .i64 0, .int .i64 0], .bool false]) (by simp [results, Tryd.results19, go_sem, e0, e1]) rfl ⟨_, _, _, rfl, HR.out, ((N5).setCell (p := ⟨w.heap.size, 0, none⟩) (Nat.le_refl _) _).setCell (p := ⟨w.heap.size, 1, none⟩) (Nat.le_refl _) _⟩
end Go.Proofs.YthoobnepcbbdeaaDoor
