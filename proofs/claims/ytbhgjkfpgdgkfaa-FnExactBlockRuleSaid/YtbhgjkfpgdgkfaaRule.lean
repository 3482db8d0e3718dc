/- How a rule is opened, and contracts of the functions on rules. -/
import Derived.Test.YtbhgjkfpgdgkfaaCells
import Derived.Test.YtbhgjkfpgdgkfaaOpen
import Derived.Test.YtbhgjkfpgdgkfaaBox
import Derived.Deep.DeepCutAuto
namespace Go.Proofs.Ytbhgjkfpgdgkfaa
open Go.RowKit Go.WideShapes Go.ChangeShapes Go.Deep
set_option linter.unusedVariables false
set_option linter.unusedSimpArgs false

section
variable {H : Type} {enc : TypeId × Value → H} {P : Program} {W : World} {spare : Nat → Bool} {held : Bool}
theorem open_rule {t t0 t1 te : TypeId} {r : Reach} {b0 : Nat} {v : Value} {d : DataW H} {ps : List MemPlace} {f0 f1 : Field} (ht : P.underlying t = some (.struct #[f0, f1])) (hC : P.cellsOf t = 2)
    (e0 : f0.type = t0) (e1 : f1.type = t1) (o0 : f0.offset = 0) (o1 : f1.offset = 1) (c0 : P.cellsOf t0 = 1) (c1 : P.cellsOf t1 = 1)
    (u0 : P.underlying t0 = some (.int .i64)) (u1 : P.underlying t1 = some (.slice te)) (ue : P.underlying te = some (.int .i64)) (ce : P.cellsOf te = 1)
    (hv : Value.okWide P W r b0 t v) (h : DataW.Trod enc P W 0 spare held t v d ps) (hlt : ∀ x ∈ ps, x.block < W.heap.size) :
    ∃ (s : Int) (u : Value) (zs : List Int), v = .agg #[.int .i64 s, u] ∧ Rd W 0 W.heap.size 1 u zs.length (zs.map (Value.int .i64)) ∧ -9223372036854775808 ≤ s ∧ s ≤ 9223372036854775807 := by
  obtain ⟨cs, rfl, _⟩ := okWide_struct ht hv
  obtain ⟨n, hn⟩ := h
  obtain ⟨y0, y1, m, hx, hl, h0, h1⟩ := trod_struct2 ht hn
  rw [hC] at hl
  obtain ⟨l⟩ := cs
  simp only [Value.cells] at hl h0 h1
  match l, hl with
  | [a, b], _ =>
    rw [e0, o0, c0] at h0
    rw [e1, o1, c1] at h1
    obtain ⟨x, ex, hx1, hx2⟩ := dec_int u0 h0
    have ha : a = .int .i64 x := by simpa using ex
    subst ha
    have h1' : DataW.trod enc P W 0 spare held m t1 [b] = some y1 := by simpa using h1
    have hps : ps = y0.2 ++ y1.2 := congrArg Prod.snd hx
    obtain ⟨zs, hr, _⟩ := rd_of_trod (fun z => [Value.int .i64 z]) (fun _ => True) ce (by omega) (fun _ => rfl) (fun n cs' y hy _ => by obtain ⟨z, hz, _⟩ := dec_int ue hy; exact ⟨z, hz, trivial⟩) u1 h1' (fun p hp => hlt p (by rw [hps]; exact List.mem_append_right _ hp))
    exact ⟨x, b, zs, rfl, by rw [← flat_one]; exact hr, hx1, hx2⟩
end

/-- what is left behind a count, or -1 -/
def szI (l n : Int) : Int := if l - n < 0 then -1 else l - n

set_option maxHeartbeats 400000 in
theorem c_szInt64S (A : Option Addr) (n c : Nat) (l : Int) (w : World) (hn : n ≤ 9223372036854775807) (h0 : 0 ≤ l) (h1 : l ≤ 1048576) : Calls Try.prog 71 #[.slice A n c, .int .i64 l] w fun e w' => e = .returned (.int .i64 (szI l n)) ∧ w = w' := by
  by_cases h : l - (n : Int) < 0
  · have E := Lib.hid (show szI l n = -1 by simp [szI, h])
    go_enter Try.func71, Try.ntmps71
    go_wp2
    go_ret
    exact ⟨ret_int E.out.symm, rfl⟩
  · have E := Lib.hid (show szI l n = l - n by simp [szI, h])
    go_enter Try.func71, Try.ntmps71
    go_wp2
    go_ret
    exact ⟨ret_int E.out.symm, rfl⟩

set_option maxHeartbeats 400000 in
theorem c_szRule (s : Int) (A : Option Addr) (n c : Nat) (l : Int) (w : World) (hn : n ≤ 9223372036854775807) (h0 : 0 ≤ l) (h1 : l ≤ 1048576) : Calls Try.prog 38 #[.agg #[.int .i64 s, .slice A n c], .int .i64 l] w fun e w' => e = .returned (.int .i64 (szI l n)) ∧ New w w' := by
  by_cases h : l - (n : Int) < 0
  · have E := Lib.hid (show szI l n = -1 by simp [szI, h])
    have E' := E.out
    go_enter Try.func38, Try.ntmps38
    go_wp2_with (go_at_call 71; refine (c_szInt64S A n c l _ hn h0 h1).mono ?_; rintro e w' ⟨rfl, rfl⟩; rw [E'])
    go_ret
    exact ⟨ret_int E.out.symm, by go_grown⟩
  · have E := Lib.hid (show szI l n = l - n by simp [szI, h])
    have E' := E.out
    go_enter Try.func38, Try.ntmps38
    go_wp2_with (go_at_call 71; refine (c_szInt64S A n c l _ hn h0 h1).mono ?_; rintro e w' ⟨rfl, rfl⟩; rw [E'])
    go_ret
    exact ⟨ret_int E.out.symm, by go_grown⟩

set_option maxHeartbeats 1000000 in
theorem c_toRule (s : Int) (lo hi : Nat) (v : Value) (zs : List Int) (w : World) (h : Rd w lo hi 1 v zs.length (zs.map (Value.int .i64))) (hn : zs.length ≤ 1048576) :
    Calls Try.prog 40 #[.agg #[.int .i64 s, v]] w fun e w' => ∃ u, e = .returned (.agg #[.int .i64 s, u]) ∧ Own w' w.heap.size w'.heap.size 2 1 u zs.length (zs.map (Value.int .i64)) ∧ New w w' := by
  have HR := Lib.hid h
  obtain ⟨_, _, hh, A, c, rfl, hrd⟩ := h
  clear hrd
  go_enter Try.func40, Try.ntmps40
  go_wp2_with fail
  have n0 : New w (((w.alloc (.cells #[.int .i64 s, .slice A zs.length c] 47)).alloc (.cells #[.int .i64 0, .slice none 0 0] 50)).alloc (.cells #[.int .i64 s, .slice none 0 0] 50)) := (((New.same w).box _).box _).box _
  have B1 : BoxV (((w.alloc (.cells #[.int .i64 s, .slice A zs.length c] 47)).alloc (.cells #[.int .i64 0, .slice none 0 0] 50)).alloc (.cells #[.int .i64 s, .slice none 0 0] 50)) (w.heap.size + 1) [.int .i64 0, .slice none 0 0] := .two (by go_simp) (by go_simp) (by go_simp) (by go_simp) (by simp)
  have B2 : BoxV (((w.alloc (.cells #[.int .i64 s, .slice A zs.length c] 47)).alloc (.cells #[.int .i64 0, .slice none 0 0] 50)).alloc (.cells #[.int .i64 s, .slice none 0 0] 50)) (w.heap.size + 1 + 1) [.int .i64 s, .slice none 0 0] := .two (by go_simp) (by go_simp) (by go_simp) (by go_simp) (by simp)
  have z3 : (((w.alloc (.cells #[.int .i64 s, .slice A zs.length c] 47)).alloc (.cells #[.int .i64 0, .slice none 0 0] 50)).alloc (.cells #[.int .i64 s, .slice none 0 0] 50)).heap.size = w.heap.size + 3 := by simp
  generalize (((w.alloc (.cells #[.int .i64 s, .slice A zs.length c] 47)).alloc (.cells #[.int .i64 0, .slice none 0 0] 50)).alloc (.cells #[.int .i64 s, .slice none 0 0] 50)) = W0 at *
  refine (c_toInt64S _ _ _ zs _ (HR.out.new n0) hn).mono ?_
  rintro e w1 ⟨u, rfl, hO, n1⟩
  obtain ⟨_, _, _, A', c', rfl, _⟩ := hO.rd
  obtain ⟨⟨c1, d1⟩, ⟨f1, g1⟩, z1⟩ := (B1.new n1).at2
  obtain ⟨⟨c2, d2⟩, ⟨f2, g2⟩, z2⟩ := (B2.new n1).at2
  have NN : New w w1 := n0.step n1
  have HO := Lib.hid hO
  have Z3 := Lib.hid z3
  clear hO B1 B2 n0 n1 z3
  go_wp2
  refine bodyPost_ret (v := .agg #[.int .i64 s, .slice A' zs.length c']) (by simp [results, Try.results40, go_sem, c1, d1, c2, d2]) rfl ?_
  have z3 := Z3.out
  have F := (((Fr.refl w.heap.size (w.heap.size + 3) w1).setCell (p := ⟨w.heap.size + 1 + 1, 1, none⟩) (by simp; omega) (by simp) (.slice A' zs.length c')).setCell (p := ⟨w.heap.size + 1, 0, none⟩) (by simp) (by simp) (.int .i64 s)).setCell (p := ⟨w.heap.size + 1, 1, none⟩) (by simp) (by simp) (.slice A' zs.length c')
  exact ⟨_, rfl, (HO.out.fr F (.inr (by omega))).wide (by omega) (by simp) (Nat.le_refl _), NN.fr F (Nat.le_refl _)⟩

set_option maxHeartbeats 1000000 in
theorem c_eqRule_self (s : Int) (lo hi lo' hi' : Nat) (v u : Value) (xs : List Int) (w : World) (h : Rd w lo hi 1 v xs.length (xs.map (Value.int .i64))) (h' : Rd w lo' hi' 1 u xs.length (xs.map (Value.int .i64))) :
    Calls Try.prog 42 #[.agg #[.int .i64 s, v], .agg #[.int .i64 s, u]] w fun e w' => e = .returned (.bool true) ∧ New w w' := by
  have HR := Lib.hid h
  have HS := Lib.hid h'
  obtain ⟨_, _, hh, A, c, rfl, _⟩ := h
  obtain ⟨_, _, hh', A', c', rfl, _⟩ := h'
  have n0 : New w ((w.alloc (.cells #[.int .i64 s, .slice A xs.length c] 50)).alloc (.cells #[.int .i64 s, .slice A' xs.length c'] 50)) := ((New.same w).box _).box _
  have hs := eqL_self xs
  go_enter Try.func42, Try.ntmps42
  go_wp2_with (go_at_call 49; refine (c_eqInt64S _ _ _ _ _ _ xs xs _ (HR.out.new n0) (HS.out.new n0)).mono ?_; rintro e w1 ⟨rfl, n1⟩)
  go_ret
  exact ⟨rfl, n0.step n1⟩

/-- a valid rule -/
def rulB (s : Int) (zs : List Int) : Bool := inB s 1 5 && decide ((zs.length : Int) = s * s) && belB s zs

set_option maxHeartbeats 1000000 in
theorem c_implValidRule (s : Int) (lo hi : Nat) (v : Value) (zs : List Int) (w : World) (h : Rd w lo hi 1 v zs.length (zs.map (Value.int .i64))) :
    Calls Try.prog 41 #[.agg #[.int .i64 s, v]] w fun e w' => e = .returned (.bool (rulB s zs)) ∧ New w w' := by
  have HR := Lib.hid h
  obtain ⟨_, _, hh, A, c, rfl, _⟩ := h
  have n0 : New w (w.alloc (.cells #[.int .i64 s, .slice A zs.length c] 50)) := (New.same w).box _
  cases h1 : inB s 1 5
  · have E := Lib.hid (show rulB s zs = false by simp [rulB, h1])
    go_enter Try.func41, Try.ntmps41
    go_wp2_with (go_at_call 56; refine (c_within _ _ _ _).mono ?_; rintro e w' ⟨rfl, rfl⟩)
    go_ret
    exact ⟨ret_bool E.out.symm, n0⟩
  · obtain ⟨b1, b2⟩ := inB_iff.1 h1
    have P1 : 1 ≤ s * s ∧ s * s ≤ 25 := by
      have : s = 1 ∨ s = 2 ∨ s = 3 ∨ s = 4 ∨ s = 5 := by omega
      rcases this with rfl | rfl | rfl | rfl | rfl <;> simp
    by_cases h2 : (zs.length : Int) = s * s
    · have E := Lib.hid (show rulB s zs = belB s zs by simp [rulB, h1, h2])
      have h2' : ((zs.length : Int) == s * s) = true := by simpa using h2
      go_enter Try.func41, Try.ntmps41
      go_wp2_with (first | (go_at_call 56; refine (c_within _ _ _ _).mono ?_; rintro e w' ⟨rfl, rfl⟩) | (go_at_call 73; refine (c_below s lo hi _ zs _ (HR.out.new n0) (by omega) (by omega)).mono ?_; rintro e w1 ⟨rfl, n1⟩))
      go_ret
      exact ⟨ret_bool E.out.symm, n0.step n1⟩
    · have E := Lib.hid (show rulB s zs = false by simp [rulB, h2])
      have h2' : ((zs.length : Int) == s * s) = false := by simpa using h2
      go_enter Try.func41, Try.ntmps41
      go_wp2_with (go_at_call 56; refine (c_within _ _ _ _).mono ?_; rintro e w' ⟨rfl, rfl⟩)
      go_ret
      exact ⟨ret_bool E.out.symm, n0⟩

end Go.Proofs.Ytbhgjkfpgdgkfaa
