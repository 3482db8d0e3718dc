/- How an assembly is opened; contracts of the laws' own helpers on assemblies. -/
import Derived.Test.YtcbifdfcllaaaaaGreatDoorFlatPlaced
import Derived.Test.YtcbifdfcllaaaaaGreatDoorMkPlaced
import Derived.Test.YtcbifdfcllaaaaaGreatDoorOpen
import Derived.ChangeSame
import Derived.Deep.DeepCutAuto
namespace Go.Proofs.YtcbifdfcllaaaaaGreatDoor
open Go.RowKit Go.WideShapes Go.ChangeShapes Go.Deep
set_option linter.unusedVariables false
set_option linter.unusedSimpArgs false

section
variable {H : Type} {enc : TypeId × Value → H} {P : Program} {W : World} {spare : Nat → Bool} {held : Bool}
/-- a point and a number, read back -/
theorem dec_pl {t tp t2 t0 t1 : TypeId} {n : Nat} {cs : List Value} {y : DataW H × List MemPlace} {f0 f1 g0 g1 : Field} (ht : P.underlying t = some (.struct #[f0, f1])) (hC : P.cellsOf t = 3)
    (e0 : f0.type = tp) (e1 : f1.type = t2) (o0 : f0.offset = 0) (o1 : f1.offset = 2) (c0 : P.cellsOf tp = 2) (c1 : P.cellsOf t2 = 1) (hp : P.underlying tp = some (.struct #[g0, g1]))
    (ge0 : g0.type = t0) (ge1 : g1.type = t1) (go0 : g0.offset = 0) (go1 : g1.offset = 1) (gc0 : P.cellsOf t0 = 1) (gc1 : P.cellsOf t1 = 1)
    (u0 : P.underlying t0 = some (.int .i64)) (u1 : P.underlying t1 = some (.int .i64)) (u2 : P.underlying t2 = some (.int .i64)) (h : DataW.trod enc P W 0 spare held n t cs = some y) :
    ∃ p : (Int × Int) × Int, cs = plCells p := by
  obtain ⟨y0, y1, m, _, hl, h0, h1⟩ := trod_struct2 ht h
  rw [hC] at hl
  match cs, hl with
  | [a, b, c], _ =>
    rw [e0, o0, c0] at h0
    rw [e1, o1, c1] at h1
    obtain ⟨x, ex, _⟩ := dec_ii hp c0 ge0 ge1 go0 go1 gc0 gc1 u0 u1 h0
    obtain ⟨z, ez, _⟩ := dec_int u2 h1
    simp at ex ez
    obtain ⟨rfl, rfl⟩ := ex
    subst ez
    exact ⟨(x, z), rfl⟩
theorem open_pls_rd {t e tp t2 t0 t1 : TypeId} {fuel : Nat} {v : Value} {x : DataW H × List MemPlace} {f0 f1 g0 g1 : Field} (ht : P.underlying t = some (.slice e)) (he : P.underlying e = some (.struct #[f0, f1])) (hC : P.cellsOf e = 3)
    (e0 : f0.type = tp) (e1 : f1.type = t2) (o0 : f0.offset = 0) (o1 : f1.offset = 2) (c0 : P.cellsOf tp = 2) (c1 : P.cellsOf t2 = 1) (hp : P.underlying tp = some (.struct #[g0, g1]))
    (ge0 : g0.type = t0) (ge1 : g1.type = t1) (go0 : g0.offset = 0) (go1 : g1.offset = 1) (gc0 : P.cellsOf t0 = 1) (gc1 : P.cellsOf t1 = 1)
    (u0 : P.underlying t0 = some (.int .i64)) (u1 : P.underlying t1 = some (.int .i64)) (u2 : P.underlying t2 = some (.int .i64)) (h : DataW.trod enc P W 0 spare held fuel t [v] = some x) (hlt : ∀ p ∈ x.2, p.block < W.heap.size) :
    ∃ zs : List ((Int × Int) × Int), Rd W 0 W.heap.size 3 v zs.length (zs.flatMap plCells) := by
  obtain ⟨zs, hr, _⟩ := rd_of_trod plCells (fun _ => True) hC (by omega) (fun _ => rfl) (fun n cs' y hy _ => by obtain ⟨z, hz⟩ := dec_pl he hC e0 e1 o0 o1 c0 c1 hp ge0 ge1 go0 go1 gc0 gc1 u0 u1 u2 hy; exact ⟨z, hz, trivial⟩) ht h hlt
  exact ⟨zs, hr⟩
theorem open_asm {ta t e tp t2 t0 t1 : TypeId} {r : Reach} {b0 : Nat} {v : Value} {d : DataW H} {ps : List MemPlace} {fa f0 f1 g0 g1 : Field} (hta : P.underlying ta = some (.struct #[fa])) (hCa : P.cellsOf ta = 1) (ea : fa.type = t) (oa : fa.offset = 0) (ca : P.cellsOf t = 1)
    (ht : P.underlying t = some (.slice e)) (he : P.underlying e = some (.struct #[f0, f1])) (hC : P.cellsOf e = 3)
    (e0 : f0.type = tp) (e1 : f1.type = t2) (o0 : f0.offset = 0) (o1 : f1.offset = 2) (c0 : P.cellsOf tp = 2) (c1 : P.cellsOf t2 = 1) (hp : P.underlying tp = some (.struct #[g0, g1]))
    (ge0 : g0.type = t0) (ge1 : g1.type = t1) (go0 : g0.offset = 0) (go1 : g1.offset = 1) (gc0 : P.cellsOf t0 = 1) (gc1 : P.cellsOf t1 = 1)
    (u0 : P.underlying t0 = some (.int .i64)) (u1 : P.underlying t1 = some (.int .i64)) (u2 : P.underlying t2 = some (.int .i64))
    (hv : Value.okWide P W r b0 ta v) (h : DataW.Trod enc P W 0 spare held ta v d ps) (hlt : ∀ x ∈ ps, x.block < W.heap.size) :
    ∃ (u : Value) (zs : List ((Int × Int) × Int)), v = .agg #[u] ∧ Rd W 0 W.heap.size 3 u zs.length (zs.flatMap plCells) := by
  obtain ⟨cs, rfl, _⟩ := okWide_struct hta hv
  obtain ⟨n, hn⟩ := h
  obtain ⟨y0, m, hx, hl, h0⟩ := trod_struct1 hta hn
  rw [hCa] at hl
  obtain ⟨l⟩ := cs
  simp only [Value.cells] at hl h0
  match l, hl with
  | [a], _ =>
    rw [ea, oa, ca] at h0
    have h0' : DataW.trod enc P W 0 spare held m t [a] = some y0 := by simpa using h0
    have hps : ps = y0.2 := congrArg Prod.snd hx
    obtain ⟨zs, hr⟩ := open_pls_rd ht he hC e0 e1 o0 o1 c0 c1 hp ge0 ge1 go0 go1 gc0 gc1 u0 u1 u2 h0' (fun p hp => hlt p (by rw [hps]; exact hp))
    exact ⟨a, zs, rfl, hr⟩
end

theorem keepB2 {w1 w2 : World} {b b' : Nat} {x y : Value} (n : New w1 w2) (h0 : BoxV w1 b [x]) (h1 : BoxV w1 b' [y]) : w2.cell? ⟨b, 0, none⟩ = some x ∧ w2.cell? ⟨b', 0, none⟩ = some y :=
  ⟨(h0.new n).at1.1, (h1.new n).at1.1⟩


/-- A call hands back an assembly in new memory. -/
def GivesAsm (w : World) (e : TypeId) (zs : List ((Int × Int) × Int)) (E : Ending) (w' : World) : Prop :=
  ∃ u, E = .returned (.agg #[u]) ∧ Own w' w.heap.size w'.heap.size e 3 u zs.length (zs.flatMap plCells) ∧ New w w'


set_option maxHeartbeats 1000000 in
theorem c_eqAssembly (lo hi lo' hi' : Nat) (v u : Value) (xs ys : List ((Int × Int) × Int)) (w : World) (h : Rd w lo hi 3 v xs.length (xs.flatMap plCells)) (h' : Rd w lo' hi' 3 u ys.length (ys.flatMap plCells)) :
    Calls Tryz.prog 8 #[.agg #[v], .agg #[u]] w fun e w' => e = .returned (.bool (eqL xs ys)) ∧ New w w' := by
  have HR := Lib.hid h
  have HS := Lib.hid h'
  obtain ⟨_, _, hh, A, c, rfl, _⟩ := h
  obtain ⟨_, _, hh', A', c', rfl, _⟩ := h'
  have n0 : New w ((w.alloc (.cells #[.slice A xs.length c] 29)).alloc (.cells #[.slice A' ys.length c'] 29)) := ((New.same w).box _).box _
  cases he : eqL xs ys
  all_goals
    have HE := Lib.hid he
    go_enter Tryz.func8, Tryz.ntmps8
    go_wp2_with (go_at_call 26; refine (c_eqPlacedS _ _ _ _ _ _ xs ys _ (HR.out.new n0) (HS.out.new n0)).mono ?_; rintro e w1 ⟨rfl, n1⟩)
    go_ret
    exact ⟨rfl, n0.step n1⟩

theorem c_eqAssembly_self (lo hi lo' hi' : Nat) (v u : Value) (xs : List ((Int × Int) × Int)) (w : World) (h : Rd w lo hi 3 v xs.length (xs.flatMap plCells)) (h' : Rd w lo' hi' 3 u xs.length (xs.flatMap plCells)) :
    Calls Tryz.prog 8 #[.agg #[v], .agg #[u]] w fun e w' => e = .returned (.bool true) ∧ New w w' := by
  have := c_eqAssembly lo hi lo' hi' v u xs xs w h h'
  rw [eqL_self] at this
  exact this

set_option maxHeartbeats 1000000 in
theorem c_markAssembly (lo hi : Nat) (v : Value) (n : Nat) (xs : List Value) (m : Int) (w : World) (h : Own w lo hi 85 3 v n xs) (h0 : 0 ≤ m) (h1 : m + ((n * 3 : Nat) : Int) ≤ 4611686018427387904) :
    Calls Tryz.prog 11 #[.agg #[v], .int .i64 m] w fun e w' => e = .returned (.int .i64 (m + ((n * 3 : Nat) : Int))) ∧ Own w' lo hi 85 3 v n ((marks m (n * 3)).map (Value.int .i64)) ∧ Fr lo hi w w' := by
  have HO := Lib.hid h
  obtain ⟨_, _, _, A, c, rfl, _⟩ := h.rd
  clear h
  have n0 : New w (w.alloc (.cells #[.slice A n c] 29)) := (New.same w).box _
  go_enter Tryz.func11, Tryz.ntmps11
  go_wp2_with (go_at_call 31; refine (c_markPlacedS lo hi _ n xs m _ (HO.out.new n0) h0 h1).mono ?_; rintro e w1 ⟨rfl, hP, f1⟩)
  go_ret
  exact ⟨rfl, hP, (Fr.of_new n0).trans f1⟩
set_option maxHeartbeats 1000000 in
theorem c_heldAssembly (lo hi : Nat) (v : Value) (n : Nat) (m : Int) (w : World) (h : Rd w lo hi 3 v n ((marks m (n * 3)).map (Value.int .i64))) (h0 : 0 ≤ m) (h1 : m + ((n * 3 : Nat) : Int) ≤ 4611686018427387904) :
    Calls Tryz.prog 12 #[.agg #[v], .int .i64 m] w fun e w' => e = .returned (.int .i64 (m + ((n * 3 : Nat) : Int))) ∧ New w w' := by
  have HR := Lib.hid h
  obtain ⟨_, _, _, A, c, rfl, _⟩ := h
  have n0 : New w (w.alloc (.cells #[.slice A n c] 29)) := (New.same w).box _
  go_enter Tryz.func12, Tryz.ntmps12
  go_wp2_with (go_at_call 32; refine (c_heldPlacedS lo hi _ n m _ (HR.out.new n0) h0 h1).mono ?_; rintro e w1 ⟨rfl, n1⟩)
  go_ret
  exact ⟨rfl, n0.step n1⟩


end Go.Proofs.YtcbifdfcllaaaaaGreatDoor
