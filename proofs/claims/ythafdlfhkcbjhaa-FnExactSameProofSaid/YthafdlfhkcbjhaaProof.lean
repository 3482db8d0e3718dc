/- Proofs (five fields): how they lie in memory; the laws' own helpers on them; both sides of SameProof. -/
import Derived.Test.YthafdlfhkcbjhaaIRows
import Derived.Test.YthafdlfhkcbjhaaBox
namespace Go.Proofs.Ythafdlfhkcbjhaa
open Go.RowKit Go.ChangeShapes Go.WideShapes Go.Deep
set_option linter.unusedVariables false
set_option linter.unusedSimpArgs false

theorem BoxV.five {w : World} {b : Nat} {x y z u v : Value} (h1 : w.cell? ⟨b, 0, none⟩ = some x) (h2 : w.cell? ⟨b, 1, none⟩ = some y) (h3 : w.cell? ⟨b, 2, none⟩ = some z) (h4 : w.cell? ⟨b, 3, none⟩ = some u) (h6 : w.cell? ⟨b, 4, none⟩ = some v) (f1 : w.frozen? ⟨b, 0, none⟩ = false) (f2 : w.frozen? ⟨b, 1, none⟩ = false) (f3 : w.frozen? ⟨b, 2, none⟩ = false) (f4 : w.frozen? ⟨b, 3, none⟩ = false) (f5 : w.frozen? ⟨b, 4, none⟩ = false) (h5 : b < w.heap.size) : BoxV w b [x, y, z, u, v] := by
  refine ⟨fun j v hj => ?_, fun j hj => ?_, h5⟩
  · match j, hj with
    | 0, hj => simp at hj; subst hj; exact h1
    | 1, hj => simp at hj; subst hj; exact h2
    | 2, hj => simp at hj; subst hj; exact h3
    | 3, hj => simp at hj; subst hj; exact h4
    | 4, hj => simp at hj; subst hj; exact h6
  · match j, hj with
    | 0, _ => exact f1
    | 1, _ => exact f2
    | 2, _ => exact f3
    | 3, _ => exact f4
    | 4, _ => exact f5
theorem BoxV.at5 {w : World} {b : Nat} {x y z u v : Value} (h : BoxV w b [x, y, z, u, v]) : (w.cell? ⟨b, 0, none⟩ = some x ∧ w.cell? ⟨b, 1, none⟩ = some y ∧ w.cell? ⟨b, 2, none⟩ = some z ∧ w.cell? ⟨b, 3, none⟩ = some u ∧ w.cell? ⟨b, 4, none⟩ = some v) ∧ (w.frozen? ⟨b, 0, none⟩ = false ∧ w.frozen? ⟨b, 1, none⟩ = false ∧ w.frozen? ⟨b, 2, none⟩ = false ∧ w.frozen? ⟨b, 3, none⟩ = false ∧ w.frozen? ⟨b, 4, none⟩ = false) ∧ b < w.heap.size :=
  ⟨⟨h.cell 0 x rfl, h.cell 1 y rfl, h.cell 2 z rfl, h.cell 3 u rfl, h.cell 4 v rfl⟩, ⟨h.free 0 (by simp), h.free 1 (by simp), h.free 2 (by simp), h.free 3 (by simp), h.free 4 (by simp)⟩, h.lt⟩
theorem BoxV.put5 {w : World} {b : Nat} {cs : List Value} (h : BoxV w b cs) (hl : cs.length = 5) (j : Nat) (hj : j < 5) (p : Value) : BoxV (w.setCell ⟨b, j, none⟩ p) b (cs.set j p) := by
  match cs, hl with
  | [x, y, z, u, v], _ =>
    obtain ⟨⟨a1, a2, a3, a4, a5⟩, ⟨b1, b2, b3, b4, b5⟩, l⟩ := h.at5
    match j, hj with
    | 0, _ => exact .five (by simp [go_sem, *]) (by simp [go_sem, *]) (by simp [go_sem, *]) (by simp [go_sem, *]) (by simp [go_sem, *]) (by simp [go_sem, *]) (by simp [go_sem, *]) (by simp [go_sem, *]) (by simp [go_sem, *]) (by simp [go_sem, *]) (by simp [go_sem, *])
    | 1, _ => exact .five (by simp [go_sem, *]) (by simp [go_sem, *]) (by simp [go_sem, *]) (by simp [go_sem, *]) (by simp [go_sem, *]) (by simp [go_sem, *]) (by simp [go_sem, *]) (by simp [go_sem, *]) (by simp [go_sem, *]) (by simp [go_sem, *]) (by simp [go_sem, *])
    | 2, _ => exact .five (by simp [go_sem, *]) (by simp [go_sem, *]) (by simp [go_sem, *]) (by simp [go_sem, *]) (by simp [go_sem, *]) (by simp [go_sem, *]) (by simp [go_sem, *]) (by simp [go_sem, *]) (by simp [go_sem, *]) (by simp [go_sem, *]) (by simp [go_sem, *])
    | 3, _ => exact .five (by simp [go_sem, *]) (by simp [go_sem, *]) (by simp [go_sem, *]) (by simp [go_sem, *]) (by simp [go_sem, *]) (by simp [go_sem, *]) (by simp [go_sem, *]) (by simp [go_sem, *]) (by simp [go_sem, *]) (by simp [go_sem, *]) (by simp [go_sem, *])
    | 4, _ => exact .five (by simp [go_sem, *]) (by simp [go_sem, *]) (by simp [go_sem, *]) (by simp [go_sem, *]) (by simp [go_sem, *]) (by simp [go_sem, *]) (by simp [go_sem, *]) (by simp [go_sem, *]) (by simp [go_sem, *]) (by simp [go_sem, *]) (by simp [go_sem, *])
theorem keepV5 {w1 w2 : World} {b0 b1 : Nat} {x0 y0 z0 u0 v0 x1 y1 z1 u1 v1 : Value} (n : New w1 w2) (h0 : BoxV w1 b0 [x0, y0, z0, u0, v0]) (h1 : BoxV w1 b1 [x1, y1, z1, u1, v1]) :
    w2.cell? ⟨b0, 0, none⟩ = some x0 ∧ w2.cell? ⟨b0, 1, none⟩ = some y0 ∧ w2.cell? ⟨b0, 2, none⟩ = some z0 ∧ w2.cell? ⟨b0, 3, none⟩ = some u0 ∧ w2.cell? ⟨b0, 4, none⟩ = some v0 ∧ w2.cell? ⟨b1, 0, none⟩ = some x1 ∧ w2.cell? ⟨b1, 1, none⟩ = some y1 ∧ w2.cell? ⟨b1, 2, none⟩ = some z1 ∧ w2.cell? ⟨b1, 3, none⟩ = some u1 ∧ w2.cell? ⟨b1, 4, none⟩ = some v1 :=
  ⟨(h0.new n).cell 0 _ rfl, (h0.new n).cell 1 _ rfl, (h0.new n).cell 2 _ rfl, (h0.new n).cell 3 _ rfl, (h0.new n).cell 4 _ rfl, (h1.new n).cell 0 _ rfl, (h1.new n).cell 1 _ rfl, (h1.new n).cell 2 _ rfl, (h1.new n).cell 3 _ rfl, (h1.new n).cell 4 _ rfl⟩

/-- a proof's four rows are read -/
structure RdF (w : World) (lo hi : Nat) (sq ot pt fl : Value) (xs ys : List ((Int × Int) × Int)) (zs : List Int) (F : List (List Int)) (sv : List Value) : Prop where
  seq : Rd w lo hi 3 sq xs.length (xs.flatMap plCells)
  oth : Rd w lo hi 3 ot ys.length (ys.flatMap plCells)
  part : Rd w lo hi 1 pt zs.length (zs.map (Value.int .i64))
  flows : RdSS w lo hi fl F sv
section
variable {w w' : World} {lo hi : Nat} {sq ot pt fl : Value} {xs ys : List ((Int × Int) × Int)} {zs : List Int} {F : List (List Int)} {sv : List Value}
theorem RdF.new (h : RdF w lo hi sq ot pt fl xs ys zs F sv) (n : New w w') : RdF w' lo hi sq ot pt fl xs ys zs F sv := ⟨h.seq.new n, h.oth.new n, h.part.new n, h.flows.new n⟩
theorem RdF.rd (h : RdF w lo hi sq ot pt fl xs ys zs F sv) : RdF w lo hi sq ot pt fl xs ys zs F sv := h
theorem RdF.form (h : RdF w lo hi sq ot pt fl xs ys zs F sv) : ∃ A a B b C c D d, sq = .slice A xs.length a ∧ ot = .slice B ys.length b ∧ pt = .slice C zs.length c ∧ fl = .slice D F.length d := by
  obtain ⟨A, a, h1, _⟩ := rd_form h.seq
  obtain ⟨B, b, h2, _⟩ := rd_form h.oth
  obtain ⟨C, c, h3, _⟩ := rd_form h.part
  obtain ⟨D, d, h4, _⟩ := rd_form h.flows.outer
  exact ⟨A, a, B, b, C, c, D, d, h1, h2, h3, h4⟩
end
def chN (a : Int) (f : Int → Int) : Int := if a < 0 then -1 else f a
theorem chN_yes {a : Int} {f : Int → Int} (h : ¬ a < 0) : chN a f = f a := if_neg h
theorem chN_no {a : Int} {f : Int → Int} (h : a < 0) : chN a f = -1 := if_pos h
/-- what is left behind the count of a proof -/
def szPf (l : Int) (a b c : Nat) (F : List (List Int)) : Int := chN (szL l a) fun l1 => chN (szL l1 b) fun l2 => chN (szN l2 c) fun l3 => chN (szR szI1 l3 F) fun l4 => l4
theorem szSS_le {l : Int} {F : List (List Int)} (h : 0 ≤ szR szI1 l F) : szR szI1 l F ≤ l ∧ (F.length : Int) ≤ l ∧ ∀ x ∈ F, (x.length : Int) ≤ l := by
  have key : ∀ (F : List (List Int)) (l : Int), 0 ≤ szF szI1 l F → szF szI1 l F ≤ l ∧ ∀ x ∈ F, (x.length : Int) ≤ l := by
    intro F
    induction F with
    | nil => intro l h; exact ⟨Int.le_refl _, fun x hx => by cases hx⟩
    | cons x r ih =>
      intro l h
      unfold szF at h ⊢
      split at h
      · omega
      · rename_i hh
        rw [if_neg hh]
        obtain ⟨h1, h2⟩ := szI1_le l x (by omega)
        obtain ⟨h3, h4⟩ := ih _ h
        refine ⟨by omega, fun y hy => ?_⟩
        rcases List.mem_cons.1 hy with rfl | hy
        · exact h2
        · have := h4 y hy; omega
  unfold szR at *
  split at h
  · omega
  · rename_i hh
    rw [if_neg hh]
    obtain ⟨h1, h2⟩ := szN_le l (F.length : Int) (by omega) (by omega)
    obtain ⟨h3, h4⟩ := key _ _ h
    exact ⟨by omega, h2, fun x hx => by have := h4 x hx; omega⟩
theorem szL_le {l n : Int} (hn : 0 ≤ n) (h : 0 ≤ szL l n) : szL l n ≤ l ∧ n ≤ l := by unfold szL at *; split at h <;> rename_i hh <;> simp [hh] <;> omega
theorem szPf_le {l : Int} {a b c : Nat} {F : List (List Int)} (h : 0 ≤ szPf l a b c F) : szPf l a b c F ≤ l ∧ (a : Int) ≤ l ∧ (b : Int) ≤ l ∧ (c : Int) ≤ l ∧ (F.length : Int) ≤ l ∧ ∀ x ∈ F, (x.length : Int) ≤ l := by
  unfold szPf at *
  by_cases h1 : szL l a < 0
  · rw [chN_no h1] at h; omega
  · rw [chN_yes h1] at h ⊢
    have k1 := szL_le (l := l) (n := (a : Int)) (by omega) (by omega)
    by_cases h2 : szL (szL l a) b < 0
    · rw [chN_no h2] at h; omega
    · rw [chN_yes h2] at h ⊢
      have k2 := szL_le (l := szL l a) (n := (b : Int)) (by omega) (by omega)
      by_cases h3 : szN (szL (szL l a) b) c < 0
      · rw [chN_no h3] at h; omega
      · rw [chN_yes h3] at h ⊢
        have k3 := szN_le (szL (szL l a) b) (c : Int) (by omega) (by omega)
        by_cases h4 : szR szI1 (szN (szL (szL l a) b) c) F < 0
        · rw [chN_no h4] at h; omega
        · rw [chN_yes h4] at h ⊢
          obtain ⟨k4, k5, k6⟩ := szSS_le (l := szN (szL (szL l a) b) c) (F := F) (by omega)
          exact ⟨by omega, by omega, by omega, by omega, by omega, fun x hx => by have := k6 x hx; omega⟩
theorem chN_lo {a : Int} {f : Int → Int} (hf : 0 ≤ a → f a < 0 → f a = -1) (h : chN a f < 0) : chN a f = -1 := by
  by_cases ha : a < 0
  · exact chN_no ha
  · rw [chN_yes ha] at h ⊢; exact hf (by omega) h
theorem szPf_lo (l : Int) (a b c : Nat) (F : List (List Int)) (h : szPf l a b c F < 0) : szPf l a b c F = -1 := by
  unfold szPf at *
  refine chN_lo (fun _ h => ?_) h
  refine chN_lo (fun _ h => ?_) h
  refine chN_lo (fun _ h => ?_) h
  refine chN_lo (fun h0 h => ?_) h
  omega
/-- two proofs are one -/
def pfEq (k k' : Int) (xs xs' ys ys' : List ((Int × Int) × Int)) (zs zs' : List Int) (F F' : List (List Int)) : Bool := decide (k = k') && (eqL xs xs' && (eqL ys ys' && (eqL zs zs' && eqL F F')))
section
variable {H : Type} {enc : TypeId × Value → H} {P : Program} {W : World} {spare : Nat → Bool} {held : Bool}
theorem dec_pl {t tp t2 t0 t1 : TypeId} {n : Nat} {cs : List Value} {y : DataW H × List MemPlace} {f0 f1 g0 g1 : Field} (ht : P.underlying t = some (.struct #[f0, f1])) (hC : P.cellsOf t = 3)
    (e0 : f0.type = tp) (e1 : f1.type = t2) (o0 : f0.offset = 0) (o1 : f1.offset = 2) (c0 : P.cellsOf tp = 2) (c1 : P.cellsOf t2 = 1) (hp : P.underlying tp = some (.struct #[g0, g1]))
    (ge0 : g0.type = t0) (ge1 : g1.type = t1) (go0 : g0.offset = 0) (go1 : g1.offset = 1) (gc0 : P.cellsOf t0 = 1) (gc1 : P.cellsOf t1 = 1)
    (u0 : P.underlying t0 = some (.int .i64)) (u1 : P.underlying t1 = some (.int .i64)) (u2 : P.underlying t2 = some (.int .i64)) (h : DataW.trod enc P W 0 spare held n t cs = some y) :
    ∃ p : (Int × Int) × Int, cs = plCells p := by
  obtain ⟨y0, y1, m, _, hl, h0, h1⟩ := trod_struct2 ht h
  rw [hC] at hl
  match cs, hl with
  | [a, b, c], _ =>
    rw [e0, o0, c0] at h0
    rw [e1, o1, c1] at h1
    obtain ⟨x, ex, _⟩ := dec_ii hp c0 ge0 ge1 go0 go1 gc0 gc1 u0 u1 h0
    obtain ⟨z, ez, _⟩ := dec_int u2 h1
    simp at ex ez
    obtain ⟨rfl, rfl⟩ := ex
    subst ez
    exact ⟨(x, z), rfl⟩
theorem open_pls_rd {t e tp t2 t0 t1 : TypeId} {fuel : Nat} {v : Value} {x : DataW H × List MemPlace} {f0 f1 g0 g1 : Field} (ht : P.underlying t = some (.slice e)) (he : P.underlying e = some (.struct #[f0, f1])) (hC : P.cellsOf e = 3)
    (e0 : f0.type = tp) (e1 : f1.type = t2) (o0 : f0.offset = 0) (o1 : f1.offset = 2) (c0 : P.cellsOf tp = 2) (c1 : P.cellsOf t2 = 1) (hp : P.underlying tp = some (.struct #[g0, g1]))
    (ge0 : g0.type = t0) (ge1 : g1.type = t1) (go0 : g0.offset = 0) (go1 : g1.offset = 1) (gc0 : P.cellsOf t0 = 1) (gc1 : P.cellsOf t1 = 1)
    (u0 : P.underlying t0 = some (.int .i64)) (u1 : P.underlying t1 = some (.int .i64)) (u2 : P.underlying t2 = some (.int .i64)) (h : DataW.trod enc P W 0 spare held fuel t [v] = some x) (hlt : ∀ p ∈ x.2, p.block < W.heap.size) :
    ∃ zs : List ((Int × Int) × Int), Rd W 0 W.heap.size 3 v zs.length (zs.flatMap plCells) := by
  obtain ⟨zs, hr, _⟩ := rd_of_trod plCells (fun _ => True) hC (by omega) (fun _ => rfl) (fun n cs' y hy _ => by obtain ⟨z, hz⟩ := dec_pl he hC e0 e1 o0 o1 c0 c1 hp ge0 ge1 go0 go1 gc0 gc1 u0 u1 u2 hy; exact ⟨z, hz, trivial⟩) ht h hlt
  exact ⟨zs, hr⟩
theorem open_rowsI {t e te : TypeId} {fuel : Nat} {v : Value} {x : DataW H × List MemPlace} (ht : P.underlying t = some (.slice e)) (he : P.underlying e = some (.slice te)) (ue : P.underlying te = some (.int .i64)) (cp : P.cellsOf e = 1) (ce : P.cellsOf te = 1)
    (h : DataW.trod enc P W 0 spare held fuel t [v] = some x) (hlt : ∀ p ∈ x.2, p.block < W.heap.size) : ∃ (F : List (List Int)) (sv : List Value), RdSS W 0 W.heap.size v F sv := by
  obtain ⟨F, sv, h, _⟩ := rdn_of_trod ssM (fun l => l) (fun _ => True) cp (by omega) (fun _ _ => rfl) (fun n cs' y hy hl' => by
    obtain ⟨u, hu⟩ : ∃ u, cs' = [u] := by rcases DataW.trod_slice he hy with ⟨h, _⟩ | ⟨a, len, cap, _, _, _, _, h, _⟩ <;> exact ⟨_, h⟩
    subst hu
    · obtain ⟨zs, hr, _⟩ := rd_of_trod (fun z => [Value.int .i64 z]) (fun _ => True) ce (by omega) (fun _ => rfl) (fun n cs' y hy _ => by obtain ⟨z, hz, _⟩ := dec_int ue hy; exact ⟨z, hz, trivial⟩) he hy hl'
      exact ⟨zs, u, rfl, trivial, by rw [← flat_one]; exact hr⟩) ht h hlt
  exact ⟨F, sv, h⟩
theorem open_proof {ty tq te tp tr tw ti : TypeId} {r : Reach} {b0 : Nat} {v : Value} {d : DataW H} {ps : List MemPlace} {y0 y1 y2 y3 y4 p0 p1 q0 q1 : Field} (hty : P.underlying ty = some (.struct #[y0, y1, y2, y3, y4])) (hCy : P.cellsOf ty = 5)
    (e0 : y0.type = ti) (e1 : y1.type = tq) (e2 : y2.type = tq) (e3 : y3.type = tr) (e4 : y4.type = tw) (o0 : y0.offset = 0) (o1 : y1.offset = 1) (o2 : y2.offset = 2) (o3 : y3.offset = 3) (o4 : y4.offset = 4)
    (hto : P.underlying tq = some (.slice te)) (hte : P.underlying te = some (.struct #[p0, p1])) (hCp : P.cellsOf te = 3)
    (pe0 : p0.type = tp) (pe1 : p1.type = ti) (po0 : p0.offset = 0) (po1 : p1.offset = 2) (cp : P.cellsOf tp = 2) (hp : P.underlying tp = some (.struct #[q0, q1]))
    (qe0 : q0.type = ti) (qe1 : q1.type = ti) (qo0 : q0.offset = 0) (qo1 : q1.offset = 1) (ui : P.underlying ti = some (.int .i64)) (ci : P.cellsOf ti = 1)
    (ur : P.underlying tr = some (.slice ti)) (uw : P.underlying tw = some (.slice tr)) (cr : P.cellsOf tr = 1) (co : P.cellsOf tq = 1) (cw : P.cellsOf tw = 1)
    (hv : Value.okWide P W r b0 ty v) (h : DataW.Trod enc P W 0 spare held ty v d ps) (hlt : ∀ x ∈ ps, x.block < W.heap.size) :
    ∃ (k : Int) (sq ot pt fl : Value) (xs ys : List ((Int × Int) × Int)) (zs : List Int) (F : List (List Int)) (sv : List Value), v = .agg #[.int .i64 k, sq, ot, pt, fl] ∧ RdF W 0 W.heap.size sq ot pt fl xs ys zs F sv := by
  obtain ⟨cs', rfl, _⟩ := okWide_struct hty hv
  obtain ⟨n, hn⟩ := h
  obtain ⟨xx, m, _, hx, hl, hlen, hf⟩ := DataW.trod_struct hty hn
  rw [hCy] at hl
  obtain ⟨l⟩ := cs'
  simp only [Value.cells] at hl hf
  match xx, hlen, l, hl with
  | [x0, x1, x2, x3, x4], _, [a, b, c, g, z], _ =>
    have h0 := hf 0 y0 rfl
    have h1 := hf 1 y1 rfl
    have h2 := hf 2 y2 rfl
    have h3 := hf 3 y3 rfl
    have h4 := hf 4 y4 rfl
    rw [e0, o0, ci] at h0
    rw [e1, o1, co] at h1
    rw [e2, o2, co] at h2
    rw [e3, o3, cr] at h3
    rw [e4, o4, cw] at h4
    have h0' : DataW.trod enc P W 0 spare held m ti [a] = some x0 := by simpa using h0
    have h1' : DataW.trod enc P W 0 spare held m tq [b] = some x1 := by simpa using h1
    have h2' : DataW.trod enc P W 0 spare held m tq [c] = some x2 := by simpa using h2
    have h3' : DataW.trod enc P W 0 spare held m tr [g] = some x3 := by simpa using h3
    have h4' : DataW.trod enc P W 0 spare held m tw [z] = some x4 := by simpa using h4
    have hps : ps = x0.2 ++ (x1.2 ++ (x2.2 ++ (x3.2 ++ x4.2))) := by have := congrArg (fun q => q.2) hx; simpa using this
    obtain ⟨k, ek, hk⟩ := dec_int ui h0'
    simp at ek
    subst ek
    obtain ⟨xs, r1⟩ := open_pls_rd hto hte hCp pe0 pe1 po0 po1 cp ci hp qe0 qe1 qo0 qo1 ci ci ui ui ui h1' (fun p hp => hlt p (by rw [hps]; simp [hp]))
    obtain ⟨ys, r2⟩ := open_pls_rd hto hte hCp pe0 pe1 po0 po1 cp ci hp qe0 qe1 qo0 qo1 ci ci ui ui ui h2' (fun p hp => hlt p (by rw [hps]; simp [hp]))
    obtain ⟨zs, r3, _⟩ := rd_of_trod (fun z => [Value.int .i64 z]) (fun _ => True) ci (by omega) (fun _ => rfl) (fun n cs' y hy _ => by obtain ⟨z, hz, _⟩ := dec_int ui hy; exact ⟨z, hz, trivial⟩) ur h3' (fun p hp => hlt p (by rw [hps]; simp [hp]))
    obtain ⟨F, sv, r4⟩ := open_rowsI uw ur ui cr ci h4' (fun p hp => hlt p (by rw [hps]; simp [hp]))
    exact ⟨k, b, c, g, z, xs, ys, zs, F, sv, rfl, ⟨r1, r2, by rw [← flat_one]; exact r3, r4⟩⟩
end
set_option maxHeartbeats 4000000 in
theorem c_szProof (lo hi : Nat) (sq ot pt fl : Value) (xs ys : List ((Int × Int) × Int)) (zs : List Int) (F : List (List Int)) (sv : List Value) (k l : Int) (w : World) (h : RdF w lo hi sq ot pt fl xs ys zs F sv) (h0 : 0 ≤ l) (h1 : l ≤ 1048576) :
    Calls Try.prog 17 #[.agg #[.int .i64 k, sq, ot, pt, fl], .int .i64 l] w fun e w' => e = .returned (.int .i64 (szPf l xs.length ys.length zs.length F)) ∧ New w w' := by
  have hm1 := h.seq.2.1
  have hm2 := h.oth.2.1
  have hm3 := h.part.2.1
  obtain ⟨A, a, B, b, C, c, D, d, rfl, rfl, rfl, rfl⟩ := h.form
  have HH := Lib.hid h
  clear h
  have n0 : New w (w.alloc (.cells #[.int .i64 k, .slice A xs.length a, .slice B ys.length b, .slice C zs.length c, .slice D F.length d] 36)) := (New.same w).box _
  have B0 : BoxV (w.alloc (.cells #[.int .i64 k, .slice A xs.length a, .slice B ys.length b, .slice C zs.length c, .slice D F.length d] 36)) w.heap.size [.int .i64 k, .slice A xs.length a, .slice B ys.length b, .slice C zs.length c, .slice D F.length d] := .five (by go_simp) (by go_simp) (by go_simp) (by go_simp) (by go_simp) (by go_simp) (by go_simp) (by go_simp) (by go_simp) (by go_simp)  (by simp)
  have HF := Lib.hid (fun l3 (q0 : 0 ≤ l3) (q1 : l3 ≤ 1048576) => c_szSS _ _ _ F sv l3 _ (HH.out.flows.new n0) q0 q1)
  obtain ⟨L1, E1⟩ : ∃ L, szL l xs.length = L := ⟨_, rfl⟩
  have HS1 := Lib.hid (show ∀ w', Calls Try.prog 37 #[.slice A xs.length a, .int .i64 l] w' fun e w'' => e = .returned (.int .i64 L1) ∧ w' = w'' from fun w' => E1 ▸ c_szOptionS A xs.length a l w' hm1 h0 h1)
  by_cases q1 : L1 < 0
  · have E := Lib.hid (show szPf l xs.length ys.length zs.length F = -1 by unfold szPf; rw [E1, chN_no q1])
    clear E1
    go_enter Try.func17, Try.ntmps17
    go_wp2_with (go_at_call 37; refine (HS1.out _).mono ?_; rintro e w2 ⟨rfl, rfl⟩)
    go_ret
    exact ⟨ret_int E.out.symm, n0⟩
  have k1 := (szL_le (l := l) (n := (xs.length : Int)) (by omega) (by omega)).1
  rw [E1] at k1
  obtain ⟨L2, E2⟩ : ∃ L, szL L1 ys.length = L := ⟨_, rfl⟩
  have HS2 := Lib.hid (show ∀ w', Calls Try.prog 37 #[.slice B ys.length b, .int .i64 L1] w' fun e w'' => e = .returned (.int .i64 L2) ∧ w' = w'' from fun w' => E2 ▸ c_szOptionS B ys.length b L1 w' hm2 (by omega) (by omega))
  by_cases q2 : L2 < 0
  · have E := Lib.hid (show szPf l xs.length ys.length zs.length F = -1 by unfold szPf; rw [E1, chN_yes q1, E2, chN_no q2])
    clear E1 E2
    go_enter Try.func17, Try.ntmps17
    go_wp2_with fail
    refine (HS1.out _).mono ?_
    rintro e w2 ⟨rfl, rfl⟩
    go_wp2_with fail
    refine (HS2.out _).mono ?_
    rintro e w2 ⟨rfl, rfl⟩
    go_wp2
    go_ret
    exact ⟨ret_int E.out.symm, n0⟩
  have k2 := (szL_le (l := L1) (n := (ys.length : Int)) (by omega) (by omega)).1
  rw [E2] at k2
  obtain ⟨L3, E3⟩ : ∃ L, szN L2 zs.length = L := ⟨_, rfl⟩
  have HS3 := Lib.hid (show ∀ w', Calls Try.prog 38 #[.slice C zs.length c, .int .i64 L2] w' fun e w'' => e = .returned (.int .i64 L3) ∧ w' = w'' from fun w' => E3 ▸ c_szI C zs.length c L2 w' hm3 (by omega) (by omega))
  by_cases q3 : L3 < 0
  · have E := Lib.hid (show szPf l xs.length ys.length zs.length F = -1 by unfold szPf; rw [E1, chN_yes q1, E2, chN_yes q2, E3, chN_no q3])
    clear E1 E2 E3
    go_enter Try.func17, Try.ntmps17
    go_wp2_with fail
    refine (HS1.out _).mono ?_
    rintro e w2 ⟨rfl, rfl⟩
    go_wp2_with fail
    refine (HS2.out _).mono ?_
    rintro e w2 ⟨rfl, rfl⟩
    go_wp2_with fail
    refine (HS3.out _).mono ?_
    rintro e w2 ⟨rfl, rfl⟩
    go_wp2
    go_ret
    exact ⟨ret_int E.out.symm, n0⟩
  have k3 := (szN_le L2 (zs.length : Int) (by omega) (by omega)).1
  rw [E3] at k3
  have HS4 := Lib.hid (HF.out L3 (by omega) (by omega))
  obtain ⟨L4, E4⟩ : ∃ L, szR szI1 L3 F = L := ⟨_, rfl⟩
  rw [E4] at HS4
  have E := Lib.hid (show szPf l xs.length ys.length zs.length F = chN L4 (fun l4 => l4) by unfold szPf; rw [E1, chN_yes q1, E2, chN_yes q2, E3, chN_yes q3, E4])
  clear E1 E2 E3 E4
  by_cases q4 : L4 < 0
  · rw [chN_no q4] at E
    go_enter Try.func17, Try.ntmps17
    go_wp2_with fail
    refine (HS1.out _).mono ?_
    rintro e w2 ⟨rfl, rfl⟩
    go_wp2_with fail
    refine (HS2.out _).mono ?_
    rintro e w2 ⟨rfl, rfl⟩
    go_wp2_with fail
    refine (HS3.out _).mono ?_
    rintro e w2 ⟨rfl, rfl⟩
    go_wp2_with fail
    refine HS4.out.mono ?_
    rintro e w2 ⟨rfl, n2⟩
    go_wp2
    go_ret
    exact ⟨ret_int E.out.symm, n0.step n2⟩
  · rw [chN_yes q4] at E
    go_enter Try.func17, Try.ntmps17
    go_wp2_with fail
    refine (HS1.out _).mono ?_
    rintro e w2 ⟨rfl, rfl⟩
    go_wp2_with fail
    refine (HS2.out _).mono ?_
    rintro e w2 ⟨rfl, rfl⟩
    go_wp2_with fail
    refine (HS3.out _).mono ?_
    rintro e w2 ⟨rfl, rfl⟩
    go_wp2_with fail
    refine HS4.out.mono ?_
    rintro e w2 ⟨rfl, n2⟩
    go_wp2
    go_ret
    exact ⟨ret_int E.out.symm, n0.step n2⟩
set_option maxHeartbeats 4000000 in
theorem c_eqProof_self (lo hi lo' hi' : Nat) (sq ot pt fl sq' ot' pt' fl' : Value) (xs ys : List ((Int × Int) × Int)) (zs : List Int) (F : List (List Int)) (sv sv' : List Value) (k : Int) (w : World) (h : RdF w lo hi sq ot pt fl xs ys zs F sv) (h' : RdF w lo' hi' sq' ot' pt' fl' xs ys zs F sv') :
    Calls Try.prog 21 #[.agg #[.int .i64 k, sq, ot, pt, fl], .agg #[.int .i64 k, sq', ot', pt', fl']] w fun e w' => e = .returned (.bool true) ∧ New w w' := by
  obtain ⟨A, a, B, b, C, c, D, d, rfl, rfl, rfl, rfl⟩ := h.form
  obtain ⟨A', a', B', b', C', c', D', d', rfl, rfl, rfl, rfl⟩ := h'.form
  have HH := Lib.hid h
  have HK := Lib.hid h'
  clear h h'
  have n0 : New w ((w.alloc (.cells #[.int .i64 k, .slice A xs.length a, .slice B ys.length b, .slice C zs.length c, .slice D F.length d] 41)).alloc (.cells #[.int .i64 k, .slice A' xs.length a', .slice B' ys.length b', .slice C' zs.length c', .slice D' F.length d'] 41)) := ((New.same w).box _).box _
  have B0 : BoxV ((w.alloc (.cells #[.int .i64 k, .slice A xs.length a, .slice B ys.length b, .slice C zs.length c, .slice D F.length d] 41)).alloc (.cells #[.int .i64 k, .slice A' xs.length a', .slice B' ys.length b', .slice C' zs.length c', .slice D' F.length d'] 41)) w.heap.size [.int .i64 k, .slice A xs.length a, .slice B ys.length b, .slice C zs.length c, .slice D F.length d] := .five (by go_simp) (by go_simp) (by go_simp) (by go_simp) (by go_simp) (by go_simp) (by go_simp) (by go_simp) (by go_simp) (by go_simp)  (by simp <;> omega)
  have B1 : BoxV ((w.alloc (.cells #[.int .i64 k, .slice A xs.length a, .slice B ys.length b, .slice C zs.length c, .slice D F.length d] 41)).alloc (.cells #[.int .i64 k, .slice A' xs.length a', .slice B' ys.length b', .slice C' zs.length c', .slice D' F.length d'] 41)) (w.heap.size + 1) [.int .i64 k, .slice A' xs.length a', .slice B' ys.length b', .slice C' zs.length c', .slice D' F.length d'] := .five (by go_simp) (by go_simp) (by go_simp) (by go_simp) (by go_simp) (by go_simp) (by go_simp) (by go_simp) (by go_simp) (by go_simp)  (by simp <;> omega)
  have e3 : (k != k) = false := by simp
  go_enter Try.func21, Try.ntmps21
  go_wp2_with fail
  generalize ((w.alloc (.cells #[.int .i64 k, .slice A xs.length a, .slice B ys.length b, .slice C zs.length c, .slice D F.length d] 41)).alloc (.cells #[.int .i64 k, .slice A' xs.length a', .slice B' ys.length b', .slice C' zs.length c', .slice D' F.length d'] 41)) = W0 at *
  have G1 := c_eqOptionS _ _ _ _ _ _ xs xs _ (HH.out.seq.new n0) (HK.out.seq.new n0)
  rw [eqL_self] at G1
  refine G1.mono ?_
  rintro e w1 ⟨rfl, n1⟩
  have ⟨⟨x0, x1, x2, x3, x4⟩, _, l0⟩ := (B0.new n1).at5
  have ⟨⟨y0, y1, y2, y3, y4⟩, _, l1⟩ := (B1.new n1).at5
  go_wp2_with fail
  clear x0 x1 x2 x3 x4 y0 y1 y2 y3 y4
  have G2 := c_eqOptionS _ _ _ _ _ _ ys ys _ ((HH.out.oth.new n0).new n1) ((HK.out.oth.new n0).new n1)
  rw [eqL_self] at G2
  refine G2.mono ?_
  rintro e w2 ⟨rfl, n2⟩
  have n12 := n1.step n2
  have ⟨⟨x0, x1, x2, x3, x4⟩, _, l0⟩ := (B0.new n12).at5
  have ⟨⟨y0, y1, y2, y3, y4⟩, _, l1⟩ := (B1.new n12).at5
  go_wp2_with fail
  clear x0 x1 x2 x3 x4 y0 y1 y2 y3 y4
  have G3 := c_eqInt64S _ _ _ _ _ _ zs zs _ ((HH.out.part.new n0).new n12) ((HK.out.part.new n0).new n12)
  rw [eqL_self] at G3
  refine G3.mono ?_
  rintro e w3 ⟨rfl, n3⟩
  have n13 := n12.step n3
  have ⟨⟨x0, x1, x2, x3, x4⟩, _, l0⟩ := (B0.new n13).at5
  have ⟨⟨y0, y1, y2, y3, y4⟩, _, l1⟩ := (B1.new n13).at5
  go_wp2_with fail
  clear x0 x1 x2 x3 x4 y0 y1 y2 y3 y4
  have G4 := c_eqSS _ _ _ _ _ _ F F _ _ _ ((HH.out.flows.new n0).new n13) ((HK.out.flows.new n0).new n13)
  rw [eqL_self] at G4
  refine G4.mono ?_
  rintro e w4 ⟨rfl, n4⟩
  go_wp2
  go_ret
  exact ⟨rfl, (n0.step n13).step n4⟩
set_option maxHeartbeats 8000000 in
theorem c_toProof (lo hi : Nat) (sq ot pt fl : Value) (xs ys : List ((Int × Int) × Int)) (zs : List Int) (F : List (List Int)) (sv : List Value) (k : Int) (w : World) (h : RdF w lo hi sq ot pt fl xs ys zs F sv) (h1 : xs.length ≤ 1048576) (h2 : ys.length ≤ 1048576) (h3 : zs.length ≤ 1048576) (h4 : F.length ≤ 1048576) (h5 : ∀ x ∈ F, x.length ≤ 1048576) :
    Calls Try.prog 19 #[.agg #[.int .i64 k, sq, ot, pt, fl]] w fun e w' => ∃ sq' ot' pt' fl' sv', e = .returned (.agg #[.int .i64 k, sq', ot', pt', fl']) ∧ RdF w' 0 w'.heap.size sq' ot' pt' fl' xs ys zs F sv' ∧ New w w' := by
  obtain ⟨A, a, B, b, C, c, D, d, rfl, rfl, rfl, rfl⟩ := h.form
  have HH := Lib.hid h
  clear h
  have n0 : New w (((w.alloc (.cells #[.int .i64 k, .slice A xs.length a, .slice B ys.length b, .slice C zs.length c, .slice D F.length d] 36)).alloc (.cells #[.int .i64 0, .slice none 0 0, .slice none 0 0, .slice none 0 0, .slice none 0 0] 41)).alloc (.cells #[.int .i64 k, .slice none 0 0, .slice none 0 0, .slice none 0 0, .slice none 0 0] 41)) := (((New.same w).box _).box _).box _
  have C0 : BoxV (((w.alloc (.cells #[.int .i64 k, .slice A xs.length a, .slice B ys.length b, .slice C zs.length c, .slice D F.length d] 36)).alloc (.cells #[.int .i64 0, .slice none 0 0, .slice none 0 0, .slice none 0 0, .slice none 0 0] 41)).alloc (.cells #[.int .i64 k, .slice none 0 0, .slice none 0 0, .slice none 0 0, .slice none 0 0] 41)) w.heap.size [.int .i64 k, .slice A xs.length a, .slice B ys.length b, .slice C zs.length c, .slice D F.length d] := .five (by go_simp) (by go_simp) (by go_simp) (by go_simp) (by go_simp) (by go_simp) (by go_simp) (by go_simp) (by go_simp) (by go_simp)  (by simp <;> omega)
  have C1 : BoxV (((w.alloc (.cells #[.int .i64 k, .slice A xs.length a, .slice B ys.length b, .slice C zs.length c, .slice D F.length d] 36)).alloc (.cells #[.int .i64 0, .slice none 0 0, .slice none 0 0, .slice none 0 0, .slice none 0 0] 41)).alloc (.cells #[.int .i64 k, .slice none 0 0, .slice none 0 0, .slice none 0 0, .slice none 0 0] 41)) (w.heap.size + 1) [.int .i64 0, .slice none 0 0, .slice none 0 0, .slice none 0 0, .slice none 0 0] := .five (by go_simp) (by go_simp) (by go_simp) (by go_simp) (by go_simp) (by go_simp) (by go_simp) (by go_simp) (by go_simp) (by go_simp)  (by simp <;> omega)
  have D2 : BoxV (((w.alloc (.cells #[.int .i64 k, .slice A xs.length a, .slice B ys.length b, .slice C zs.length c, .slice D F.length d] 36)).alloc (.cells #[.int .i64 0, .slice none 0 0, .slice none 0 0, .slice none 0 0, .slice none 0 0] 41)).alloc (.cells #[.int .i64 k, .slice none 0 0, .slice none 0 0, .slice none 0 0, .slice none 0 0] 41)) (w.heap.size + 1 + 1) [.int .i64 k, .slice none 0 0, .slice none 0 0, .slice none 0 0, .slice none 0 0] := .five (by go_simp) (by go_simp) (by go_simp) (by go_simp) (by go_simp) (by go_simp) (by go_simp) (by go_simp) (by go_simp) (by go_simp)  (by simp <;> omega)
  have z3 : w.heap.size + 3 ≤ (((w.alloc (.cells #[.int .i64 k, .slice A xs.length a, .slice B ys.length b, .slice C zs.length c, .slice D F.length d] 36)).alloc (.cells #[.int .i64 0, .slice none 0 0, .slice none 0 0, .slice none 0 0, .slice none 0 0] 41)).alloc (.cells #[.int .i64 k, .slice none 0 0, .slice none 0 0, .slice none 0 0, .slice none 0 0] 41)).heap.size := by simp
  go_enter Try.func19, Try.ntmps19
  go_wp2_with fail
  generalize (((w.alloc (.cells #[.int .i64 k, .slice A xs.length a, .slice B ys.length b, .slice C zs.length c, .slice D F.length d] 36)).alloc (.cells #[.int .i64 0, .slice none 0 0, .slice none 0 0, .slice none 0 0, .slice none 0 0] 41)).alloc (.cells #[.int .i64 k, .slice none 0 0, .slice none 0 0, .slice none 0 0, .slice none 0 0] 41)) = W0 at *
  have N := n0
  refine (c_toOptionS lo hi _ xs _ (HH.out.seq.new N) h1).mono ?_
  rintro e w1 ⟨u1, rfl, hO1, n1⟩
  replace hO1 := hO1.rd
  have s1 := n1.size
  obtain ⟨A1, c1, rfl, _⟩ := rd_form hO1
  replace N := N.step n1
  replace C0 := C0.new n1
  replace C1 := C1.new n1
  replace D2 := D2.new n1
  have ⟨⟨x0, x1, x2, x3, x4⟩, ⟨f0, f1, f2, f3, f4⟩, l0⟩ := C0.at5
  have ⟨⟨v0, v1, v2, v3, v4⟩, ⟨k0, k1, k2, k3, k4⟩, l2⟩ := D2.at5
  go_wp2_with fail
  clear x0 x1 x2 x3 x4 f0 f1 f2 f3 f4 l0 v0 v1 v2 v3 v4 k0 k1 k2 k3 k4 l2
  have F1 := (Fr.refl (w.heap.size + 2) (w.heap.size + 3) w1).setCell (p := ⟨w.heap.size + 1 + 1, 1, none⟩) (by simp) (by simp <;> omega) (.slice A1 xs.length c1)
  replace N := N.fr F1 (by omega)
  replace C0 := C0.fr F1 (.inl (by omega))
  replace C1 := C1.fr F1 (.inl (by omega))
  replace hO1 := hO1.fr F1 (.inr (by omega))
  replace D2 := D2.put5 rfl 1 (by omega) (.slice A1 xs.length c1)
  simp only [List.set_cons_zero, List.set_cons_succ] at D2
  have t1 := F1.size
  clear F1
  generalize w1.setCell ⟨w.heap.size + 1 + 1, 1, none⟩ (.slice A1 xs.length c1) = W1 at *
  refine (c_toOptionS lo hi _ ys _ (HH.out.oth.new N) h2).mono ?_
  rintro e w2 ⟨u2, rfl, hO2, n2⟩
  replace hO2 := hO2.rd
  have s2 := n2.size
  obtain ⟨A2, c2, rfl, _⟩ := rd_form hO2
  replace hO1 := hO1.new n2
  replace N := N.step n2
  replace C0 := C0.new n2
  replace C1 := C1.new n2
  replace D2 := D2.new n2
  have ⟨⟨x0, x1, x2, x3, x4⟩, ⟨f0, f1, f2, f3, f4⟩, l0⟩ := C0.at5
  have ⟨⟨v0, v1, v2, v3, v4⟩, ⟨k0, k1, k2, k3, k4⟩, l2⟩ := D2.at5
  go_wp2_with fail
  clear x0 x1 x2 x3 x4 f0 f1 f2 f3 f4 l0 v0 v1 v2 v3 v4 k0 k1 k2 k3 k4 l2
  have F2 := (Fr.refl (w.heap.size + 2) (w.heap.size + 3) w2).setCell (p := ⟨w.heap.size + 1 + 1, 2, none⟩) (by simp) (by simp <;> omega) (.slice A2 ys.length c2)
  replace N := N.fr F2 (by omega)
  replace C0 := C0.fr F2 (.inl (by omega))
  replace C1 := C1.fr F2 (.inl (by omega))
  replace hO1 := hO1.fr F2 (.inr (by omega))
  replace hO2 := hO2.fr F2 (.inr (by omega))
  replace D2 := D2.put5 rfl 2 (by omega) (.slice A2 ys.length c2)
  simp only [List.set_cons_zero, List.set_cons_succ] at D2
  have t2 := F2.size
  clear F2
  generalize w2.setCell ⟨w.heap.size + 1 + 1, 2, none⟩ (.slice A2 ys.length c2) = W2 at *
  refine (c_toInt64S lo hi _ zs _ (HH.out.part.new N) h3).mono ?_
  rintro e w3 ⟨u3, rfl, hO3, n3⟩
  replace hO3 := hO3.rd
  have s3 := n3.size
  obtain ⟨A3, c3, rfl, _⟩ := rd_form hO3
  replace hO1 := hO1.new n3
  replace hO2 := hO2.new n3
  replace N := N.step n3
  replace C0 := C0.new n3
  replace C1 := C1.new n3
  replace D2 := D2.new n3
  have ⟨⟨x0, x1, x2, x3, x4⟩, ⟨f0, f1, f2, f3, f4⟩, l0⟩ := C0.at5
  have ⟨⟨v0, v1, v2, v3, v4⟩, ⟨k0, k1, k2, k3, k4⟩, l2⟩ := D2.at5
  go_wp2_with fail
  clear x0 x1 x2 x3 x4 f0 f1 f2 f3 f4 l0 v0 v1 v2 v3 v4 k0 k1 k2 k3 k4 l2
  have F3 := (Fr.refl (w.heap.size + 2) (w.heap.size + 3) w3).setCell (p := ⟨w.heap.size + 1 + 1, 3, none⟩) (by simp) (by simp <;> omega) (.slice A3 zs.length c3)
  replace N := N.fr F3 (by omega)
  replace C0 := C0.fr F3 (.inl (by omega))
  replace C1 := C1.fr F3 (.inl (by omega))
  replace hO1 := hO1.fr F3 (.inr (by omega))
  replace hO2 := hO2.fr F3 (.inr (by omega))
  replace hO3 := hO3.fr F3 (.inr (by omega))
  replace D2 := D2.put5 rfl 3 (by omega) (.slice A3 zs.length c3)
  simp only [List.set_cons_zero, List.set_cons_succ] at D2
  have t3 := F3.size
  clear F3
  generalize w3.setCell ⟨w.heap.size + 1 + 1, 3, none⟩ (.slice A3 zs.length c3) = W3 at *
  refine (c_toSS lo hi _ F sv _ (HH.out.flows.new N) h4 h5).mono ?_
  rintro e w4 ⟨u4, sv4, rfl, hO4, n4⟩
  have s4 := n4.size
  obtain ⟨A4, c4, rfl, _⟩ := rd_form hO4.outer
  replace hO1 := hO1.new n4
  replace hO2 := hO2.new n4
  replace hO3 := hO3.new n4
  replace N := N.step n4
  replace C0 := C0.new n4
  replace C1 := C1.new n4
  replace D2 := D2.new n4
  have ⟨⟨x0, x1, x2, x3, x4⟩, ⟨f0, f1, f2, f3, f4⟩, l0⟩ := C0.at5
  have ⟨⟨v0, v1, v2, v3, v4⟩, ⟨k0, k1, k2, k3, k4⟩, l2⟩ := D2.at5
  have ⟨⟨y0, y1, y2, y3, y4⟩, ⟨g0, g1, g2, g3, g4⟩, l1⟩ := C1.at5
  have HhO1 := Lib.hid hO1
  have HhO2 := Lib.hid hO2
  have HhO3 := Lib.hid hO3
  have HhO4 := Lib.hid hO4
  have NN := Lib.hid N
  clear hO1 hO2 hO3 hO4 N C0 C1 D2 n0 n1 n2 n3 n4
  go_wp2
  refine bodyPost_ret (v := .agg #[.int .i64 k, .slice A1 xs.length c1, .slice A2 ys.length c2, .slice A3 zs.length c3, .slice A4 F.length c4]) (by simp [results, Try.results19, go_sem, x0, x1, x2, x3, x4, y0, y1, y2, y3, y4, v0, v1, v2, v3, v4]) rfl ?_
  have FF := (((((((Fr.refl w.heap.size (w.heap.size + 3) w4).setCell (p := ⟨w.heap.size + 1 + 1, 4, none⟩) (by simp <;> omega) (by simp <;> omega) (.slice A4 F.length c4)).setCell (p := ⟨w.heap.size + 1, 0, none⟩) (by simp <;> omega) (by simp <;> omega) (.int .i64 k)).setCell (p := ⟨w.heap.size + 1, 1, none⟩) (by simp <;> omega) (by simp <;> omega) (.slice A1 xs.length c1)).setCell (p := ⟨w.heap.size + 1, 2, none⟩) (by simp <;> omega) (by simp <;> omega) (.slice A2 ys.length c2)).setCell (p := ⟨w.heap.size + 1, 3, none⟩) (by simp <;> omega) (by simp <;> omega) (.slice A3 zs.length c3)).setCell (p := ⟨w.heap.size + 1, 4, none⟩) (by simp <;> omega) (by simp <;> omega) (.slice A4 F.length c4))
  have hf := FF.size
  exact ⟨_, _, _, _, _, rfl, ⟨(HhO1.out.fr FF (.inr (by omega))).wide (Nat.zero_le _) (by omega) (Nat.le_refl _), (HhO2.out.fr FF (.inr (by omega))).wide (Nat.zero_le _) (by omega) (Nat.le_refl _), (HhO3.out.fr FF (.inr (by omega))).wide (Nat.zero_le _) (by omega) (Nat.le_refl _), (HhO4.out.fr FF (.inr (by omega))).wide (Nat.zero_le _) (by omega) (Nat.le_refl _)⟩, NN.out.fr FF (Nat.le_refl _)⟩
set_option maxRecDepth 20000 in
set_option maxHeartbeats 8000000 in
theorem c_implSameProof (lo hi lo' hi' : Nat) (sq ot pt fl sq' ot' pt' fl' : Value) (xs ys xs' ys' : List ((Int × Int) × Int)) (zs zs' : List Int) (F F' : List (List Int)) (sv sv' : List Value) (k k' : Int) (w : World) (h : RdF w lo hi sq ot pt fl xs ys zs F sv) (h' : RdF w lo' hi' sq' ot' pt' fl' xs' ys' zs' F' sv') :
    Calls Try.prog 20 #[.agg #[.int .i64 k, sq, ot, pt, fl], .agg #[.int .i64 k', sq', ot', pt', fl']] w fun e w' => e = .returned (.bool (pfEq k k' xs xs' ys ys' zs zs' F F')) ∧ New w w' := by
  obtain ⟨A, a, B, b, C, c, D, d, rfl, rfl, rfl, rfl⟩ := h.form
  obtain ⟨A', a', B', b', C', c', D', d', rfl, rfl, rfl, rfl⟩ := h'.form
  have HH := Lib.hid h
  have HK := Lib.hid h'
  have hmF := h.flows.outer.2.1
  clear h h'
  have n0 : New w ((w.alloc (.cells #[.int .i64 k, .slice A xs.length a, .slice B ys.length b, .slice C zs.length c, .slice D F.length d] 41)).alloc (.cells #[.int .i64 k', .slice A' xs'.length a', .slice B' ys'.length b', .slice C' zs'.length c', .slice D' F'.length d'] 41)) := ((New.same w).box _).box _
  have B0 : BoxV ((w.alloc (.cells #[.int .i64 k, .slice A xs.length a, .slice B ys.length b, .slice C zs.length c, .slice D F.length d] 41)).alloc (.cells #[.int .i64 k', .slice A' xs'.length a', .slice B' ys'.length b', .slice C' zs'.length c', .slice D' F'.length d'] 41)) w.heap.size [.int .i64 k, .slice A xs.length a, .slice B ys.length b, .slice C zs.length c, .slice D F.length d] := .five (by go_simp) (by go_simp) (by go_simp) (by go_simp) (by go_simp) (by go_simp) (by go_simp) (by go_simp) (by go_simp) (by go_simp)  (by simp <;> omega)
  have B1 : BoxV ((w.alloc (.cells #[.int .i64 k, .slice A xs.length a, .slice B ys.length b, .slice C zs.length c, .slice D F.length d] 41)).alloc (.cells #[.int .i64 k', .slice A' xs'.length a', .slice B' ys'.length b', .slice C' zs'.length c', .slice D' F'.length d'] 41)) (w.heap.size + 1) [.int .i64 k', .slice A' xs'.length a', .slice B' ys'.length b', .slice C' zs'.length c', .slice D' F'.length d'] := .five (by go_simp) (by go_simp) (by go_simp) (by go_simp) (by go_simp) (by go_simp) (by go_simp) (by go_simp) (by go_simp) (by go_simp)  (by simp <;> omega)
  have ⟨⟨x0, x1, x2, x3, x4⟩, _, l0⟩ := B0.at5
  have ⟨⟨y0, y1, y2, y3, y4⟩, _, l1⟩ := B1.at5
  have HX := Lib.hid (fun w1 (n1 : New ((w.alloc (.cells #[.int .i64 k, .slice A xs.length a, .slice B ys.length b, .slice C zs.length c, .slice D F.length d] 41)).alloc (.cells #[.int .i64 k', .slice A' xs'.length a', .slice B' ys'.length b', .slice C' zs'.length c', .slice D' F'.length d'] 41)) w1) => c_equal_Option _ _ _ _ _ _ xs xs' w1 ((HH.out.seq.new n0).new n1) ((HK.out.seq.new n0).new n1))
  have HY := Lib.hid (fun w1 (n1 : New ((w.alloc (.cells #[.int .i64 k, .slice A xs.length a, .slice B ys.length b, .slice C zs.length c, .slice D F.length d] 41)).alloc (.cells #[.int .i64 k', .slice A' xs'.length a', .slice B' ys'.length b', .slice C' zs'.length c', .slice D' F'.length d'] 41)) w1) => c_equal_Option _ _ _ _ _ _ ys ys' w1 ((HH.out.oth.new n0).new n1) ((HK.out.oth.new n0).new n1))
  have HZ := Lib.hid (fun w1 (n1 : New ((w.alloc (.cells #[.int .i64 k, .slice A xs.length a, .slice B ys.length b, .slice C zs.length c, .slice D F.length d] 41)).alloc (.cells #[.int .i64 k', .slice A' xs'.length a', .slice B' ys'.length b', .slice C' zs'.length c', .slice D' F'.length d'] 41)) w1) => c_equal_int64 _ _ _ _ _ _ zs zs' w1 ((HH.out.part.new n0).new n1) ((HK.out.part.new n0).new n1))
  have HF := Lib.hid (fun w1 (n1 : New ((w.alloc (.cells #[.int .i64 k, .slice A xs.length a, .slice B ys.length b, .slice C zs.length c, .slice D F.length d] 41)).alloc (.cells #[.int .i64 k', .slice A' xs'.length a', .slice B' ys'.length b', .slice C' zs'.length c', .slice D' F'.length d'] 41)) w1) => c_equalFunc_SS _ _ _ _ _ _ F F' w1 _ _ ((HH.out.flows.new n0).new n1) ((HK.out.flows.new n0).new n1))
  by_cases hk : k = k'
  · have e1 : (k == k') = true := by simpa using hk
    cases hx : eqL xs xs'
    · have E := Lib.hid (show pfEq k k' xs xs' ys ys' zs zs' F F' = false by simp [pfEq, hx])
      rw [hx] at HX
      clear hk hx
      go_enter Try.func20, Try.ntmps20
      go_wp2_with (first | (go_at_call_of 45 (Value.slice A xs.length a); refine (HX.out _ (New.same _)).mono ?_; rintro e w1 ⟨rfl, m1⟩; clear x0 x1 x2 x3 x4 y0 y1 y2 y3 y4; have ⟨⟨x0, x1, x2, x3, x4⟩, _, l0⟩ := (B0.new m1).at5; have ⟨⟨y0, y1, y2, y3, y4⟩, _, l1⟩ := (B1.new m1).at5))
      go_ret
      exact ⟨ret_bool E.out.symm, n0.step m1⟩
    rw [hx] at HX
    cases hy : eqL ys ys'
    · have E := Lib.hid (show pfEq k k' xs xs' ys ys' zs zs' F F' = false by simp [pfEq, hy])
      rw [hy] at HY
      clear hk hx hy
      go_enter Try.func20, Try.ntmps20
      go_wp2_with (first | (go_at_call_of 45 (Value.slice A xs.length a); refine (HX.out _ (New.same _)).mono ?_; rintro e w1 ⟨rfl, m1⟩; clear x0 x1 x2 x3 x4 y0 y1 y2 y3 y4; have ⟨⟨x0, x1, x2, x3, x4⟩, _, l0⟩ := (B0.new m1).at5; have ⟨⟨y0, y1, y2, y3, y4⟩, _, l1⟩ := (B1.new m1).at5) | (go_at_call_of 45 (Value.slice B ys.length b); refine (HY.out _ m1).mono ?_; rintro e w2 ⟨rfl, n2⟩; have m2 := m1.step n2; clear x0 x1 x2 x3 x4 y0 y1 y2 y3 y4; have ⟨⟨x0, x1, x2, x3, x4⟩, _, l0⟩ := (B0.new m2).at5; have ⟨⟨y0, y1, y2, y3, y4⟩, _, l1⟩ := (B1.new m2).at5))
      go_ret
      exact ⟨ret_bool E.out.symm, n0.step m2⟩
    rw [hy] at HY
    cases hz : eqL zs zs'
    · have E := Lib.hid (show pfEq k k' xs xs' ys ys' zs zs' F F' = false by simp [pfEq, hz])
      rw [hz] at HZ
      clear hk hx hy hz
      go_enter Try.func20, Try.ntmps20
      go_wp2_with (first | (go_at_call_of 45 (Value.slice A xs.length a); refine (HX.out _ (New.same _)).mono ?_; rintro e w1 ⟨rfl, m1⟩; clear x0 x1 x2 x3 x4 y0 y1 y2 y3 y4; have ⟨⟨x0, x1, x2, x3, x4⟩, _, l0⟩ := (B0.new m1).at5; have ⟨⟨y0, y1, y2, y3, y4⟩, _, l1⟩ := (B1.new m1).at5) | (go_at_call_of 45 (Value.slice B ys.length b); refine (HY.out _ m1).mono ?_; rintro e w2 ⟨rfl, n2⟩; have m2 := m1.step n2; clear x0 x1 x2 x3 x4 y0 y1 y2 y3 y4; have ⟨⟨x0, x1, x2, x3, x4⟩, _, l0⟩ := (B0.new m2).at5; have ⟨⟨y0, y1, y2, y3, y4⟩, _, l1⟩ := (B1.new m2).at5) | (go_at_call 46; refine (HZ.out _ m2).mono ?_; rintro e w3 ⟨rfl, n3⟩; have m3 := m2.step n3; clear x0 x1 x2 x3 x4 y0 y1 y2 y3 y4; have ⟨⟨x0, x1, x2, x3, x4⟩, _, l0⟩ := (B0.new m3).at5; have ⟨⟨y0, y1, y2, y3, y4⟩, _, l1⟩ := (B1.new m3).at5))
      go_ret
      exact ⟨ret_bool E.out.symm, n0.step m3⟩
    rw [hz] at HZ
    have E := Lib.hid (show pfEq k k' xs xs' ys ys' zs zs' F F' = eqL F F' by simp [pfEq, hk, hx, hy, hz])
    clear hk hx hy hz
    go_enter Try.func20, Try.ntmps20
    go_wp2_with (first | (go_at_call_of 45 (Value.slice A xs.length a); refine (HX.out _ (New.same _)).mono ?_; rintro e w1 ⟨rfl, m1⟩; clear x0 x1 x2 x3 x4 y0 y1 y2 y3 y4; have ⟨⟨x0, x1, x2, x3, x4⟩, _, l0⟩ := (B0.new m1).at5; have ⟨⟨y0, y1, y2, y3, y4⟩, _, l1⟩ := (B1.new m1).at5) | (go_at_call_of 45 (Value.slice B ys.length b); refine (HY.out _ m1).mono ?_; rintro e w2 ⟨rfl, n2⟩; have m2 := m1.step n2; clear x0 x1 x2 x3 x4 y0 y1 y2 y3 y4; have ⟨⟨x0, x1, x2, x3, x4⟩, _, l0⟩ := (B0.new m2).at5; have ⟨⟨y0, y1, y2, y3, y4⟩, _, l1⟩ := (B1.new m2).at5) | (go_at_call 46; refine (HZ.out _ m2).mono ?_; rintro e w3 ⟨rfl, n3⟩; have m3 := m2.step n3; clear x0 x1 x2 x3 x4 y0 y1 y2 y3 y4; have ⟨⟨x0, x1, x2, x3, x4⟩, _, l0⟩ := (B0.new m3).at5; have ⟨⟨y0, y1, y2, y3, y4⟩, _, l1⟩ := (B1.new m3).at5) | (go_at_call 47; refine (HF.out _ m3).mono ?_; rintro e w4 ⟨rfl, n4⟩; have m4 := m3.step n4))
    go_ret
    exact ⟨ret_bool E.out.symm, n0.step m4⟩
  · have e1 : (k == k') = false := by simpa using hk
    have E := Lib.hid (show pfEq k k' xs xs' ys ys' zs zs' F F' = false by simp [pfEq, hk])
    clear hk
    go_enter Try.func20, Try.ntmps20
    go_wp2
    go_ret
    exact ⟨ret_bool E.out.symm, n0⟩
set_option maxRecDepth 20000 in
set_option maxHeartbeats 8000000 in
theorem c_specSameProof (lo hi lo' hi' : Nat) (sq ot pt fl sq' ot' pt' fl' : Value) (xs ys xs' ys' : List ((Int × Int) × Int)) (zs zs' : List Int) (F F' : List (List Int)) (sv sv' : List Value) (k k' : Int) (w : World) (h : RdF w lo hi sq ot pt fl xs ys zs F sv) (h' : RdF w lo' hi' sq' ot' pt' fl' xs' ys' zs' F' sv') :
    Calls Try.prog 18 #[.agg #[.int .i64 k, sq, ot, pt, fl], .agg #[.int .i64 k', sq', ot', pt', fl']] w fun e w' => e = .returned (.bool (pfEq k k' xs xs' ys ys' zs zs' F F')) ∧ New w w' := by
  obtain ⟨A, a, B, b, C, c, D, d, rfl, rfl, rfl, rfl⟩ := h.form
  obtain ⟨A', a', B', b', C', c', D', d', rfl, rfl, rfl, rfl⟩ := h'.form
  have HH := Lib.hid h
  have HK := Lib.hid h'
  have hmF := h.flows.outer.2.1
  clear h h'
  have n0 : New w ((w.alloc (.cells #[.int .i64 k, .slice A xs.length a, .slice B ys.length b, .slice C zs.length c, .slice D F.length d] 41)).alloc (.cells #[.int .i64 k', .slice A' xs'.length a', .slice B' ys'.length b', .slice C' zs'.length c', .slice D' F'.length d'] 41)) := ((New.same w).box _).box _
  have B0 : BoxV ((w.alloc (.cells #[.int .i64 k, .slice A xs.length a, .slice B ys.length b, .slice C zs.length c, .slice D F.length d] 41)).alloc (.cells #[.int .i64 k', .slice A' xs'.length a', .slice B' ys'.length b', .slice C' zs'.length c', .slice D' F'.length d'] 41)) w.heap.size [.int .i64 k, .slice A xs.length a, .slice B ys.length b, .slice C zs.length c, .slice D F.length d] := .five (by go_simp) (by go_simp) (by go_simp) (by go_simp) (by go_simp) (by go_simp) (by go_simp) (by go_simp) (by go_simp) (by go_simp)  (by simp <;> omega)
  have B1 : BoxV ((w.alloc (.cells #[.int .i64 k, .slice A xs.length a, .slice B ys.length b, .slice C zs.length c, .slice D F.length d] 41)).alloc (.cells #[.int .i64 k', .slice A' xs'.length a', .slice B' ys'.length b', .slice C' zs'.length c', .slice D' F'.length d'] 41)) (w.heap.size + 1) [.int .i64 k', .slice A' xs'.length a', .slice B' ys'.length b', .slice C' zs'.length c', .slice D' F'.length d'] := .five (by go_simp) (by go_simp) (by go_simp) (by go_simp) (by go_simp) (by go_simp) (by go_simp) (by go_simp) (by go_simp) (by go_simp)  (by simp <;> omega)
  have ⟨⟨x0, x1, x2, x3, x4⟩, _, l0⟩ := B0.at5
  have ⟨⟨y0, y1, y2, y3, y4⟩, _, l1⟩ := B1.at5
  have HX := Lib.hid (fun w1 (n1 : New ((w.alloc (.cells #[.int .i64 k, .slice A xs.length a, .slice B ys.length b, .slice C zs.length c, .slice D F.length d] 41)).alloc (.cells #[.int .i64 k', .slice A' xs'.length a', .slice B' ys'.length b', .slice C' zs'.length c', .slice D' F'.length d'] 41)) w1) => c_l11Same _ _ _ _ _ _ xs xs' w1 ((HH.out.seq.new n0).new n1) ((HK.out.seq.new n0).new n1))
  have HY := Lib.hid (fun w1 (n1 : New ((w.alloc (.cells #[.int .i64 k, .slice A xs.length a, .slice B ys.length b, .slice C zs.length c, .slice D F.length d] 41)).alloc (.cells #[.int .i64 k', .slice A' xs'.length a', .slice B' ys'.length b', .slice C' zs'.length c', .slice D' F'.length d'] 41)) w1) => c_l11Same _ _ _ _ _ _ ys ys' w1 ((HH.out.oth.new n0).new n1) ((HK.out.oth.new n0).new n1))
  have HZ := Lib.hid (fun w1 (n1 : New ((w.alloc (.cells #[.int .i64 k, .slice A xs.length a, .slice B ys.length b, .slice C zs.length c, .slice D F.length d] 41)).alloc (.cells #[.int .i64 k', .slice A' xs'.length a', .slice B' ys'.length b', .slice C' zs'.length c', .slice D' F'.length d'] 41)) w1) => c_l00Same _ _ _ _ _ _ zs zs' w1 ((HH.out.part.new n0).new n1) ((HK.out.part.new n0).new n1))
  by_cases hk : k = k'
  · have e1 : (k != k') = false := by simpa using hk
    cases hx : eqL xs xs'
    · have E := Lib.hid (show pfEq k k' xs xs' ys ys' zs zs' F F' = false by simp [pfEq, hx])
      rw [hx] at HX
      clear hk hx
      go_enter Try.func18, Try.ntmps18
      go_wp2_with (first | (go_at_call_of 40 (Value.slice A xs.length a); refine (HX.out _ (New.same _)).mono ?_; rintro e w1 ⟨rfl, m1⟩; clear x0 x1 x2 x3 x4 y0 y1 y2 y3 y4; have ⟨⟨x0, x1, x2, x3, x4⟩, _, l0⟩ := (B0.new m1).at5; have ⟨⟨y0, y1, y2, y3, y4⟩, _, l1⟩ := (B1.new m1).at5))
      go_ret
      exact ⟨ret_bool E.out.symm, n0.step m1⟩
    rw [hx] at HX
    cases hy : eqL ys ys'
    · have E := Lib.hid (show pfEq k k' xs xs' ys ys' zs zs' F F' = false by simp [pfEq, hy])
      rw [hy] at HY
      clear hk hx hy
      go_enter Try.func18, Try.ntmps18
      go_wp2_with (first | (go_at_call_of 40 (Value.slice A xs.length a); refine (HX.out _ (New.same _)).mono ?_; rintro e w1 ⟨rfl, m1⟩; clear x0 x1 x2 x3 x4 y0 y1 y2 y3 y4; have ⟨⟨x0, x1, x2, x3, x4⟩, _, l0⟩ := (B0.new m1).at5; have ⟨⟨y0, y1, y2, y3, y4⟩, _, l1⟩ := (B1.new m1).at5) | (go_at_call_of 40 (Value.slice B ys.length b); refine (HY.out _ m1).mono ?_; rintro e w2 ⟨rfl, n2⟩; have m2 := m1.step n2; clear x0 x1 x2 x3 x4 y0 y1 y2 y3 y4; have ⟨⟨x0, x1, x2, x3, x4⟩, _, l0⟩ := (B0.new m2).at5; have ⟨⟨y0, y1, y2, y3, y4⟩, _, l1⟩ := (B1.new m2).at5))
      go_ret
      exact ⟨ret_bool E.out.symm, n0.step m2⟩
    rw [hy] at HY
    cases hz : eqL zs zs'
    · have E := Lib.hid (show pfEq k k' xs xs' ys ys' zs zs' F F' = false by simp [pfEq, hz])
      rw [hz] at HZ
      clear hk hx hy hz
      go_enter Try.func18, Try.ntmps18
      go_wp2_with (first | (go_at_call_of 40 (Value.slice A xs.length a); refine (HX.out _ (New.same _)).mono ?_; rintro e w1 ⟨rfl, m1⟩; clear x0 x1 x2 x3 x4 y0 y1 y2 y3 y4; have ⟨⟨x0, x1, x2, x3, x4⟩, _, l0⟩ := (B0.new m1).at5; have ⟨⟨y0, y1, y2, y3, y4⟩, _, l1⟩ := (B1.new m1).at5) | (go_at_call_of 40 (Value.slice B ys.length b); refine (HY.out _ m1).mono ?_; rintro e w2 ⟨rfl, n2⟩; have m2 := m1.step n2; clear x0 x1 x2 x3 x4 y0 y1 y2 y3 y4; have ⟨⟨x0, x1, x2, x3, x4⟩, _, l0⟩ := (B0.new m2).at5; have ⟨⟨y0, y1, y2, y3, y4⟩, _, l1⟩ := (B1.new m2).at5) | (go_at_call 41; refine (HZ.out _ m2).mono ?_; rintro e w3 ⟨rfl, n3⟩; have m3 := m2.step n3; clear x0 x1 x2 x3 x4 y0 y1 y2 y3 y4; have ⟨⟨x0, x1, x2, x3, x4⟩, _, l0⟩ := (B0.new m3).at5; have ⟨⟨y0, y1, y2, y3, y4⟩, _, l1⟩ := (B1.new m3).at5))
      go_ret
      exact ⟨ret_bool E.out.symm, n0.step m3⟩
    rw [hz] at HZ
    have E := Lib.hid (show pfEq k k' xs xs' ys ys' zs zs' F F' = eqL F F' by simp [pfEq, hk, hx, hy, hz])
    clear hk hx hy hz
    have ha : 0 < F.length → ∃ b off, D = some ⟨b, off, none⟩ := fun hp => by
      obtain ⟨_, _, e, hh⟩ := rd_form HH.out.flows.outer
      cases e
      exact hh.2 hp
    have ha' : 0 < F'.length → ∃ b off, D' = some ⟨b, off, none⟩ := fun hp => by
      obtain ⟨_, _, e, hh⟩ := rd_form HK.out.flows.outer
      cases e
      exact hh.2 hp
    have HA := Lib.hid ha
    have HA' := Lib.hid ha'
    clear ha ha'
    by_cases hl : F.length = F'.length
    · have HL := Lib.hid hl
      have hl1 : F.length ≤ F'.length := by omega
      have hl2 : F'.length ≤ F.length := by omega
      have hl3 : ((F.length : Int) != (F'.length : Int)) = false := by simp [hl]
      clear hl
      have HR := Lib.hid (HH.out.flows.new n0)
      have HS := Lib.hid (HK.out.flows.new n0)
      go_enter Try.func18, Try.ntmps18
      go_wp2_with (first | (go_at_call_of 40 (Value.slice A xs.length a); refine (HX.out _ (New.same _)).mono ?_; rintro e w1 ⟨rfl, m1⟩; clear x0 x1 x2 x3 x4 y0 y1 y2 y3 y4; have ⟨⟨x0, x1, x2, x3, x4⟩, _, l0⟩ := (B0.new m1).at5; have ⟨⟨y0, y1, y2, y3, y4⟩, _, l1⟩ := (B1.new m1).at5) | (go_at_call_of 40 (Value.slice B ys.length b); refine (HY.out _ m1).mono ?_; rintro e w2 ⟨rfl, n2⟩; have m2 := m1.step n2; clear x0 x1 x2 x3 x4 y0 y1 y2 y3 y4; have ⟨⟨x0, x1, x2, x3, x4⟩, _, l0⟩ := (B0.new m2).at5; have ⟨⟨y0, y1, y2, y3, y4⟩, _, l1⟩ := (B1.new m2).at5) | (go_at_call 41; refine (HZ.out _ m2).mono ?_; rintro e w3 ⟨rfl, n3⟩; have m3 := m2.step n3; clear x0 x1 x2 x3 x4 y0 y1 y2 y3 y4; have ⟨⟨x0, x1, x2, x3, x4⟩, _, l0⟩ := (B0.new m3).at5; have ⟨⟨y0, y1, y2, y3, y4⟩, _, l1⟩ := (B1.new m3).at5))
      have HB0 := Lib.hid (B0.new m3)
      have HB1 := Lib.hid (B1.new m3)
      replace HR := Lib.hid (HR.out.new m3)
      replace HS := Lib.hid (HS.out.new m3)
      have N3 := Lib.hid (n0.step m3)
      clear x0 x1 x2 x3 x4 y0 y1 y2 y3 y4 HX HY HZ B0 B1 n0 m1 m2 m3 n2 n3
      go_loopw [5] (fun i wr => ∃ q : Nat, q ≤ F.length ∧ i = .int .i64 q ∧ Hid (F.take q = F'.take q) ∧ New w3 wr) (fun i _ => F.length - (intOf i).toNat)
      case atStart => exact ⟨0, Nat.zero_le _, rfl, Lib.hid (by simp), New.same _⟩
      case round =>
        obtain ⟨q, hq, rfl, HT, hN⟩ := hrel
        have ⟨⟨x0, x1, x2, x3, x4⟩, _, l8⟩ := (HB0.out.new hN).at5
        have ⟨⟨y0, y1, y2, y3, y4⟩, _, l9⟩ := (HB1.out.new hN).at5
        clear x0 x1 x2 x3 y0 y1 y2 y3
        by_cases hlt : q < F.length
        · obtain ⟨b9, off, hAe⟩ := HA.out (by omega)
          subst hAe
          obtain ⟨b8, off', hAe'⟩ := HA'.out (by omega)
          subst hAe'
          have hlt' : q < F'.length := by omega
          have p0 : (0 : Int) ≤ (q : Int) := by omega
          have p1 : (q : Int) < (F.length : Int) := by omega
          have p2 : (q : Int) < (F'.length : Int) := by omega
          obtain ⟨Ax, mx, u0, bw, rx⟩ := rd_row HR.out hN rfl hlt
          obtain ⟨Ay, my, v0, bw', ry⟩ := rd_row HS.out hN rfl hlt'
          have lx4 := Later.cell x4 l8
          have ly4 := Later.cell y4 l9
          have lu0 := Later.cell u0 bw
          have lv0 := Later.cell v0 bw'
          by_cases he : F[q] = F'[q]
          · have HT' := take_more HT.out hlt hlt' he
            have C1 := Lib.hid (fun (t : Later wr) => (eqL_yes he) ▸ c_l00Same _ _ _ _ _ _ F[q] F'[q] t.w (rx.new t.new) (ry.new t.new))
            clear he
            go_upto_region 6 with fail
            (refine wp_region_later (by kernel_rfl) (by kernel_rfl) ?_; (repeat (go_big_quiet_step ((first | (go_at_call 41; exact later_of (C1.out _)))))); refine wpQuiet_nil ?_; intro wq hw'; obtain ⟨⟨wz, nq⟩, hwz⟩ := hw'; have hwz' : wq = wz := hwz; subst hwz'; clear hwz)
            clear lx4 ly4 lu0 lv0
            go_wp2
            go_roundw
            case rel => exact ⟨q + 1, by omega, by go_num, HT', hN.step nq⟩
            case measure => simp [intOf]; omega
          · have HE := Lib.hid (eqL_at hlt hlt' he)
            have C1 := Lib.hid (fun (t : Later wr) => (eqL_no he) ▸ c_l00Same _ _ _ _ _ _ F[q] F'[q] t.w (rx.new t.new) (ry.new t.new))
            clear he
            go_upto_region 6 with fail
            (refine wp_region_later (by kernel_rfl) (by kernel_rfl) ?_; (repeat (go_big_quiet_step ((first | (go_at_call 41; exact later_of (C1.out _)))))); refine wpQuiet_nil ?_; intro wq hw'; obtain ⟨⟨wz, nq⟩, hwz⟩ := hw'; have hwz' : wq = wz := hwz; subst hwz'; clear hwz)
            clear lx4 ly4 lu0 lv0
            go_wp2
            go_ret
            exact ⟨ret_bool (by rw [E.out, HE.out]), (N3.out.step hN).step nq⟩
        · have hk' : q = F.length := by omega
          subst hk'
          have HE := Lib.hid (eqL_all HL.out HT.out)
          go_wp2
          go_ret
          exact ⟨ret_bool (by rw [E.out, HE.out]), N3.out.step hN⟩
    · have HE := Lib.hid (eqL_len hl)
      have hl3 : ((F.length : Int) != (F'.length : Int)) = true := by simp; omega
      clear hl
      go_enter Try.func18, Try.ntmps18
      go_wp2_with (first | (go_at_call_of 40 (Value.slice A xs.length a); refine (HX.out _ (New.same _)).mono ?_; rintro e w1 ⟨rfl, m1⟩; clear x0 x1 x2 x3 x4 y0 y1 y2 y3 y4; have ⟨⟨x0, x1, x2, x3, x4⟩, _, l0⟩ := (B0.new m1).at5; have ⟨⟨y0, y1, y2, y3, y4⟩, _, l1⟩ := (B1.new m1).at5) | (go_at_call_of 40 (Value.slice B ys.length b); refine (HY.out _ m1).mono ?_; rintro e w2 ⟨rfl, n2⟩; have m2 := m1.step n2; clear x0 x1 x2 x3 x4 y0 y1 y2 y3 y4; have ⟨⟨x0, x1, x2, x3, x4⟩, _, l0⟩ := (B0.new m2).at5; have ⟨⟨y0, y1, y2, y3, y4⟩, _, l1⟩ := (B1.new m2).at5) | (go_at_call 41; refine (HZ.out _ m2).mono ?_; rintro e w3 ⟨rfl, n3⟩; have m3 := m2.step n3; clear x0 x1 x2 x3 x4 y0 y1 y2 y3 y4; have ⟨⟨x0, x1, x2, x3, x4⟩, _, l0⟩ := (B0.new m3).at5; have ⟨⟨y0, y1, y2, y3, y4⟩, _, l1⟩ := (B1.new m3).at5))
      go_ret
      exact ⟨ret_bool (by rw [E.out, HE.out]), n0.step m3⟩
  · have e1 : (k != k') = true := by simpa using hk
    have E := Lib.hid (show pfEq k k' xs xs' ys ys' zs zs' F F' = false by simp [pfEq, hk])
    clear hk
    go_enter Try.func18, Try.ntmps18
    go_wp2
    go_ret
    exact ⟨ret_bool E.out.symm, n0⟩
end Go.Proofs.Ythafdlfhkcbjhaa
