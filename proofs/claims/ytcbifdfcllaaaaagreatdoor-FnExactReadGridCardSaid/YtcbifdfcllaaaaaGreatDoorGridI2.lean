/- The contract of the program's ReadGrid. -/
import Derived.Test.YtcbifdfcllaaaaaGreatDoorGridI
import Derived.Test.YtcbifdfcllaaaaaGreatDoorBackS
import Derived.Test.YtcbifdfcllaaaaaGreatDoorLines
namespace Go.Proofs.YtcbifdfcllaaaaaGreatDoor
open Go.RowKit Go.Shelf Go.Deep
set_option linter.unusedVariables false
set_option linter.unusedSimpArgs false
attribute [local go_sem] Oper.semAt_some

/-- the number of a line's row, from the last line up -/
abbrev yOf (L : List ByteArray) (x : Fin L.length) : Int := ((L.length - 1 - x.1 : Nat) : Int)
/-- the tiles behind the rounds that have come -/
noncomputable def accF (m : Nat) (L : List ByteArray) (pre : List (Fin L.length)) : List Pl3 := pre.foldl (fun acc x => acc ++ (rwG m acc (yOf L x) L[x.1]).1) []
theorem accF_snoc (m : Nat) (L : List ByteArray) (pre : List (Fin L.length)) (x : Fin L.length) : accF m L (pre ++ [x]) = accF m L pre ++ (rwG m (accF m L pre) (yOf L x) L[x.1]).1 := by simp [accF]
theorem accF_le (m : Nat) (L : List ByteArray) (pre : List (Fin L.length)) : (accF m L pre).length ≤ 500 := by
  have key : ∀ (pre : List (Fin L.length)) (acc : List Pl3), acc.length ≤ 500 → (pre.foldl (fun acc x => acc ++ (rwG m acc (yOf L x) L[x.1]).1) acc).length ≤ 500 := by
    intro pre
    induction pre with
    | nil => exact fun acc h => h
    | cons x r ih =>
      intro acc h
      refine ih _ ?_
      have := (rowG_spec m (yOf L x) acc.length (wds L[x.1] 0 0) 0 [] List.Pairwise.nil (by simp) (by simpa using h)).2.2
      rw [List.length_append]
      exact this
  exact key pre [] (by simp)
/-- all rows that have come were right -/
def okF (m : Nat) (L : List ByteArray) (pre : List (Fin L.length)) : Prop := ∀ p x s, pre = p ++ x :: s → (rwG m (accF m L p) (yOf L x) L[x.1]).2 = 0
theorem okF_nil (m : Nat) (L : List ByteArray) : okF m L [] := fun p x s h => by simp at h
theorem okF_snoc {m : Nat} {L : List ByteArray} {pre : List (Fin L.length)} {x : Fin L.length} (h : okF m L pre) (hx : (rwG m (accF m L pre) (yOf L x) L[x.1]).2 = 0) : okF m L (pre ++ [x]) := by
  intro p y s e
  rcases List.eq_nil_or_concat s with rfl | ⟨s', z, rfl⟩
  · have := List.append_inj' e rfl
    obtain ⟨rfl, h2⟩ := this
    obtain rfl : x = y := by simpa using h2
    exact hx
  · rw [List.concat_eq_append, ← List.cons_append, ← List.append_assoc] at e
    have := List.append_inj' e rfl
    obtain ⟨h1, _⟩ := this
    exact h p y s' h1
theorem okF_pre {m : Nat} {L : List ByteArray} {p s : List (Fin L.length)} (h : okF m L (p ++ s)) : okF m L p := fun q x t e => h q x (t ++ s) (by rw [e]; simp)
theorem grid_at {m : Nat} {L : List ByteArray} : ∀ (n r : Nat) (ys : List (Fin L.length)), r + n = L.length → ys.map (fun x => x.1) = dnS L.length r → okF m L ys →
    gridAt m L L.length [] = gridAt m L r (accF m L ys) ∧ Laid ((L.length - r : Nat) : Int) (accF m L ys)
  | 0, r, ys, hr, hy, _ => by
    obtain rfl : r = L.length := by omega
    have : ys = [] := by simpa [dnS] using hy
    subst this
    exact ⟨rfl, laid_nil _⟩
  | n + 1, r, ys, hr, hy, ok => by
    rw [dnS_step (by omega)] at hy
    obtain ⟨zs, xs, rfl, hz, hx⟩ := List.map_eq_append_iff.1 hy
    match xs, hx with
    | [x], hx =>
      have hxr : x.1 = r := by simpa using hx
      obtain ⟨e1, e2⟩ := grid_at n (r + 1) zs (by omega) hz (okF_pre ok)
      have hc := ok zs x [] rfl
      have hlt : r < L.length := by omega
      subst hxr
      refine ⟨?_, ?_⟩
      · rw [e1, gridAt_ok x.2 hc, accF_snoc]
      · have h1 := (laid_row (m := m) (y := yOf L x) (l := L[x.1]) (by rw [show L.length - (x.1 + 1) = L.length - 1 - x.1 by omega] at e2; exact e2)).1
        rw [accF_snoc, show ((L.length - x.1 : Nat) : Int) = yOf L x + 1 by show ((L.length - x.1 : Nat) : Int) = ((L.length - 1 - x.1 : Nat) : Int) + 1; omega]
        exact h1
theorem grid_done {m : Nat} {L : List ByteArray} {ys : List (Fin L.length)} (hy : ys.map (fun x => x.1) = dnS L.length 0) (ok : okF m L ys) : gridAt m L L.length [] = (accF m L ys, 0, 0) ∧ AscP (accF m L ys) := by
  obtain ⟨h1, h2⟩ := grid_at (m := m) L.length 0 ys (by omega) hy ok
  rw [gridAt_zero] at h1
  exact ⟨h1, h2.1⟩
theorem grid_stop {m r : Nat} {L : List ByteArray} {p : List (Fin L.length)} {x : Fin L.length} (hr : r < L.length) (hy : (p ++ [x]).map (fun x => x.1) = dnS L.length r) (ok : okF m L p) (hc : (rwG m (accF m L p) (yOf L x) L[x.1]).2 ≠ 0) :
    gridAt m L L.length [] = ([], (x.1 : Int) + 1, (rwG m (accF m L p) (yOf L x) L[x.1]).2) := by
  rw [dnS_step hr, List.map_append] at hy
  obtain ⟨hz, hx⟩ := List.append_inj' hy rfl
  have hxr : x.1 = r := by simpa using hx
  obtain ⟨e1, _⟩ := grid_at (m := m) (L.length - (r + 1)) (r + 1) p (by omega) hz ok
  subst hxr
  rw [e1, gridAt_err x.2 hc]

/-- append of a row of the call's own to a row of the call's own, in a walk inside a fence -/
theorem wpListIn_appR {F : Fence} {n : Nat} {P : Program} (w : World) {ops : Array Oper} {rest : List Oper} {o : Oper} {a : Act} {Q : Exit → Act → World → Prop}
    (hg : o.guard = none) (s x : Operand) (t : TypeId) (hop : o.op = Op.call { callee := Callee.builtin Builtin.append, args := #[s, x], argTypes := #[t, t] }) {e : TypeId} {size bytes : Nat} (hr : ElemRow P t e size bytes)
    (base base2 : Nat) (v u : Value) (k m : Nat) (xs news : List Value) (hs : a.eval s = v) (hown : w.ownsRow base e size v k xs) (hx : a.eval x = u) (hu : w.ownsRow base2 e size u m news) (h1c : ∀ u ∈ news, u.oneCell' = true) (b1 : k + m ≤ maxLen) (b2 : (k + m) * bytes ≤ 140737488355328) (b3 : base ≤ w.heap.size)
    (hK : ∀ v' w', w'.ownsRow base e size v' (k + m) (xs ++ news) → w.grownBy w' v.ownBlock → wpListIn F n P ops Q rest (a.put o.dst v') w') :
    wpListIn F n P ops Q (o :: rest) a w := by
  obtain ⟨ht, i, z, hi, hz, hsize, hby, hzs, hsz⟩ := hr
  have hcl := fun g => hu.cells (g := g)
  obtain ⟨hl, hrow⟩ := hu
  rcases hrow with ⟨rfl, rfl⟩ | ⟨g, cap, cur, rfl, _⟩
  · have hn : news = [] := List.eq_nil_of_length_eq_zero (by simpa using hl)
    subst hn
    refine wpListIn_plain hg fun K hK' => ?_
    have hrun := run_append_owned_none (P := P) w base t o.type e i size ht hi v k xs hown
    unfold Oper.wpIn
    refine ⟨?_, ?_⟩
    · simp [Oper.about, hop, resolve, Target.leads, Sem.run_pure]
    · rw [Oper.semAt_plain F _ _ (by rw [hop]; intro c hc'; cases hc')]
      simp [execOp, hop, resolve, invoke, builtin, hs, hx, hrun, Result.andThen]
      exact hK' _ _ (hK v w (by simpa using hown) ⟨rfl, rfl, rfl, Nat.le_refl _, fun _ _ _ => rfl⟩)
  · exact wpListIn_append_own w hg s x t hop base e i z size bytes ht hi hz hsize hby hzs hsz v k xs hs hown ⟨g, 0, none⟩ m cap news hx hl (hcl g rfl) h1c b1 b2 b3 (fun v' w' h1 h2 _ => hK v' w' h1 h2)

theorem ownFrom_frB {β : Type} {ba base : Nat} {W0 : World} (h : base ≤ W0.heap.size) : OwnFrom base (fun (_ : β) (W : World) => FrB ba base W0 W) := fun s X Y row hs hg hr =>
  ⟨hg.os.trans hs.os, hg.tape.trans hs.tape, hg.output.trans hs.output, Nat.le_trans hs.size hg.size, fun k hk hn => (hg.block k (Nat.lt_of_lt_of_le (Nat.lt_of_lt_of_le hk h) hs.size) (fun e => by have := (hr k e.symm).1; omega)).trans (hs.block k hk hn)⟩
theorem ownFrom_const {β : Type} {B : Nat} (p : β → Prop) : OwnFrom B (fun (s : β) (_ : World) => p s) := fun s X Y row hs _ _ => hs
theorem boxed_kept2 {W W' : World} {B : Nat} {t : TypeId} {v : Value} {row : Option Nat} (h : Boxed W B t v) (hg : W.grownBy W' row) (hr : ∀ r, row = some r → ∃ o : Obj, W.heap[r]? = some o ∧ o.isCells = false) : Boxed W' B t v := by
  refine h.kept hg (fun e => ?_)
  obtain ⟨o, ho, hc⟩ := hr B e.symm
  rw [show W.heap[B]? = _ from h] at ho
  cases ho; cases hc
theorem KeepsOthers.of_row3 {X Y : World} {n0 C : Nat} {e : TypeId} {v : Value} {n : Nat} {xs : List Value} (hr : X.ownsRow n0 e C v n xs) (hg : X.grownBy Y v.ownBlock) : KeepsOthers X Y :=
  KeepsOthers.of_grownBy hg fun j o ej hj => by
    rcases hr.2 with ⟨rfl, _⟩ | ⟨g, cap, cur, rfl, _, hgb, _⟩
    · simp [Value.ownBlock] at ej
    · obtain rfl : g = j := by simpa [Value.ownBlock] using ej
      rw [hgb] at hj; cases hj; rfl

theorem boxed_off {W : World} {B : Nat} {t : TypeId} {u : Value} (h : Boxed W B t u) {p : Addr} (hp : p.block ≠ B) (v : Value) : Boxed (W.setCell p v) B t u := (Below.heap_setCell _ _ _ _ (fun e => hp e.symm)).trans h
/-- how a set of fixed lines is left where a row is not right -/
def GrStop (m : Nat) (L : List ByteArray) (B : Nat) (ta ti : TypeId) (pre : List (Fin L.length)) (W : World) : Prop :=
  ∃ p x code, pre = p ++ [x] ∧ okF m L p ∧ (rwG m (accF m L p) (yOf L x) L[x.1]).2 = code ∧ code ≠ 0 ∧ Boxed W B ta (.slice none 0 0) ∧ Boxed W (B + 1) ti (.int .i64 ((x.1 : Int) + 1)) ∧ Boxed W (B + 1 + 1) ti (.int .i64 code)

set_option maxRecDepth 100000 in
set_option maxHeartbeats 4000000 in
theorem readGrid_in (m0 : Nat) (hn : 5 ≤ m0) (lo hi : Nat) (gv tv : Value) (G : List (ByteArray × Int)) (T : List (ByteArray × List Int)) (sv : List Value) (s : ByteArray) (w : World) (h : RdS w lo hi gv tv G T sv) (hg : ∀ g ∈ G, g.1.size ≤ maxLen) (ht : ∀ t ∈ T, t.1.size ≤ maxLen) (hsz : s.size ≤ 1048576)
    (hT : TabW w) (hE : ErrW w) (hs : setB G T = true) (hn2 : ¬ 20000 < s.size) :
    CallsIn Fence.wide m0 Tryz.prog 7 #[.agg #[gv, tv], .string s] w (GivesGrid w (gridAt T.length (lnS s) (lnS s).length [])) := by
  have hm1 : 1 ≤ m0 := by omega
  obtain ⟨A, c, B, d, rfl, rfl⟩ := h.form
  have HH := Lib.hid h
  have hmT : T.length ≤ 9223372036854775807 := h.tiles.outer.2.1
  have hrc := Lib.hid (show rcV G T s.size = 0 by simp [rcV, hs, hn2])
  clear h
  obtain ⟨L, hL⟩ : ∃ L, lnS s = L := ⟨_, rfl⟩
  have hLl : L.length ≤ 20000 := by rw [← hL]; exact Nat.le_trans (lnS_le s) (by omega)
  have HLS := Lib.hid (show ∀ t ∈ L, t.size ≤ 20000 from fun t ht => by rw [← hL] at ht; have := lnS_size ht; omega)
  have CL := Lib.hid (fun (w : World) => c_implLines s w hsz)
  rw [hL] at CL
  rw [hL]
  clear hL
  have n1 : New w ((((w.alloc (.cells #[.slice A G.length c, .slice B T.length d] 35)).alloc (.cells #[.slice none 0 0] 29)).alloc (.cells #[.int .i64 0] 2)).alloc (.cells #[.int .i64 0] 2)) := ((((New.same w).box _).box _).box _).box _
  have B1 : BoxV ((((w.alloc (.cells #[.slice A G.length c, .slice B T.length d] 35)).alloc (.cells #[.slice none 0 0] 29)).alloc (.cells #[.int .i64 0] 2)).alloc (.cells #[.int .i64 0] 2)) w.heap.size [.slice A G.length c, .slice B T.length d] := .two (by go_simp) (by go_simp) (by go_simp) (by go_simp) (by simp <;> omega)
  have r1 : Boxed ((((w.alloc (.cells #[.slice A G.length c, .slice B T.length d] 35)).alloc (.cells #[.slice none 0 0] 29)).alloc (.cells #[.int .i64 0] 2)).alloc (.cells #[.int .i64 0] 2)) (w.heap.size + 1) 29 (.slice none 0 0) := by
    have := Boxed.new (w.alloc (.cells #[.slice A G.length c, .slice B T.length d] 35)) 29 (.slice none 0 0)
    rw [World.size_alloc] at this
    exact (this.alloc _).alloc _
  have r2 : Boxed ((((w.alloc (.cells #[.slice A G.length c, .slice B T.length d] 35)).alloc (.cells #[.slice none 0 0] 29)).alloc (.cells #[.int .i64 0] 2)).alloc (.cells #[.int .i64 0] 2)) (w.heap.size + 1 + 1) 2 (.int .i64 0) := by
    have := Boxed.new ((w.alloc (.cells #[.slice A G.length c, .slice B T.length d] 35)).alloc (.cells #[.slice none 0 0] 29)) 2 (.int .i64 0)
    rw [World.size_alloc, World.size_alloc] at this
    exact this.alloc _
  have r3 : Boxed ((((w.alloc (.cells #[.slice A G.length c, .slice B T.length d] 35)).alloc (.cells #[.slice none 0 0] 29)).alloc (.cells #[.int .i64 0] 2)).alloc (.cells #[.int .i64 0] 2)) (w.heap.size + 1 + 1 + 1) 2 (.int .i64 0) := by
    have := Boxed.new (((w.alloc (.cells #[.slice A G.length c, .slice B T.length d] 35)).alloc (.cells #[.slice none 0 0] 29)).alloc (.cells #[.int .i64 0] 2)) 2 (.int .i64 0)
    rw [World.size_alloc, World.size_alloc, World.size_alloc] at this
    exact this
  have hs1 : ((((w.alloc (.cells #[.slice A G.length c, .slice B T.length d] 35)).alloc (.cells #[.slice none 0 0] 29)).alloc (.cells #[.int .i64 0] 2)).alloc (.cells #[.int .i64 0] 2)).heap.size = w.heap.size + 4 := by simp
  refine callsIn_of_wp_marks Tryz.func7 rfl trivial ?_ rfl
  simp only [Tryz.ntmps7, List.size_toArray, List.length_cons, List.length_nil, Nat.reduceAdd, Nat.reduceSub, Array.replicate_succ, Array.replicate_zero, List.push_toArray, List.append_toArray, List.nil_append, List.cons_append]
  gi_wp2_with fail
  generalize ((((w.alloc (.cells #[.slice A G.length c, .slice B T.length d] 35)).alloc (.cells #[.slice none 0 0] 29)).alloc (.cells #[.int .i64 0] 2)).alloc (.cells #[.int .i64 0] 2)) = W1 at *
  have CRC := Lib.hid (c_readCode _ _ _ _ G T _ s W1 (HH.out.new n1) hg ht hsz)
  refine ⟨trivial, ?_⟩
  gi_at_call 21
  refine (callsIn_wide.2 (CRC.out)).mono ?_
  rintro e w2 ⟨rfl, n2⟩
  rw [hrc.out]
  gi_wp2_with fail
  refine ⟨trivial, ?_⟩
  gi_at_call 22
  refine (callsIn_wide.2 (CL.out _)).mono ?_
  rintro e w3 ⟨lv, rfl, hLo, n3⟩
  have HLo := Lib.hid hLo.rd
  obtain ⟨Al, cl, rfl, _, hal⟩ := rd_form hLo.rd
  have HAL := Lib.hid hal
  clear hLo hal
  gi_wp2_with (refine ⟨trivial, ?_⟩; gi_at_call 23; refine (backS_in (m0 - 1) _ _ _ _).mono ?_; rintro e w' ⟨rfl, rfl⟩)
  have n23 := n2.step n3
  have hw13 := n23.size
  have n30 : New w3 (((w3.alloc (.cells #[.slice Al L.length cl] 46)).alloc (.cells #[.slice none 0 0] 27)).alloc (.cells #[.slice Al L.length cl] 46)) := (((New.same w3).box _).box _).box _
  have q8 : Boxed (((w3.alloc (.cells #[.slice Al L.length cl] 46)).alloc (.cells #[.slice none 0 0] 27)).alloc (.cells #[.slice Al L.length cl] 46)) w3.heap.size 46 (.slice Al L.length cl) := ((Boxed.new w3 46 (.slice Al L.length cl)).alloc _).alloc _
  have q9 : Boxed (((w3.alloc (.cells #[.slice Al L.length cl] 46)).alloc (.cells #[.slice none 0 0] 27)).alloc (.cells #[.slice Al L.length cl] 46)) (w3.heap.size + 1) 27 (.slice none 0 0) := by
    have := Boxed.new (w3.alloc (.cells #[.slice Al L.length cl] 46)) 27 (.slice none 0 0)
    rw [World.size_alloc] at this
    exact this.alloc _
  have q10 : Boxed (((w3.alloc (.cells #[.slice Al L.length cl] 46)).alloc (.cells #[.slice none 0 0] 27)).alloc (.cells #[.slice Al L.length cl] 46)) (w3.heap.size + 1 + 1) 46 (.slice Al L.length cl) := by
    have := Boxed.new ((w3.alloc (.cells #[.slice Al L.length cl] 46)).alloc (.cells #[.slice none 0 0] 27)) 46 (.slice Al L.length cl)
    rw [World.size_alloc, World.size_alloc] at this
    exact this
  have hs0 : (((w3.alloc (.cells #[.slice Al L.length cl] 46)).alloc (.cells #[.slice none 0 0] 27)).alloc (.cells #[.slice Al L.length cl] 46)).heap.size = w3.heap.size + 3 := by simp
  generalize (((w3.alloc (.cells #[.slice Al L.length cl] 46)).alloc (.cells #[.slice none 0 0] 27)).alloc (.cells #[.slice Al L.length cl] 46)) = W0 at *
  have n10 := n23.step n30
  have N0 := n1.step n10
  have B0 := B1.new n10
  have p1 : Boxed W0 (w.heap.size + 1) 29 (.slice none 0 0) := (n10.block _ r1.lt).trans r1
  have p2 : Boxed W0 (w.heap.size + 1 + 1) 2 (.int .i64 0) := (n10.block _ r2.lt).trans r2
  have p3 : Boxed W0 (w.heap.size + 1 + 1 + 1) 2 (.int .i64 0) := (n10.block _ r3.lt).trans r3
  obtain ⟨b, off, hA⟩ : ∃ b off, 0 < L.length → Al = some ⟨b, off, none⟩ := by
    by_cases h : 0 < L.length
    · obtain ⟨b, off, e⟩ := HAL.out h
      exact ⟨b, off, fun _ => e⟩
    · exact ⟨0, 0, fun h' => absurd h' h⟩
  have hcell : ∀ j (hj : j < L.length), W0.cell? ⟨b, off + j, none⟩ = some (.string L[j]) ∧ b < w3.heap.size := fun j hj => by
    have e := hA (by omega)
    have h1 := rd_cell HLo.out (New.same w3) (by rw [e]) (by omega) (show (L.map Value.string)[j]? = some (.string L[j]) by simp [hj])
    exact ⟨(n30.cell (p := ⟨b, off + j, none⟩) h1.2).trans h1.1, h1.2⟩
  have HBL := Lib.hid (show 0 < L.length → b < w3.heap.size from fun h => (hcell 0 h).2)
  clear n2 n3 n23 n30 B1 r1 r2 r3 CRC CL HLo HAL
  refine wpIn_rangeFunc_ownF rfl hm1 (gf := 48) (lb := #[.pointer (some ⟨w3.heap.size + 1 + 1, 0, none⟩)]) rfl trivial (enters_of Tryz.func48 (by kernel_rfl) rfl)
    (backS_stops (m0 - 1) (by omega) (w3.heap.size + 1 + 1) b off cl Al L (by omega) hA W0 (by omega) (fun h => by have := HBL.out h; omega) q10.cell (fun j hj => (hcell j hj).1))
    KpC.trans (fun W l o o' _ h ho _ => KpC.put W l o o' h ho) (Below.refl _ _) (fun _ => rfl)
    (fun pre W => (FrB (w3.heap.size + 1) W0.heap.size W0 W ∧ okF T.length L pre) ∧ ∃ v, Boxed W (w3.heap.size + 1) 27 v ∧ W.ownsRow W0.heap.size 85 3 v (accF T.length L pre).length ((accF T.length L pre).flatMap plCells) ∧ True)
    (fun c pre W => (c = .ret ∧ GrStop T.length L (w.heap.size + 1) 29 2 pre W) ∧ Below w.heap.size w W)
    (OwnFrom.and (OwnFrom.and (ownFrom_frB (Nat.le_refl _)) (ownFrom_const _)) (Own.from (holdsRow_own _ _ _ _ _ (fun pre => (accF T.length L pre).length) (fun pre => (accF T.length L pre).flatMap plCells) (fun _ _ => True)) _))
    (fun c => OwnFrom.and (Own.from (fun s X Y row hs hg hr => ⟨hs.1, by
      obtain ⟨p, x, code, e1, e2, e3, e4, e5, e6, e7⟩ := hs.2
      exact ⟨p, x, code, e1, e2, e3, e4, boxed_kept2 e5 hg hr, boxed_kept2 e6 hg hr, boxed_kept2 e7 hg hr⟩⟩) _) (ownFrom_below (Nat.le_refl _) (by omega)))
    ⟨⟨FrB.refl _ _ _, okF_nil _ _⟩, _, q9, World.ownsRow_nil _ _ _ _, trivial⟩
    (fun x => { tmps := #[.agg #[.slice A G.length c, .slice B T.length d], .string s, .pointer (some ⟨w.heap.size, 0, none⟩), undef, .pointer (some ⟨w.heap.size + 1, 0, none⟩), .pointer (some ⟨w.heap.size + 1 + 1, 0, none⟩), .pointer (some ⟨w.heap.size + 1 + 1 + 1, 0, none⟩), .int .i64 0, .pointer (some ⟨w3.heap.size, 0, none⟩), .pointer (some ⟨w3.heap.size + 1, 0, none⟩), .int .i64 (x.1 : Int), .string L[x.1], undef, undef, .agg #[.slice A G.length c, .slice B T.length d], .string s, .int .i64 0, .int .i64 0, .bool false, undef, undef, .string s, .slice Al L.length cl, .slice Al L.length cl, .func (.func 48) #[] #[.pointer (some ⟨w3.heap.size + 1 + 1, 0, none⟩)], .int .i64 (x.1 : Int), .string L[x.1], undef, undef, undef, undef, undef, undef, undef, undef, undef, undef, undef, undef, undef, undef, undef, undef, undef, undef, undef, undef, undef, undef, undef, undef], defers := [] }) ?assign ?body ?done ?stop
  case assign =>
    intro l x W K hK
    gi_wp2
    exact hK
  case body =>
    rintro l pre x W ⟨⟨hF, hok⟩, v, hv, hr, _⟩ hlt
    have hsize := hF.size
    have hq : ∀ k, k < W0.heap.size → k ≠ w3.heap.size + 1 → W.heap[k]? = W0.heap[k]? := fun k h1 h2 => hF.block k h1 h2
    have HQ := Lib.hid hq
    obtain ⟨Av, cv, rfl⟩ := own_sl3 hr
    have BW := hF.box B0 (by omega) (by omega)
    have q8W : Boxed W w3.heap.size 46 (.slice Al L.length cl) := (hq _ (by omega) (by omega)).trans q8
    have p1W : Boxed W (w.heap.size + 1) 29 (.slice none 0 0) := (hq _ (by omega) (by omega)).trans p1
    have p2W : Boxed W (w.heap.size + 1 + 1) 2 (.int .i64 0) := (hq _ (by omega) (by omega)).trans p2
    have p3W : Boxed W (w.heap.size + 1 + 1 + 1) 2 (.int .i64 0) := (hq _ (by omega) (by omega)).trans p3
    have NW : New w W := N0.trans ((hF.below (by omega)).mono (by omega))
    have hal := accF_le T.length L pre
    have hx2 := x.2
    have CG := Lib.hid (c_gridRow (.slice A G.length c) B T.length d (accF T.length L pre).length L[x.1] ((L.length : Int) - 1 - (x.1 : Int)) W hmT rfl (by have := HLS.out _ (List.getElem_mem x.2); omega) (tab_new hT NW) (err_new hE NW) hal)
    have EY := Lib.hid (show (L.length : Int) - 1 - (x.1 : Int) = yOf L x by show (L.length : Int) - 1 - (x.1 : Int) = ((L.length - 1 - x.1 : Nat) : Int); omega)
    obtain ⟨more, code, hV⟩ : ∃ a b, rowG T.length ((L.length : Int) - 1 - (x.1 : Int)) (accF T.length L pre).length 0 (wds L[x.1] 0 0) [] = (a, b) := ⟨_, _, rfl⟩
    have HV := Lib.hid (show rwG T.length (accF T.length L pre) (yOf L x) L[x.1] = (more, code) by unfold rwG; rw [← EY.out]; exact hV)
    have HX := Lib.hid (accF_snoc T.length L pre x)
    rw [hV] at CG
    rw [HV.out] at HX
    have HOK := Lib.hid hok
    have HF := Lib.hid hF
    have HR := Lib.hid hr
    have HVB := Lib.hid hv
    have hml : (accF T.length L pre).length + more.length ≤ 500 := by
      have := (rowG_spec T.length (yOf L x) (accF T.length L pre).length (wds L[x.1] 0 0) 0 [] List.Pairwise.nil (by simp) (by simpa using hal)).2.2
      rw [← EY.out, hV] at this
      exact this
    have ⟨⟨bx1, by1⟩, _, bl1⟩ := BW.at2
    have x8 := q8W.cell
    have x9 := hv.cell
    generalize hAc : accF T.length L pre = acc at *
    have HAC := Lib.hid hAc
    clear hAc hV hok hF hr hv hq
    by_cases hc : code = 0
    · subst hc
      gi_wp2_with (first | (refine ⟨trivial, fun _ => by omega, ?_⟩; gi_at_call 24; refine (CallsIn.inRound l (callsIn_wide.2 CG.out)).mono ?_; rintro e w4 ⟨vr, rfl, hur, n4⟩; have HU := Lib.hid (hur rfl); clear hur; have hv4 := boxed_at HVB.out (n4.block _ HVB.out.lt); have y9 := hv4.cell; have hr4 := ownsRow_new HR.out n4; have hz4 : W0.heap.size ≤ w4.heap.size := Nat.le_trans hsize n4.size) | (gi_at_builtin; refine wpListIn_appR w4 rfl _ _ 27 rfl row_Placed W0.heap.size W.heap.size _ _ acc.length more.length _ _ rfl hr4 rfl HU.out (pls_one more) (by unfold maxLen; omega) (by omega) hz4 ?_; intro v1 w5 hown5 hgr5; have hv5 := boxed_at hv4 (hgr5.block _ hv4.lt (fun e => by have := (hr4.lt _ e.symm).1; omega)); have z9 := hv5.cell; have z9f := hv5.frozen; obtain ⟨A1, cc, hA1⟩ := own_sl3 hown5; subst hA1))
      have FG := (Below.refl W0.heap.size w4).grown hgr5 hz4 (fun k hk => (hr4.lt k hk).1)
      have FW := ((FrB.new (ba := w3.heap.size + 1) n4 hsize).trans (FrB.low FG)).set 0 (.slice A1 (acc.length + more.length) cc)
      have hbl := HBL.out (by omega)
      refine ⟨((KeepsOthers.of_new n4).trans (KeepsOthers.of_row3 hr4 hgr5)).trans (KeepsOthers.setCell _ _ _), KpC.of (FW.block _ (by omega) (by omega)) (FW.block _ (by omega) (by omega)), ⟨HF.out.trans FW, okF_snoc HOK.out (by rw [HAC.out, HV.out])⟩, _, hv5.set _, ?_, trivial⟩
      rw [HX.out, List.length_append, List.flatMap_append]
      exact ((Own.of hown5).fr ((Fr.refl (w3.heap.size + 1) (w3.heap.size + 2) w5).setCell (p := ⟨w3.heap.size + 1, 0, none⟩) (Nat.le_refl _) (Nat.lt_succ_self _) _) (.inr (by omega))).1
    · have g5 : (code != 0) = true := by simpa using hc
      gi_wp2_with (refine ⟨trivial, fun _ => by omega, ?_⟩; gi_at_call 24; refine (CallsIn.inRound l (callsIn_wide.2 CG.out)).mono ?_; rintro e w4 ⟨vr, rfl, hur, n4⟩; clear hur; have o1 := boxed_at p1W (n4.block _ p1W.lt); have o2 := boxed_at p2W (n4.block _ p2W.lt); have o3 := boxed_at p3W (n4.block _ p3W.lt); have o1c := o1.cell; have o2c := o2.cell; have o3c := o3.cell; have o1f := o1.frozen; have o2f := o2.frozen; have o3f := o3.frozen)
      exact ⟨(((KeepsOthers.of_new n4).trans (KeepsOthers.setCell _ _ _)).trans (KeepsOthers.setCell _ _ _)).trans (KeepsOthers.setCell _ _ _), ⟨rfl, pre, x, code, rfl, HOK.out, by rw [HAC.out, HV.out], hc, boxed_off (boxed_off (o1.set _) (by simp <;> omega) _) (by simp <;> omega) _, boxed_off ((boxed_off o2 (by simp <;> omega) _).set _) (by simp <;> omega) _, (boxed_off (boxed_off o3 (by simp <;> omega) _) (by simp <;> omega) _).set _⟩,
        (((NW.step n4).setCell (p := ⟨w.heap.size + 1, 0, none⟩) (by simp) _).setCell (p := ⟨w.heap.size + 1 + 1, 0, none⟩) (by simp; omega) _).setCell (p := ⟨w.heap.size + 1 + 1 + 1, 0, none⟩) (by simp; omega) _⟩
  case done =>
    rintro D xs W hD hxs ⟨⟨hF, hok⟩, v, hv, hr, _⟩ hK
    obtain ⟨hgr, hasc⟩ := grid_done hxs hok
    have hal := accF_le T.length L xs
    obtain ⟨Av, cv, rfl⟩ := own_sl3 hr
    have hsize := hF.size
    have hq : ∀ k, k < W0.heap.size → k ≠ w3.heap.size + 1 → W.heap[k]? = W0.heap[k]? := fun k h1 h2 => hF.block k h1 h2
    have p1W : Boxed W (w.heap.size + 1) 29 (.slice none 0 0) := (hq _ (by omega) (by omega)).trans p1
    have p2W : Boxed W (w.heap.size + 1 + 1) 2 (.int .i64 0) := (hq _ (by omega) (by omega)).trans p2
    have p3W : Boxed W (w.heap.size + 1 + 1 + 1) 2 (.int .i64 0) := (hq _ (by omega) (by omega)).trans p3
    have NW : New w W := N0.trans ((hF.below (by omega)).mono (by omega))
    have CA := Lib.hid (c_assemblyOf _ _ _ (accF T.length L xs) W (Own.of hr) (by omega) hasc)
    have x9 := hv.cell
    generalize hAc : accF T.length L xs = acc at *
    have HGR := Lib.hid hgr
    clear hAc hgr hok hF hr hv hq hasc hxs
    gi_wp2_with (refine ⟨trivial, ?_⟩; gi_at_call 25; refine (callsIn_wide.2 CA.out).mono ?_; rintro e w5 ⟨u, rfl, hO, n5⟩; obtain ⟨Au, cu, hAu⟩ := own_sl3 hO.1; subst hAu; have o1 := boxed_at p1W (n5.block _ p1W.lt); have o2 := boxed_at p2W (n5.block _ p2W.lt); have o3 := boxed_at p3W (n5.block _ p3W.lt); have o1c := o1.cell; have o2c := o2.cell; have o3c := o3.cell; have o1f := o1.frozen; have o2f := o2.frozen; have o3f := o3.frozen)
    have hK5 := ((((KeepsOthers.of_new n5).trans (KeepsOthers.setCell _ ⟨w.heap.size + 1, 0, none⟩ (.slice Au acc.length cu))).trans (KeepsOthers.setCell _ ⟨w.heap.size + 1 + 1, 0, none⟩ (.int .i64 0))).trans (KeepsOthers.setCell _ ⟨w.heap.size + 1 + 1 + 1, 0, none⟩ (.int .i64 0))).same D _ hK rfl
    have z1 := boxed_off (boxed_off (o1.set (.slice Au acc.length cu)) (p := ⟨w.heap.size + 1 + 1, 0, none⟩) (by simp <;> omega) (.int .i64 0)) (p := ⟨w.heap.size + 1 + 1 + 1, 0, none⟩) (by simp <;> omega) (.int .i64 0)
    have z2 := boxed_off ((boxed_off o2 (p := ⟨w.heap.size + 1, 0, none⟩) (by simp <;> omega) (.slice Au acc.length cu)).set (.int .i64 0)) (p := ⟨w.heap.size + 1 + 1 + 1, 0, none⟩) (by simp <;> omega) (.int .i64 0)
    have z3 := (boxed_off (boxed_off o3 (p := ⟨w.heap.size + 1, 0, none⟩) (by simp <;> omega) (.slice Au acc.length cu)) (p := ⟨w.heap.size + 1 + 1, 0, none⟩) (by simp <;> omega) (.int .i64 0)).set (.int .i64 0)
    have c5 := (boxed_kept2 z1 (grownBy_putObj' _ D (.deferred none)) (fun r e => by cases e; exact ⟨_, hK5, rfl⟩)).cell
    have c6 := (boxed_kept2 z2 (grownBy_putObj' _ D (.deferred none)) (fun r e => by cases e; exact ⟨_, hK5, rfl⟩)).cell
    have c7 := (boxed_kept2 z3 (grownBy_putObj' _ D (.deferred none)) (fun r e => by cases e; exact ⟨_, hK5, rfl⟩)).cell
    have F := (((Fr.refl (w.heap.size + 1) (w.heap.size + 4) w5).setCell (p := ⟨w.heap.size + 1, 0, none⟩) (by simp) (by simp) (.slice Au acc.length cu)).setCell (p := ⟨w.heap.size + 1 + 1, 0, none⟩) (by simp) (by simp) (.int .i64 0)).setCell (p := ⟨w.heap.size + 1 + 1 + 1, 0, none⟩) (by simp) (by simp) (.int .i64 0)
    have hrow := (hO.fr F (.inr (by omega))).1
    have hB6 := (((NW.step n5).setCell (p := ⟨w.heap.size + 1, 0, none⟩) (by simp) (.slice Au acc.length cu)).setCell (p := ⟨w.heap.size + 1 + 1, 0, none⟩) (by simp; omega) (.int .i64 0)).setCell (p := ⟨w.heap.size + 1 + 1 + 1, 0, none⟩) (by simp; omega) (.int .i64 0)
    refine ⟨by simp, .inl ⟨_, _, rfl, run_takeDeferred hK5, ?_⟩⟩
    rw [HGR.out]
    refine ⟨.tuple #[.agg #[.slice Au acc.length cu], .int .i64 0, .int .i64 0], ?_, _, rfl, ?_, ?_⟩
    · simp [results, Tryz.results7, go_sem, c5, c6, c7]
    · exact (Own.of (ownsRow_putObj hrow _ hK5 rfl)).wide (by omega) (Nat.le_refl _) (Nat.le_refl _)
    · exact hB6.trans (belowK_b (w := w) (Nat.le_refl _) _ D _ _ (by omega) hK5 rfl rfl)
  case stop =>
    rintro D c' pre W hD ⟨r, hr, hm⟩ ⟨⟨rfl, p, x, code, e1, e2, e3, e4, e5, e6, e7⟩, hB⟩ hK
    subst e1
    have hst := grid_stop (m := T.length) hr hm e2 (by rw [e3]; exact e4)
    rw [e3] at hst
    rw [hst]
    have c5 := (boxed_kept2 e5 (grownBy_putObj' W D (.deferred none)) (fun r e => by cases e; exact ⟨_, hK, rfl⟩)).cell
    have c6 := (boxed_kept2 e6 (grownBy_putObj' W D (.deferred none)) (fun r e => by cases e; exact ⟨_, hK, rfl⟩)).cell
    have c7 := (boxed_kept2 e7 (grownBy_putObj' W D (.deferred none)) (fun r e => by cases e; exact ⟨_, hK, rfl⟩)).cell
    gi_wp2
    refine ⟨by simp, .inl ⟨_, _, rfl, run_takeDeferred hK, ?_⟩⟩
    refine ⟨.tuple #[.agg #[.slice none 0 0], .int .i64 ((x.1 : Int) + 1), .int .i64 code], ?_, _, rfl, own_nil _ _ (Nat.le_refl _) _ _ _, hB.trans (belowK_b (w := w) (Nat.le_refl _) W D _ _ (by omega) hK rfl rfl)⟩
    simp [results, Tryz.results7, go_sem, c5, c6, c7]

set_option maxHeartbeats 1000000 in
theorem c_implReadGrid (lo hi : Nat) (gv tv : Value) (G : List (ByteArray × Int)) (T : List (ByteArray × List Int)) (sv : List Value) (s : ByteArray) (w : World) (h : RdS w lo hi gv tv G T sv) (hg : ∀ g ∈ G, g.1.size ≤ maxLen) (ht : ∀ t ∈ T, t.1.size ≤ maxLen) (hsz : s.size ≤ 1048576)
    (hT : TabW w) (hE : ErrW w) : Calls Tryz.prog 7 #[.agg #[gv, tv], .string s] w (GivesGrid w (gridV G T s.size (lnS s))) := by
  by_cases hy : setB G T = true ∧ ¬ 20000 < s.size
  · rw [gridV_yes hy.1 hy.2]
    exact (callsIn_wide (n := 5)).1 (readGrid_in 5 (by omega) lo hi gv tv G T sv s w h hg ht hsz hT hE hy.1 hy.2)
  · obtain ⟨A, c, B, d, rfl, rfl⟩ := h.form
    have HH := Lib.hid h
    clear h
    have HR := Lib.hid (show gridV G T s.size (lnS s) = ([], 0, rcV G T s.size) ∧ (rcV G T s.size = 1 ∨ rcV G T s.size = 2) by
      cases hs : setB G T
      · exact ⟨by rw [gridV_no hs]; simp [rcV, hs], .inl (by simp [rcV, hs])⟩
      · have hn : 20000 < s.size := by
          by_cases hn : 20000 < s.size
          · exact hn
          · exact absurd ⟨hs, hn⟩ hy
        exact ⟨by rw [gridV_long hs hn]; simp [rcV, hs, hn], .inr (by simp [rcV, hs, hn])⟩)
    obtain ⟨e1, e2⟩ := HR.out
    rw [e1]
    obtain ⟨R, hR⟩ : ∃ R, rcV G T s.size = R := ⟨_, rfl⟩
    rw [hR] at e2 ⊢
    have HRR := Lib.hid hR
    have g5 : (R != 0) = true := by rcases e2 with e | e <;> simp [e]
    clear hy e1 e2 hR HR
    have n0 : New w ((((w.alloc (.cells #[.slice A G.length c, .slice B T.length d] 35)).alloc (.cells #[.slice none 0 0] 29)).alloc (.cells #[.int .i64 0] 2)).alloc (.cells #[.int .i64 0] 2)) := ((((New.same w).box _).box _).box _).box _
    have r1 : BoxV ((((w.alloc (.cells #[.slice A G.length c, .slice B T.length d] 35)).alloc (.cells #[.slice none 0 0] 29)).alloc (.cells #[.int .i64 0] 2)).alloc (.cells #[.int .i64 0] 2)) (w.heap.size + 1) [.slice none 0 0] := .one (by go_simp) (by go_simp) (by simp <;> omega)
    have r2 : BoxV ((((w.alloc (.cells #[.slice A G.length c, .slice B T.length d] 35)).alloc (.cells #[.slice none 0 0] 29)).alloc (.cells #[.int .i64 0] 2)).alloc (.cells #[.int .i64 0] 2)) (w.heap.size + 1 + 1) [.int .i64 0] := .one (by go_simp) (by go_simp) (by simp <;> omega)
    have r3 : BoxV ((((w.alloc (.cells #[.slice A G.length c, .slice B T.length d] 35)).alloc (.cells #[.slice none 0 0] 29)).alloc (.cells #[.int .i64 0] 2)).alloc (.cells #[.int .i64 0] 2)) (w.heap.size + 1 + 1 + 1) [.int .i64 0] := .one (by go_simp) (by go_simp) (by simp <;> omega)
    go_enter Tryz.func7, Tryz.ntmps7
    go_wp2_with fail
    generalize ((((w.alloc (.cells #[.slice A G.length c, .slice B T.length d] 35)).alloc (.cells #[.slice none 0 0] 29)).alloc (.cells #[.int .i64 0] 2)).alloc (.cells #[.int .i64 0] 2)) = W0 at *
    refine (c_readCode _ _ _ _ G T _ s W0 (HH.out.new n0) hg ht hsz).mono ?_
    rintro e w2 ⟨rfl, n2⟩
    rw [HRR.out]
    have ⟨a1, f1, l1⟩ := (r1.new n2).at1
    have ⟨a2, f2, l2⟩ := (r2.new n2).at1
    have ⟨a3, f3, l3⟩ := (r3.new n2).at1
    have N2 := n0.step n2
    have hB := ((N2.setCell (p := ⟨w.heap.size + 1, 0, none⟩) (by simp) (.slice none 0 0)).setCell (p := ⟨w.heap.size + 1 + 1, 0, none⟩) (by simp; omega) (.int .i64 0)).setCell (p := ⟨w.heap.size + 1 + 1 + 1, 0, none⟩) (by simp; omega) (.int .i64 R)
    go_wp2
    exact bodyPost_ret (v := .tuple #[.agg #[.slice none 0 0], .int .i64 0, .int .i64 R]) (by simp [results, Tryz.results7, go_sem, a1, a2, a3, f1, f2, f3]) rfl ⟨_, rfl, own_nil _ _ (Nat.le_refl _) _ _ _, hB⟩
end Go.Proofs.YtcbifdfcllaaaaaGreatDoor
