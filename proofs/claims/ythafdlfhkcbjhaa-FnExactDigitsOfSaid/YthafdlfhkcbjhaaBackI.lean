/- impl.digitsOf; both sides of DigitsOf. -/
import Derived.Test.YthafdlfhkcbjhaaBack
namespace Go.Proofs.Ythafdlfhkcbjhaa
open Go.RowKit Go.Shelf Go.Deep
set_option linter.unusedVariables false
set_option linter.unusedSimpArgs false
attribute [local go_sem] Oper.semAt_some

/-- a full row made in a walk inside a fence -/
theorem wpListIn_make_full {F : Fence} {m : Nat} {P : Program} (w : World) {ops : Array Oper} {rest : List Oper} {o : Oper} {a : Act} {Q : Exit → Act → World → Prop}
    (hg : o.guard = none) (l c : Operand) (t : TypeId) (hop : o.op = Op.makeSlice t l c)
    (base : Nat) (e : TypeId) (i : TypeInfo) (z : Value) (size : Nat) (h1 : P.underlying t = some (.slice e)) (h2 : P.info? e = some i) (h3 : i.zero = some z) (h4 : i.size = size)
    (kl kc : IntKind) (n : Nat) (hl : a.eval l = .int kl (n : Int)) (hc : a.eval c = .int kc (n : Int)) (b2 : i.bytes * n ≤ 281474976710656) (b3 : n ≤ maxLen) (b4 : base ≤ w.heap.size)
    (hK : ∀ w', w'.ownsRow base e size (.slice (some ⟨w.heap.size, 0, none⟩) n n) n (madeCells z.cells (n * size)).toList → w.grownBy w' none → wpListIn F m P ops Q rest (a.put o.dst (.slice (some ⟨w.heap.size, 0, none⟩) n n)) w') :
    wpListIn F m P ops Q (o :: rest) a w := by
  obtain ⟨w', hrun, r1, r2⟩ := run_make_full (P := P) w base t e i z size h1 h2 h3 h4 kl kc n b2 b3 b4
  refine wpListIn_plain hg fun K hK' => ⟨by simp [Oper.about, hop], ?_⟩
  rw [Oper.semAt_plain F _ _ (by rw [hop]; intro c hc'; cases hc')]
  simp [execOp, hop, hl, hc, hrun, Result.andThen]
  exact hK' _ _ (hK w' r1 r2)

/-- the number and the row behind the rounds that have come -/
def dst (b : Int) (d : Nat) (n : Int) (pre : List (Fin d × Int)) : Int × List Int := pre.foldl (fun s x => (s.1 / b, s.2.set x.1.1 (s.1 % b))) (n, List.replicate d 0)
theorem dst_snoc (b : Int) (d : Nat) (n : Int) (pre : List (Fin d × Int)) (x : Fin d × Int) : dst b d n (pre ++ [x]) = ((dst b d n pre).1 / b, (dst b d n pre).2.set x.1.1 ((dst b d n pre).1 % b)) := by simp [dst]
theorem dst_rng {b : Int} {d : Nat} {n : Int} (hb : 2 ≤ b) (h0 : 0 ≤ n) (h1 : n ≤ 1679616) (pre : List (Fin d × Int)) : 0 ≤ (dst b d n pre).1 ∧ (dst b d n pre).1 ≤ 1679616 ∧ (dst b d n pre).2.length = d := by
  have key : ∀ (pre : List (Fin d × Int)) (s : Int × List Int), 0 ≤ s.1 → s.1 ≤ 1679616 → s.2.length = d → 0 ≤ (pre.foldl (fun s x => (s.1 / b, s.2.set x.1.1 (s.1 % b))) s).1 ∧ (pre.foldl (fun s x => (s.1 / b, s.2.set x.1.1 (s.1 % b))) s).1 ≤ 1679616 ∧ (pre.foldl (fun s x => (s.1 / b, s.2.set x.1.1 (s.1 % b))) s).2.length = d := by
    intro pre
    induction pre with
    | nil => exact fun s h0 h1 h2 => ⟨h0, h1, h2⟩
    | cons x r ih => exact fun s h0 h1 h2 => ih _ (Int.ediv_nonneg h0 (by omega)) (Int.le_trans (Int.ediv_le_self _ h0) h1) (by simpa using h2)
  exact key pre _ h0 h1 (by simp)
theorem dst_at {b : Int} {d : Nat} {n : Int} (hb : 2 ≤ b) (h0 : 0 ≤ n) (h1 : n ≤ 1679616) : ∀ (m r : Nat) (xs : List (Fin d × Int)), r + m = d → xs.map (fun x => x.1.1) = dnI d r →
    ∃ R S, (dst b d n xs).2 = R ++ S ∧ R.length = r ∧ dgL b d n = dgL b r (dst b d n xs).1 ++ S
  | 0, r, xs, hr, hx => by
    obtain rfl : r = d := by omega
    have : xs = [] := by simpa [dnI] using hx
    subst this
    exact ⟨List.replicate r 0, [], by simp [dst], by simp, by simp [dst]⟩
  | m + 1, r, xs, hr, hx => by
    rw [dnI_step (by omega)] at hx
    obtain ⟨ys, zs, rfl, hy, hz⟩ := List.map_eq_append_iff.1 hx
    match zs, hz with
    | [x], hz =>
      have hxr : x.1.1 = r := by simpa using hz
      obtain ⟨R, S, e1, e2, e3⟩ := dst_at hb h0 h1 m (r + 1) ys (by omega) hy
      refine ⟨R.take r, (dst b d n ys).1 % b :: S, ?_, by rw [List.length_take]; omega, ?_⟩
      · rw [dst_snoc, e1, hxr]
        simp only
        rw [List.set_append_left _ _ (by omega), List.set_eq_take_append_cons_drop, if_pos (by omega), List.drop_of_length_le (by omega)]
        simp
      · rw [e3, dst_snoc]
        simp [dgL]
theorem dst_end {b : Int} {d : Nat} {n : Int} (hb : 2 ≤ b) (h0 : 0 ≤ n) (h1 : n ≤ 1679616) {xs : List (Fin d × Int)} (hx : xs.map (fun x => x.1.1) = dnI d 0) : (dst b d n xs).2 = dgL b d n := by
  obtain ⟨R, S, e1, e2, e3⟩ := dst_at hb h0 h1 d 0 xs (by omega) hx
  obtain rfl := List.eq_nil_of_length_eq_zero e2
  rw [e1, e3]
  simp [dgL]

theorem ownFrom_row {β : Type} (n₀ B : Nat) (e : TypeId) (g d : Nat) (f : β → List Value) : OwnFrom B (fun s W => W.ownsRow n₀ e 1 (.slice (some ⟨g, 0, none⟩) d d) d (f s)) := by
  intro s X Y row hr hg hrow
  refine hr.kept hg ?_
  rcases hr.2 with ⟨hv, _⟩ | ⟨g', cap, cur, hv, _, hgb, _⟩
  · simp at hv
  · refine .inr fun e' => ?_
    obtain ⟨_, o, ho, hc⟩ := hrow g (by simpa [Value.ownBlock] using e'.symm)
    simp only [Value.slice.injEq, Option.some.injEq, Addr.mk.injEq, and_true, true_and] at hv
    obtain ⟨rfl, rfl⟩ := hv
    rw [hgb] at ho; cases ho; cases hc
theorem KpB.of {Bs b d B : Nat} {e : TypeId} {W W' : World} {zs : List Int} (h : W'.heap[Bs]? = W.heap[Bs]?) (hl : zs.length = d) (hr : W'.ownsRow B e 1 (.slice (some ⟨b, 0, none⟩) d d) d (zs.map (Value.int .i64))) : KpB Bs b d W W' :=
  ⟨fun v hv => (World.cell?_of_block h).trans hv, fun _ j hj => ⟨zs[j]'(by omega), by rw [hr.cellAt j (by omega)]; simp [show j < zs.length by omega]⟩⟩

theorem madeCells_zero (d : Nat) : (madeCells (Value.int IntKind.i64 0).cells d).toList = (List.replicate d (0 : Int)).map (Value.int .i64) := by
  simp only [madeCells, Value.cells]
  apply List.ext_getElem
  · simp
  · intro i h1 h2
    simp [Nat.mod_one]
theorem boxed_kept {W W' : World} {B : Nat} {t : TypeId} {v : Value} {row : Option Nat} (h : Boxed W B t v) (hg : W.grownBy W' row) (hr : ∀ r, row = some r → ∃ o : Obj, W.heap[r]? = some o ∧ o.isCells = false) : Boxed W' B t v := by
  refine h.kept hg (fun e => ?_)
  obtain ⟨o, ho, hc⟩ := hr B e.symm
  rw [show W.heap[B]? = _ from h] at ho
  cases ho; cases hc
theorem boxed_other {W : World} {B : Nat} {t : TypeId} {u : Value} (h : Boxed W B t u) {p : Addr} (hp : p.block ≠ B) (v : Value) : Boxed (W.setCell p v) B t u := (Below.heap_setCell _ _ _ _ (fun e => hp e.symm)).trans h
theorem dig_round {b : Int} {d : Nat} {n q : Int} {L : List Int} {pre : List (Fin d × Int)} {x : Fin d × Int} {k O : Nat} {t t' : TypeId} {w W W3 : World} (e0 : Boxed W w.heap.size t (.int .i64 b)) (e1 : Boxed W (w.heap.size + 1) t (.int .i64 q))
    (e2 : Boxed W O t' (.slice (some ⟨w.heap.size + 1 + 1, 0, none⟩) d d)) (e3 : W.ownsRow w.heap.size t 1 (.slice (some ⟨w.heap.size + 1 + 1, 0, none⟩) d d) d (L.map (Value.int .i64))) (hB : Below w.heap.size w W) (hk : k < d) (hO : w.heap.size + 1 + 1 < O) (hO2 : w.heap.size + 1 + 1 < O + 1) (hL : L.length = d)
    (hX : dst b d n (pre ++ [x]) = (q / b, L.set k (q % b))) (hW3 : ((W.setCell ⟨w.heap.size + 1 + 1, k, none⟩ (.int .i64 (q % b))).setCell ⟨w.heap.size + 1, 0, none⟩ (.int .i64 (q / b))).drew = W3) :
    KeepsOthers W W3 ∧ KpB (O + 1) (w.heap.size + 1 + 1) d W W3 ∧ ((Boxed W3 w.heap.size t (.int .i64 b) ∧ Boxed W3 (w.heap.size + 1) t (.int .i64 (dst b d n (pre ++ [x])).1) ∧ Boxed W3 O t' (.slice (some ⟨w.heap.size + 1 + 1, 0, none⟩) d d)) ∧ W3.ownsRow w.heap.size t 1 (.slice (some ⟨w.heap.size + 1 + 1, 0, none⟩) d d) d ((dst b d n (pre ++ [x])).2.map (Value.int .i64))) ∧ Below w.heap.size w W3 := by
  have hrow : W3.ownsRow w.heap.size t 1 (.slice (some ⟨w.heap.size + 1 + 1, 0, none⟩) d d) d ((L.set k (q % b)).map (Value.int .i64)) := by
    have h1 := (e3.stored k (.int .i64 (q % b))).1
    have h2 := h1.kept (grownBy_setCell' _ (w.heap.size + 1) (.int .i64 (q / b))) (.inr (by simp [Value.ownBlock]))
    rw [← hW3, List.map_set]
    exact h2
  refine ⟨?_, KpB.of (W := W) (zs := L.set k (q % b)) ?_ (by simpa using hL) hrow, ⟨⟨?_, ?_, ?_⟩, ?_⟩, ?_⟩
  · rw [← hW3]; exact ((KeepsOthers.setCell _ _ _).trans (KeepsOthers.setCell _ _ _)).trans (KeepsOthers.drew _)
  · rw [← hW3]; exact (Below.heap_setCell _ _ _ _ (by simp; omega)).trans (Below.heap_setCell _ _ _ _ (by simp; omega))
  · rw [← hW3]; exact boxed_other (boxed_other e0 (by simp; omega) _) (by simp) _
  · rw [← hW3, hX]; exact (boxed_other e1 (by simp) _).set _
  · rw [← hW3]; exact boxed_other (boxed_other e2 (by simp; omega) _) (by simp; omega) _
  · rw [hX]; exact hrow
  · rw [← hW3]; exact ((hB.setCell (p := ⟨w.heap.size + 1 + 1, k, none⟩) (by simp; omega) _).setCell (p := ⟨w.heap.size + 1, 0, none⟩) (by simp) _).drew
set_option maxRecDepth 100000 in
set_option maxHeartbeats 2000000 in
theorem digitsOf_in (F : Fence) (m : Nat) (h3 : F.fn 32) (h5 : F.fn 67) (h7 : F.fn 82) (hro : F.round = none) (hn : 3 ≤ m) (b : Int) (d : Nat) (n : Int) (w : World) (h1 : 2 ≤ b) (h2 : b ≤ 6) (hd : d ≤ 8) (hn0 : 0 ≤ n) (hn1 : n ≤ 1679616) :
    CallsIn F m Try.prog 32 #[.int .i64 b, .int .i64 d, .int .i64 n] w fun e W' => e = .returned (.slice (some ⟨w.heap.size + 2, 0, none⟩) d d) ∧ W'.ownsRow w.heap.size 2 1 (.slice (some ⟨w.heap.size + 2, 0, none⟩) d d) d ((dgL b d n).map (Value.int .i64)) ∧ Below w.heap.size w W' := by
  have hm1 : 1 ≤ m := by omega
  obtain ⟨i0, hi0, hz0, hz1, hz2⟩ := info_parts info_int64
  refine callsIn_of_wp_marks Try.func32 rfl h3 ?_ hro
  simp only [Try.ntmps32, List.size_toArray, List.length_cons, List.length_nil, Nat.reduceAdd, Nat.reduceSub, Array.replicate_succ, Array.replicate_zero, List.push_toArray, List.append_toArray, List.nil_append, List.cons_append]
  gi_wp2_with (first | (gi_at_make; refine wpListIn_make_full _ rfl _ _ 22 rfl w.heap.size 2 i0 (.int .i64 0) 1 Try.underlying22 hi0 hz0 hz1 .i64 .i64 d rfl rfl (by rw [hz2]; omega) (by unfold maxLen; omega) (by simp; omega) ?_; intro w1 hown hgrow) | (gi_at_call 67; refine (back_in F (m - 1) h5 hro _ _ _ _).mono ?_; rintro e w' ⟨rfl, rfl⟩))
  have hs1 : w.heap.size + 2 ≤ w1.heap.size := by have := hgrow.size; simpa using this
  have bB : Boxed w1 w.heap.size 2 (.int .i64 b) := ((Boxed.new w 2 (.int .i64 b)).alloc _).kept hgrow (by simp)
  have bN : Boxed w1 (w.heap.size + 1) 2 (.int .i64 n) := by
    have := Boxed.new (w.alloc (.cells #[.int .i64 b] 2)) 2 (.int .i64 n)
    rw [World.size_alloc] at this
    exact this.kept hgrow (by simp)
  have hB1 : Below w.heap.size w w1 := (((Below.refl _ w).alloc (Nat.le_refl _) _).alloc (by simp) _).grown hgrow (by simp; omega) (fun k hk => by cases hk)
  simp only [World.size_alloc] at hown
  have hg0 : w.heap.size + 1 + 1 < w1.heap.size := (hown.lt _ rfl).2
  clear hgrow
  have bO := Boxed.new w1 22 (.slice (some ⟨w.heap.size + 1 + 1, 0, none⟩) d d)
  have bK := Boxed.new (w1.alloc (.cells #[.slice (some ⟨w.heap.size + 1 + 1, 0, none⟩) d d] 22)) 22 (.slice (some ⟨w.heap.size + 1 + 1, 0, none⟩) d d)
  rw [World.size_alloc] at bK
  have rows0 : (madeCells (Value.int IntKind.i64 0).cells (d * 1)).toList = (dst b d n []).2.map (Value.int .i64) := by
    simp [dst, madeCells_zero]
  rw [rows0] at hown
  obtain ⟨W0, hW0⟩ : ∃ W0, (w1.alloc (.cells #[.slice (some ⟨w.heap.size + 1 + 1, 0, none⟩) d d] 22)).alloc (.cells #[.slice (some ⟨w.heap.size + 1 + 1, 0, none⟩) d d] 22) = W0 := ⟨_, rfl⟩
  have c0 : Boxed W0 w.heap.size 2 (.int .i64 b) := by rw [← hW0]; exact (bB.alloc _).alloc _
  have c1 : Boxed W0 (w.heap.size + 1) 2 (.int .i64 n) := by rw [← hW0]; exact (bN.alloc _).alloc _
  have c2 : W0.ownsRow w.heap.size 2 1 (.slice (some ⟨w.heap.size + 1 + 1, 0, none⟩) d d) d ((dst b d n []).2.map (Value.int .i64)) := by rw [← hW0]; exact (hown.alloc _).alloc _
  have c3 : Boxed W0 w1.heap.size 22 (.slice (some ⟨w.heap.size + 1 + 1, 0, none⟩) d d) := by rw [← hW0]; exact bO.alloc _
  have c4 : Boxed W0 (w1.heap.size + 1) 22 (.slice (some ⟨w.heap.size + 1 + 1, 0, none⟩) d d) := by rw [← hW0]; exact bK
  have hB0 : Below w.heap.size w W0 := by rw [← hW0]; exact (hB1.alloc hB1.size _).alloc (by simp; omega) _
  have hs0 : W0.heap.size = w1.heap.size + 2 := by rw [← hW0]; simp
  rw [hW0]
  clear hW0 bB bN bO bK hown rows0 hB1
  generalize w1.heap.size = O at *
  clear w1
  refine wpIn_rangeFunc_ownF hro hm1 (gf := 82) (lb := #[.pointer (some ⟨O + 1, 0, none⟩)]) rfl h7 (enters_of Try.func82 (by kernel_rfl) rfl)
    (back_stops F (m - 1) h7 hro (by omega) (O + 1) (w.heap.size + 1 + 1) d (by omega) W0 (by omega) (by omega) c4.cell (fun j hj => ⟨_, by rw [c2.cellAt j (by omega), List.getElem?_map, List.getElem?_eq_getElem (by have := (dst_rng h1 hn0 hn1 (d := d) []).2.2; omega)]; rfl⟩))
    KpB.trans (fun W l o o' _ h ho _ => KpB.put W l o o' h ho) (Below.refl _ _) (fun _ => rfl)
    (fun pre W => ((Boxed W w.heap.size 2 (.int .i64 b) ∧ Boxed W (w.heap.size + 1) 2 (.int .i64 (dst b d n pre).1) ∧ Boxed W O 22 (.slice (some ⟨w.heap.size + 1 + 1, 0, none⟩) d d)) ∧ W.ownsRow w.heap.size 2 1 (.slice (some ⟨w.heap.size + 1 + 1, 0, none⟩) d d) d ((dst b d n pre).2.map (Value.int .i64))) ∧ Below w.heap.size w W)
    (fun _ _ _ => False)
    (OwnFrom.and (OwnFrom.and (Own.from (fun s X Y row hs hg hr => ⟨boxed_kept hs.1 hg hr, boxed_kept hs.2.1 hg hr, boxed_kept hs.2.2 hg hr⟩) _) (ownFrom_row _ _ _ _ _ _)) (ownFrom_below (Nat.le_refl _) (by omega)))
    (fun _ _ _ _ _ hs _ _ => hs)
    ⟨⟨⟨c0, c1, c3⟩, c2⟩, hB0⟩
    (fun x => { tmps := #[.int .i64 b, .int .i64 d, .int .i64 n, .pointer (some ⟨w.heap.size, 0, none⟩), undef, .pointer (some ⟨w.heap.size + 1, 0, none⟩), .slice none 0 0, .pointer (some ⟨O, 0, none⟩), .int .i64 (x.1.1 : Int), .int .i64 d, .slice (some ⟨w.heap.size + 1 + 1, 0, none⟩) d d, .slice (some ⟨w.heap.size + 1 + 1, 0, none⟩) d d, .func (.func 82) #[] #[.pointer (some ⟨O + 1, 0, none⟩)], .int .i64 (x.1.1 : Int), .int .i64 x.2, undef, undef, undef, undef, undef, undef, undef, undef, undef, undef], defers := [] }) ?assign ?body ?done ?stop
  case assign =>
    intro l x W K hK
    gi_wp2
    exact hK
  case body =>
    rintro l pre ⟨⟨k, hk⟩, z⟩ W ⟨⟨⟨e0, e1, e2⟩, e3⟩, hB⟩ hlt
    obtain ⟨r0, r1, r2⟩ := dst_rng h1 hn0 hn1 pre
    have HX := Lib.hid (dst_snoc b d n pre ((⟨k, hk⟩ : Fin d), z))
    have HE := Lib.hid e3
    have HB := Lib.hid hB
    have HO := Lib.hid (And.intro e0 (And.intro e1 e2))
    obtain ⟨u, hu⟩ : ∃ u, W.cell? ⟨w.heap.size + 1 + 1, k, none⟩ = some u := ⟨((dst b d n pre).2.map (Value.int .i64))[k]'(by simp; omega), by rw [e3.cellAt k (by omega), List.getElem?_eq_getElem]⟩
    have hf := e3.frozenAt k
    have x0 := e0.cell
    have x1 := e1.cell
    have x1f := e1.frozen
    have x2 := e2.cell
    generalize (dst b d n pre).1 = q at *
    generalize (dst b d n pre).2 = L at *
    have m0 : 0 ≤ q % b := Int.emod_nonneg _ (by omega)
    have m1 : q % b < b := Int.emod_lt_of_pos _ (by omega)
    have c0 : 0 ≤ q / b := Int.ediv_nonneg r0 (by omega)
    have c1 : q / b ≤ 1679616 := Int.le_trans (Int.ediv_le_self _ r0) r1
    obtain ⟨W3, hW3⟩ : ∃ W3, ((W.setCell ⟨w.heap.size + 1 + 1, k, none⟩ (.int .i64 (q % b))).setCell ⟨w.heap.size + 1, 0, none⟩ (.int .i64 (q / b))).drew = W3 := ⟨_, rfl⟩
    have FIN := Lib.hid (dig_round (W := W) (k := k) e0 e1 e2 e3 hB (by omega) hg0 (by omega) r2 HX.out hW3)
    have HW3 := Lib.hid hW3
    clear hW3 e0 e1 e2 e3 hB
    have hd9 : 1 ≤ m - 1 - 1 := by omega
    have hmx : Try.prog.follows .mixedOrders = true := by kernel_rfl
    gi_wp2
    gi_region_with_o (fail)
    all_goals gi_wp2
    all_goals (try go_bits)
    all_goals rw [HW3.out]
    all_goals exact FIN.out
  case done =>
    rintro D ys W hD hys ⟨⟨⟨e0, e1, e2⟩, e3⟩, hB⟩ hK
    have x2 := e2.cell
    have hE := Lib.hid (dst_end h1 hn0 hn1 hys)
    rw [hE.out] at e3
    gi_wp2
    refine ⟨by simp, .inl ⟨_, _, rfl, run_takeDeferred hK, ?_⟩⟩
    exact ⟨_, results_tmp rfl _ _ _, rfl, ownsRow_putObj e3 _ hK rfl, hB.trans (belowK_b (w := w) (Nat.le_refl _) W D _ _ (by omega) hK rfl rfl)⟩
  case stop =>
    rintro D c pre W _ _ h _
    exact h.elim
theorem c_digitsOf (b : Int) (d : Nat) (n : Int) (w : World) (h1 : 2 ≤ b) (h2 : b ≤ 6) (hd : d ≤ 8) (hn0 : 0 ≤ n) (hn1 : n ≤ 1679616) :
    Calls Try.prog 32 #[.int .i64 b, .int .i64 d, .int .i64 n] w (GivesRow w 2 1 d ((dgL b d n).map (Value.int .i64))) :=
  ((callsIn_wide (n := 3)).1 (digitsOf_in Fence.wide 3 trivial trivial trivial rfl (by omega) b d n w h1 h2 hd hn0 hn1)).mono fun e W' ⟨he, hr, hB⟩ => ⟨_, he, Own.of hr, hB⟩

def dgV (b d n : Int) : List Int := if cntB b d n then dgL b d.toNat n else []
def dgC (b d n : Int) : Int := if cntB b d n then 0 else 2
theorem dgV_len (b d n : Int) : (dgV b d n).length ≤ 8 := by
  unfold dgV
  split
  · rename_i h
    simp only [cntB, dgB, Bool.and_eq_true, inB_iff] at h
    rw [dgL_len]; omega
  · simp
set_option maxHeartbeats 1000000 in
theorem c_specDigitsOf (b d n : Int) (w : World) : Calls Try.prog 7 #[.int .i64 b, .int .i64 d, .int .i64 n] w (GivesRowCode w 2 1 (dgV b d n).length ((dgV b d n).map (Value.int .i64)) (dgC b d n)) := by
  cases hc : cntB b d n
  · have E1 := Lib.hid (show dgV b d n = [] by simp [dgV, hc])
    have E2 := Lib.hid (show dgC b d n = 2 by simp [dgC, hc])
    go_enter Try.func7, Try.ntmps7
    go_wp2_with (go_at_call 29; refine (c_l15Counter _ _ _ _).mono ?_; rintro e w' ⟨rfl, rfl⟩)
    go_ret2
    rw [E1.out, E2.out]
    exact ⟨_, rfl, ⟨World.ownsRow_nil _ _ _ _, Nat.le_refl _, fun g hg => by cases hg⟩, New.same _⟩
  · have hh := hc
    simp only [cntB, dgB, Bool.and_eq_true, inB_iff] at hh
    obtain ⟨⟨⟨h1, h2⟩, h3, h4⟩, h5, h6⟩ := hh
    obtain ⟨p1, p2⟩ := pw_bd h1 h2 (show d.toNat ≤ 8 by omega)
    obtain ⟨m, rfl⟩ := Int.eq_ofNat_of_zero_le (show 0 ≤ d by omega)
    have E1 := Lib.hid (show dgV b m n = dgL b m n by simp [dgV, hc])
    have E2 := Lib.hid (show dgC b m n = 0 by simp [dgC, hc])
    go_enter Try.func7, Try.ntmps7
    go_wp2_with (first | (go_at_call 29; refine (c_l15Counter _ _ _ _).mono ?_; rintro e w' ⟨rfl, rfl⟩) | (go_at_call 30; refine (c_l15Digits b m n _ h1 h2 (by omega) h5 (by omega)).mono ?_; rintro e w1 ⟨v, rfl, ho, n1⟩))
    go_ret2
    rw [E1.out, E2.out, dgL_len]
    exact ⟨_, rfl, ho, n1⟩
set_option maxHeartbeats 1000000 in
theorem c_implDigitsOf (b d n : Int) (w : World) : Calls Try.prog 8 #[.int .i64 b, .int .i64 d, .int .i64 n] w (GivesRowCode w 2 1 (dgV b d n).length ((dgV b d n).map (Value.int .i64)) (dgC b d n)) := by
  cases hc : cntB b d n
  · have E1 := Lib.hid (show dgV b d n = [] by simp [dgV, hc])
    have E2 := Lib.hid (show dgC b d n = 2 by simp [dgC, hc])
    go_enter Try.func8, Try.ntmps8
    go_wp2_with (go_at_call 31; refine (c_countOk _ _ _ _).mono ?_; rintro e w' ⟨rfl, rfl⟩)
    go_ret2
    rw [E1.out, E2.out]
    exact ⟨_, rfl, ⟨World.ownsRow_nil _ _ _ _, Nat.le_refl _, fun g hg => by cases hg⟩, New.same _⟩
  · have hh := hc
    simp only [cntB, dgB, Bool.and_eq_true, inB_iff] at hh
    obtain ⟨⟨⟨h1, h2⟩, h3, h4⟩, h5, h6⟩ := hh
    obtain ⟨p1, p2⟩ := pw_bd h1 h2 (show d.toNat ≤ 8 by omega)
    obtain ⟨m, rfl⟩ := Int.eq_ofNat_of_zero_le (show 0 ≤ d by omega)
    have E1 := Lib.hid (show dgV b m n = dgL b m n by simp [dgV, hc])
    have E2 := Lib.hid (show dgC b m n = 0 by simp [dgC, hc])
    go_enter Try.func8, Try.ntmps8
    go_wp2_with (first | (go_at_call 31; refine (c_countOk _ _ _ _).mono ?_; rintro e w' ⟨rfl, rfl⟩) | (go_at_call 32; refine (c_digitsOf b m n _ h1 h2 (by omega) h5 (by omega)).mono ?_; rintro e w1 ⟨v, rfl, ho, n1⟩))
    go_ret2
    rw [E1.out, E2.out, dgL_len]
    exact ⟨_, rfl, ho, n1⟩
end Go.Proofs.Ythafdlfhkcbjhaa
