/- How an argument that can be read as data is opened into lists: one lemma over all element types, then one for each struct. -/
import Derived.Test.YtcbifdfcllaaaaaGreatDoorMem
import Derived.OpenShut
namespace Go.Proofs.YtcbifdfcllaaaaaGreatDoor
open Go.RowKit Go.WideShapes Go.ChangeShapes Go.Deep

theorem addr_add_plain (b off j : Nat) : (⟨b, off, none⟩ : Addr).add j = ⟨b, off + j, none⟩ := by
  unfold Addr.add
  by_cases h : j = 0
  · simp [h]
  · simp [h]

theorem flat_one {α : Type} (f : α → Value) (xs : List α) : (xs.flatMap fun x => [f x]) = xs.map f := by
  induction xs with
  | nil => rfl
  | cons x r ih => simp [ih]

theorem flat_len {α : Type} (f : α → List Value) (C : Nat) (hf : ∀ x, (f x).length = C) (xs : List α) : (xs.flatMap f).length = xs.length * C := by
  induction xs with
  | nil => simp
  | cons x r ih => simp [ih, hf, Nat.add_mul, Nat.add_comm]

theorem flat_get {α : Type} (f : α → List Value) (C : Nat) (hf : ∀ x, (f x).length = C) (xs : List α) (i r : Nat) (hi : i < xs.length) (hr : r < C) :
    (xs.flatMap f)[i * C + r]? = (f xs[i])[r]? := by
  induction xs generalizing i with
  | nil => simp at hi
  | cons x l ih =>
    rw [List.flatMap_cons]
    cases i with
    | zero => rw [List.getElem?_append_left (by rw [hf]; omega)]; simp
    | succ i =>
      rw [List.getElem?_append_right (by rw [hf, Nat.add_mul]; omega)]
      have := ih i (by simpa using hi)
      rw [hf, show (i + 1) * C + r - C = i * C + r by rw [Nat.add_mul]; omega, this]
      simp

section
variable {H : Type} {enc : TypeId × Value → H} {P : Program} {W : World} {spare : Nat → Bool} {held : Bool}

theorem rd_of_trod {α : Type} (f : α → List Value) (good : α → Prop) {t e : TypeId} {C fuel : Nat} {v : Value} {x : DataW H × List MemPlace}
    (hC : P.cellsOf e = C) (hC0 : 0 < C) (hf : ∀ x, (f x).length = C)
    (hdec : ∀ n cs' y, DataW.trod enc P W 0 spare held n e cs' = some y → (∀ p ∈ y.2, p.block < W.heap.size) → ∃ x : α, cs' = f x ∧ good x)
    (ht : P.underlying t = some (.slice e)) (h : DataW.trod enc P W 0 spare held fuel t [v] = some x) (hlt : ∀ p ∈ x.2, p.block < W.heap.size) :
    ∃ xs : List α, Rd W 0 W.heap.size C v xs.length (xs.flatMap f) ∧ ∀ x ∈ xs, good x := by
  rcases open_slice ht h with ⟨hcs, _⟩ | ⟨a, len, cap, m, n, D, Pl, hcs, _, hl, hm, hmm, hx, hi⟩
  · obtain rfl : v = .slice none 0 0 := by simpa using hcs
    exact ⟨[], (Rd.nil_ W C).wide (Nat.le_refl _) (Nat.zero_le _) (Nat.le_refl _), by simp⟩
  · obtain rfl : v = .slice (some a) len cap := by simpa using hcs
    have hlm : len ≤ m := by rw [hmm]; split <;> omega
    rw [hC] at hi hx
    have hex : ∀ i : Fin len, ∃ x : α, W.cells? 0 (a.add (i.1 * C)) C = some (f x) ∧ good x := by
      intro i
      obtain ⟨cs', h1, h2⟩ := hi i.1 (by omega)
      obtain ⟨x, rfl, hg⟩ := hdec _ _ _ h2 (fun p hp => hlt p (by
        rw [hx]
        refine List.mem_append.2 (.inr (List.mem_flatMap.2 ⟨i.1, by simp; omega, hp⟩))))
      exact ⟨x, h1, hg⟩
    refine ⟨List.ofFn fun i => Classical.choose (hex i), ⟨?_, ?_, Nat.le_refl _, _, _, by rw [List.length_ofFn], ?_⟩, ?_⟩
    · rw [flat_len f C hf]
    · rw [List.length_ofFn]; unfold maxLen at hm; omega
    · intro hn
      rw [List.length_ofFn] at hn
      have hcell : ∀ (i : Nat) (hi : i < len) (r : Nat), r < C → W.cell? (a.add (i * C + r)) = (f (Classical.choose (hex ⟨i, hi⟩)))[r]? := by
        intro i hi r hr
        have h1 := (Classical.choose_spec (hex ⟨i, hi⟩)).1
        obtain ⟨_, _, h2⟩ := World.cells?_some h1
        rw [← h2 r hr, Go.Deep.add_add]
      have h00 := hcell 0 hn 0 hC0
      have hs0 : W.cell? a = some ((f (Classical.choose (hex ⟨0, hn⟩)))[0]'(by rw [hf]; exact hC0)) := by
        rw [← List.getElem?_eq_getElem, ← h00]
        simp [Addr.add]
      obtain ⟨b, off, spot⟩ := a
      have hspot : spot = none := by simpa using World.cell?_spot hs0
      subst hspot
      refine ⟨b, off, rfl, Nat.zero_le _, World.block_lt_of_cell? W ⟨b, off, none⟩ hs0, ?_⟩
      intro j u hj
      have hjl : j < len * C := by
        have := (List.getElem?_eq_some_iff.1 hj).1
        rw [flat_len f C hf, List.length_ofFn] at this
        exact this
      have hq : j / C < len := (Nat.div_lt_iff_lt_mul hC0).2 hjl
      have hr : j % C < C := Nat.mod_lt _ hC0
      have hj' : j = j / C * C + j % C := by rw [Nat.mul_comm]; exact (Nat.div_add_mod j C).symm
      have e1 := hcell (j / C) hq (j % C) hr
      rw [← hj'] at e1
      have e2 := flat_get f C hf (List.ofFn fun i => Classical.choose (hex i)) (j / C) (j % C) (by simpa using hq) hr
      rw [← hj', hj] at e2
      have ea := addr_add_plain b off j
      rw [← ea, e1, e2]
      simp
    · intro x hx'
      obtain ⟨i, rfl⟩ := (List.mem_ofFn).1 hx'
      exact (Classical.choose_spec (hex i)).2

/-! ### Cells read back: integers, strings, structs -/
theorem dec_int {t : TypeId} {n : Nat} {cs : List Value} {y : DataW H × List MemPlace} (ht : P.underlying t = some (.int .i64)) (h : DataW.trod enc P W 0 spare held n t cs = some y) :
    ∃ z : Int, cs = [.int .i64 z] ∧ -9223372036854775808 ≤ z ∧ z ≤ 9223372036854775807 := by
  obtain ⟨z, rfl, _, hw⟩ := DataW.trod_int ht h
  refine ⟨z, rfl, ?_⟩
  have h1 : IntKind.i64.min = -9223372036854775808 := rfl
  have h2 : IntKind.i64.max = 9223372036854775807 := rfl
  simp only [Lit.wf, Bool.and_eq_true, decide_eq_true_eq] at hw
  omega

/-- two 64-bit integers -/
theorem dec_ii {t t0 t1 : TypeId} {n : Nat} {cs : List Value} {y : DataW H × List MemPlace} {f0 f1 : Field} (ht : P.underlying t = some (.struct #[f0, f1])) (hC : P.cellsOf t = 2)
    (e0 : f0.type = t0) (e1 : f1.type = t1) (o0 : f0.offset = 0) (o1 : f1.offset = 1) (c0 : P.cellsOf t0 = 1) (c1 : P.cellsOf t1 = 1)
    (u0 : P.underlying t0 = some (.int .i64)) (u1 : P.underlying t1 = some (.int .i64)) (h : DataW.trod enc P W 0 spare held n t cs = some y) :
    ∃ p : Int × Int, cs = [.int .i64 p.1, .int .i64 p.2] ∧ (-9223372036854775808 ≤ p.1 ∧ p.1 ≤ 9223372036854775807) ∧ -9223372036854775808 ≤ p.2 ∧ p.2 ≤ 9223372036854775807 := by
  obtain ⟨y0, y1, m, _, hl, h0, h1⟩ := trod_struct2 ht h
  rw [hC] at hl
  match cs, hl with
  | [a, b], _ =>
    rw [e0, o0, c0] at h0
    rw [e1, o1, c1] at h1
    obtain ⟨x, ex, hx⟩ := dec_int u0 h0
    obtain ⟨z, ez, hz⟩ := dec_int u1 h1
    simp at ex ez
    subst ex ez
    exact ⟨(x, z), rfl, hx, hz⟩

/-! ### An argument -/
theorem open_i64 {t : TypeId} {r : Reach} {b0 : Nat} {v : Value} {d : DataW H} {ps : List MemPlace} (ht : P.underlying t = some (.int .i64)) (hv : Value.okWide P W r b0 t v) (h : DataW.Trod enc P W 0 spare held t v d ps) :
    ∃ z : Int, v = .int .i64 z ∧ -9223372036854775808 ≤ z ∧ z ≤ 9223372036854775807 := by
  obtain ⟨z, rfl, _, _, hw⟩ := open_int ht hv h
  refine ⟨z, rfl, ?_⟩
  have h1 : IntKind.i64.min = -9223372036854775808 := rfl
  have h2 : IntKind.i64.max = 9223372036854775807 := rfl
  simp only [Lit.wf, Bool.and_eq_true, decide_eq_true_eq] at hw
  omega

theorem open_ii {t t0 t1 : TypeId} {r : Reach} {b0 : Nat} {v : Value} {d : DataW H} {ps : List MemPlace} {f0 f1 : Field} (ht : P.underlying t = some (.struct #[f0, f1])) (hC : P.cellsOf t = 2)
    (e0 : f0.type = t0) (e1 : f1.type = t1) (o0 : f0.offset = 0) (o1 : f1.offset = 1) (c0 : P.cellsOf t0 = 1) (c1 : P.cellsOf t1 = 1)
    (u0 : P.underlying t0 = some (.int .i64)) (u1 : P.underlying t1 = some (.int .i64)) (hv : Value.okWide P W r b0 t v) (h : DataW.Trod enc P W 0 spare held t v d ps) :
    ∃ p : Int × Int, v = .agg #[.int .i64 p.1, .int .i64 p.2] ∧ (-9223372036854775808 ≤ p.1 ∧ p.1 ≤ 9223372036854775807) ∧ -9223372036854775808 ≤ p.2 ∧ p.2 ≤ 9223372036854775807 := by
  obtain ⟨cs, rfl, _⟩ := okWide_struct ht hv
  obtain ⟨n, hn⟩ := h
  obtain ⟨p, hp, h1, h2⟩ := dec_ii ht hC e0 e1 o0 o1 c0 c1 u0 u1 hn
  refine ⟨p, ?_, h1, h2⟩
  have : cs.toList = [.int .i64 p.1, .int .i64 p.2] := by simpa [Value.cells] using hp
  obtain ⟨l⟩ := cs
  simpa using this

theorem open_ints_rd {t e : TypeId} {r : Reach} {b0 : Nat} {v : Value} {d : DataW H} {ps : List MemPlace} (ht : P.underlying t = some (.slice e)) (he : P.underlying e = some (.int .i64)) (hC : P.cellsOf e = 1)
    (hv : Value.okWide P W r b0 t v) (h : DataW.Trod enc P W 0 spare held t v d ps) (hlt : ∀ x ∈ ps, x.block < W.heap.size) :
    ∃ zs : List Int, Rd W 0 W.heap.size 1 v zs.length (zs.map (Value.int .i64)) ∧ ∀ z ∈ zs, -9223372036854775808 ≤ z ∧ z ≤ 9223372036854775807 := by
  obtain ⟨a, l, c, rfl⟩ := okWide_slice ht hv
  obtain ⟨n, hn⟩ := h
  have key := rd_of_trod (fun z => [Value.int .i64 z]) (fun z => -9223372036854775808 ≤ z ∧ z ≤ 9223372036854775807) hC (by omega) (fun _ => rfl) (fun n cs' y hy _ => dec_int he hy) ht (by simpa [Value.cells] using hn) hlt
  obtain ⟨zs, h1, h2⟩ := key
  exact ⟨zs, by rw [← flat_one]; exact h1, h2⟩

/-- the cells of a point -/
def ptCells (p : Int × Int) : List Value := [.int .i64 p.1, .int .i64 p.2]

theorem open_pts_rd {t e t0 t1 : TypeId} {r : Reach} {b0 : Nat} {v : Value} {d : DataW H} {ps : List MemPlace} {f0 f1 : Field} (ht : P.underlying t = some (.slice e)) (he : P.underlying e = some (.struct #[f0, f1])) (hC : P.cellsOf e = 2)
    (e0 : f0.type = t0) (e1 : f1.type = t1) (o0 : f0.offset = 0) (o1 : f1.offset = 1) (c0 : P.cellsOf t0 = 1) (c1 : P.cellsOf t1 = 1)
    (u0 : P.underlying t0 = some (.int .i64)) (u1 : P.underlying t1 = some (.int .i64))
    (hv : Value.okWide P W r b0 t v) (h : DataW.Trod enc P W 0 spare held t v d ps) (hlt : ∀ x ∈ ps, x.block < W.heap.size) :
    ∃ zs : List (Int × Int), Rd W 0 W.heap.size 2 v zs.length (zs.flatMap ptCells) ∧ ∀ z ∈ zs, (-9223372036854775808 ≤ z.1 ∧ z.1 ≤ 9223372036854775807) ∧ -9223372036854775808 ≤ z.2 ∧ z.2 ≤ 9223372036854775807 := by
  obtain ⟨a, l, c, rfl⟩ := okWide_slice ht hv
  obtain ⟨n, hn⟩ := h
  exact rd_of_trod ptCells (fun z => (-9223372036854775808 ≤ z.1 ∧ z.1 ≤ 9223372036854775807) ∧ -9223372036854775808 ≤ z.2 ∧ z.2 ≤ 9223372036854775807) hC (by omega) (fun _ => rfl)
    (fun n cs' y hy _ => dec_ii he hC e0 e1 o0 o1 c0 c1 u0 u1 hy) ht (by simpa [Value.cells] using hn) hlt

theorem trodAll_kept (hl : laidOutB P = true) {W W' : World} (hb : Below W.heap.size W W') (sp : Nat → Bool) : ∀ (ts : List TypeId) (vs : List Value) (ds : List (DataW H)) (ps : List MemPlace),
    (ts.all fun t => P.readableRec t && decide (t < P.types.size)) = true → DataW.TrodAll enc P W 0 (fun _ => true) true ts vs ds ps → (∀ x ∈ ps, x.block < W.heap.size) → (∀ x ∈ ps, sp x.block = true) →
    DataW.TrodAll enc P W' 0 sp true ts vs ds ps := by
  intro ts
  induction ts with
  | nil =>
    intro vs ds ps _ h _ _
    obtain ⟨rfl, rfl, rfl⟩ := trodAll_nil h
    exact trodAll_mk0
  | cons t ts ih =>
    intro vs ds ps ht h hlt hsp
    obtain ⟨v, vs', d, ds', p, q, rfl, rfl, rfl, h0, h1⟩ := trodAll_cons h
    rw [List.all_cons, Bool.and_eq_true, Bool.and_eq_true] at ht
    refine trodAll_cons_mk (trod_kept hl ht.1.1 (of_decide_eq_true ht.1.2) h0 hb (fun x hx => hlt x (List.mem_append_left _ hx)) sp (fun x hx => hsp x (List.mem_append_left _ hx)))
      (ih vs' ds' q ht.2 h1 (fun x hx => hlt x (List.mem_append_right _ hx)) (fun x hx => hsp x (List.mem_append_right _ hx)))

/-- THE ROW's STEP OF A LAW: it returns true, and nothing that was there has turned. -/
theorem law_post (hl : laidOutB P = true) {f : Func} {s : ChangeSpec} {W W' : World} {args : Array Value} {ds gs : List (DataW H)} {before : List MemPlace} {tb : TypeId}
    (hts : (f.params.toList.all fun t => P.readableRec t && decide (t < P.types.size)) = true) (hrt : f.resultTypes = #[tb]) (htb : P.underlying tb = some .bool) (hsv : s.vars = [])
    (hr : ∀ ds : List (DataW H), ds.length = f.params.size → (s.fn H ds).results = [.lit (.bool true)] ∧ (s.fn H ds).args = ds ∧ (s.fn H ds).vars = [])
    (hW : DataW.Whole enc P f.params.toList s.vars false W args.toList ds gs before) (hb : Below W.heap.size W W') :
    s.post enc P f false true false false W args (.bool true) W' := by
  have hW' := hW
  obtain ⟨p, q, hA, hV, rfl, _, _⟩ := hW
  rw [hsv] at hV
  obtain ⟨rfl, rfl⟩ := trodVars_none hV
  have hlen : ds.length = f.params.size := by
    have : ∀ (ts : List TypeId) (vs : List Value) (ds : List (DataW H)) (ps : List MemPlace), DataW.TrodAll enc P W 0 (fun _ => true) true ts vs ds ps → ds.length = ts.length := by
      intro ts
      induction ts with
      | nil => intro vs ds ps h; obtain ⟨_, rfl, _⟩ := trodAll_nil h; rfl
      | cons t ts ih => intro vs ds ps h; obtain ⟨v, vs', d, ds', p, q, rfl, rfl, rfl, h0, h1⟩ := trodAll_cons h; simp [ih _ _ _ h1]
    simpa using this _ _ _ _ hA
  obtain ⟨h1, h2, h3⟩ := hr ds hlen
  have hlt : ∀ x ∈ p, x.block < W.heap.size := fun x hx => by have := hW'.lt x (by simpa using hx); exact this
  refine post_below (pa := p) (pv := []) hW' (fun b sp hd => ?_) (fun sp hsp => ?_) (fun sp _ => ?_) rfl hb ?_
  · rw [List.append_nil, h1, hrt]
    exact trodAll_mk1 (shut_bool htb _)
  · rw [List.append_nil, h2]
    exact trodAll_kept hl hb sp _ _ _ _ hts hA hlt (fun x hx => hsp x (by simpa using hx))
  · rw [List.append_nil, h3, hsv]
    rfl
  · exact ok_one hrt rfl (okWide_bool_mk htb _)
end

end Go.Proofs.YtcbifdfcllaaaaaGreatDoor
