/- Words for memory that the proofs of this seat share: slices that read as lists, rows that a call owns, frames. Plain lemmas; no program. -/
import Derived.Below
import Derived.Laws.OwnMore
import Derived.Deep.Draws
import Derived.Deep.Slices
import Derived.Deep.Fields
import Derived.ProofKit
import Derived.OwnWalk
import Derived.Maps.AppendAt
import Derived.Deep.AppendLies
import Derived.RegionTactic
namespace Go.Proofs.YtcbifdfcllaaaaaGreatDoor
open Go.RowKit Go.WideShapes Go.ChangeShapes Go.Deep

/-- Nothing that was there has turned. -/
abbrev New (w w' : World) : Prop := Below w.heap.size w w'

theorem New.step {a b c : World} (h : New a b) (k : New b c) : New a c := h.trans (k.mono h.size)
theorem New.same (w : World) : New w w := Below.refl _ _
theorem New.box {a b : World} (h : New a b) (o : Obj) : New a (b.alloc o) := h.alloc h.size o
theorem New.draws {a b : World} (h : New a b) (n : Nat) : New a (b.drewN n) := ⟨h.os, h.tape, h.output, h.size, h.block⟩

theorem New.drew_ {a b : World} (h : New a b) : New a b.drew := Below.drew h
/-- What was there reads as it did, as rules. -/
theorem New.rules {a b : World} (h : New a b) : (∀ k o, k < a.heap.size → b.cell? ⟨k, o, none⟩ = a.cell? ⟨k, o, none⟩) ∧ (∀ k o, k < a.heap.size → b.frozen? ⟨k, o, none⟩ = a.frozen? ⟨k, o, none⟩) :=
  ⟨fun k o hk => h.cell (p := ⟨k, o, none⟩) hk, fun k o hk => h.frozen (p := ⟨k, o, none⟩) hk⟩

/-- Of what was there at most the blocks from lo to below hi have turned. -/
structure Fr (lo hi : Nat) (w w' : World) : Prop where
  os : w'.os = w.os
  tape : w'.tape = w.tape
  output : w'.output = w.output
  size : w.heap.size ≤ w'.heap.size
  block : ∀ k, k < w.heap.size → (k < lo ∨ hi ≤ k) → w'.heap[k]? = w.heap[k]?

theorem Fr.of_new {lo hi : Nat} {w w' : World} (h : New w w') : Fr lo hi w w' := ⟨h.os, h.tape, h.output, h.size, fun k hk _ => h.block k hk⟩
theorem Fr.refl (lo hi : Nat) (w : World) : Fr lo hi w w := ⟨rfl, rfl, rfl, Nat.le_refl _, fun _ _ _ => rfl⟩
theorem Fr.trans {lo hi : Nat} {a b c : World} (h : Fr lo hi a b) (k : Fr lo hi b c) : Fr lo hi a c :=
  ⟨k.os.trans h.os, k.tape.trans h.tape, k.output.trans h.output, Nat.le_trans h.size k.size, fun i hi' ho => (k.block i (Nat.lt_of_lt_of_le hi' h.size) ho).trans (h.block i hi' ho)⟩
theorem Fr.wide {lo hi lo' hi' : Nat} {a b : World} (h : Fr lo hi a b) (h1 : lo' ≤ lo) (h2 : hi ≤ hi') : Fr lo' hi' a b :=
  ⟨h.os, h.tape, h.output, h.size, fun i hi ho => h.block i hi (by omega)⟩
theorem Fr.setCell {lo hi : Nat} {a b : World} (h : Fr lo hi a b) {p : Addr} (h1 : lo ≤ p.block) (h2 : p.block < hi) (u : Value) : Fr lo hi a (b.setCell p u) :=
  h.trans ⟨rfl, rfl, rfl, by simp [World.setCell], fun k _ ho => Below.heap_setCell _ _ _ _ (by omega)⟩
/-- A frame of blocks that the call itself made. -/
theorem Fr.below {lo hi B : Nat} {a b : World} (h : Fr lo hi a b) (hB : B ≤ lo) (hs : B ≤ a.heap.size) : Below B a b :=
  ⟨h.os, h.tape, h.output, h.size, fun i hi => h.block i (by omega) (by omega)⟩
theorem New.fr {lo hi : Nat} {a b c : World} (h : New a b) (k : Fr lo hi b c) (hl : a.heap.size ≤ lo) : New a c :=
  h.trans (k.below hl h.size)
theorem Fr.cell {lo hi : Nat} {w w' : World} (h : Fr lo hi w w') {p : Addr} (hs : p.block < w.heap.size) (hp : p.block < lo ∨ hi ≤ p.block) : w'.cell? p = w.cell? p := World.cell?_of_block (h.block p.block hs hp)

/-- The slice value v of n elements, size cells each, reads as the cells xs; its cells lie in blocks from lo to below hi. -/
def Rd (w : World) (lo hi size : Nat) (v : Value) (n : Nat) (xs : List Value) : Prop :=
  xs.length = n * size ∧ n ≤ 9223372036854775807 ∧ hi ≤ w.heap.size ∧ ∃ A c, v = .slice A n c ∧
    (0 < n → ∃ b off, A = some ⟨b, off, none⟩ ∧ lo ≤ b ∧ b < hi ∧ ∀ j u, xs[j]? = some u → w.cell? ⟨b, off + j, none⟩ = some u)

section
variable {w w' : World} {lo hi lo' hi' size n : Nat} {v : Value} {xs : List Value}

theorem Rd.nil_ (w : World) (size : Nat) : Rd w 0 0 size (.slice none 0 0) 0 [] := ⟨by simp, by omega, Nat.zero_le _, _, _, rfl, fun h => absurd h (by omega)⟩
theorem Rd.hi_le (h : Rd w lo hi size v n xs) : hi ≤ w.heap.size := h.2.2.1
theorem Rd.keep (h : Rd w lo hi size v n xs) (hs : w.heap.size ≤ w'.heap.size) (hk : ∀ p : Addr, lo ≤ p.block → p.block < hi → w'.cell? p = w.cell? p) : Rd w' lo hi size v n xs := by
  obtain ⟨h1, h2, h3, A, c, rfl, h4⟩ := h
  refine ⟨h1, h2, Nat.le_trans h3 hs, A, c, rfl, fun hn => ?_⟩
  obtain ⟨b, off, e, hl, hb, hc⟩ := h4 hn
  exact ⟨b, off, e, hl, hb, fun j u hu => (hk ⟨b, off + j, none⟩ hl hb).trans (hc j u hu)⟩
theorem Rd.new (h : Rd w lo hi size v n xs) (hn : New w w') : Rd w' lo hi size v n xs := h.keep hn.size fun _ _ hp => hn.cell (Nat.lt_of_lt_of_le hp h.hi_le)
theorem Rd.fr (h : Rd w lo hi size v n xs) (hf : Fr lo' hi' w w') (ho : hi ≤ lo' ∨ hi' ≤ lo) : Rd w' lo hi size v n xs :=
  h.keep hf.size fun p hl hp => hf.cell (Nat.lt_of_lt_of_le hp h.hi_le) (by omega)
theorem Rd.wide (h : Rd w lo hi size v n xs) (h1 : lo' ≤ lo) (h2 : hi ≤ hi') (h3 : hi' ≤ w.heap.size) : Rd w lo' hi' size v n xs := by
  obtain ⟨a1, a2, _, A, c, rfl, h4⟩ := h
  refine ⟨a1, a2, h3, A, c, rfl, fun hn => ?_⟩
  obtain ⟨b, off, e, hl, hb, hc⟩ := h4 hn
  exact ⟨b, off, e, by omega, by omega, hc⟩
end

/-- The slice value v owns a row of the call's own, in a block from lo to below hi. -/
def Own (w : World) (lo hi : Nat) (e : TypeId) (size : Nat) (v : Value) (n : Nat) (xs : List Value) : Prop :=
  w.ownsRow lo e size v n xs ∧ hi ≤ w.heap.size ∧ ∀ g, v.ownBlock = some g → g < hi

section
variable {w w' : World} {lo hi lo' hi' size n : Nat} {e : TypeId} {v : Value} {xs : List Value}
theorem Own.rd (h : Own w lo hi e size v n xs) : Rd w lo hi size v n xs := by
  obtain ⟨h1, h2, h3⟩ := h
  have hc := fun g => h1.cells (g := g)
  obtain ⟨hl, hr⟩ := h1
  rcases hr with ⟨rfl, rfl⟩ | ⟨g, cap, cur, rfl, hb, hg, hn, hm, _, _⟩
  · exact ⟨hl, by omega, h2, _, _, rfl, fun h => absurd h (by omega)⟩
  · refine ⟨hl, by unfold maxLen at hm; omega, h2, _, _, rfl, fun _ => ⟨g, 0, rfl, hb, h3 g rfl, fun j u hu => ?_⟩⟩
    have := hc g rfl j u hu
    have ha : (⟨g, 0, none⟩ : Addr).add j = ⟨g, 0 + j, none⟩ := by unfold Addr.add; split <;> simp_all
    rw [ha] at this
    exact this
theorem Own.keep (h : Own w lo hi e size v n xs) (hs : w.heap.size ≤ w'.heap.size) (hk : ∀ k, lo ≤ k → k < hi → w'.heap[k]? = w.heap[k]?) : Own w' lo hi e size v n xs := by
  obtain ⟨⟨hl, hr⟩, h2, h3⟩ := h
  refine ⟨⟨hl, ?_⟩, Nat.le_trans h2 hs, h3⟩
  rcases hr with hr | ⟨g, cap, cur, rfl, hb, hg, r⟩
  · exact .inl hr
  · exact .inr ⟨g, cap, cur, rfl, hb, (hk g hb (h3 g rfl)).trans hg, r⟩
theorem Own.new (h : Own w lo hi e size v n xs) (hn : New w w') : Own w' lo hi e size v n xs := h.keep hn.size fun k _ hk => hn.block k (Nat.lt_of_lt_of_le hk h.2.1)
theorem Own.fr (h : Own w lo hi e size v n xs) (hf : Fr lo' hi' w w') (ho : hi ≤ lo' ∨ hi' ≤ lo) : Own w' lo hi e size v n xs :=
  h.keep hf.size fun k hl hk => hf.block k (Nat.lt_of_lt_of_le hk h.2.1) (by omega)
theorem Own.of (h : w.ownsRow lo e size v n xs) : Own w lo w.heap.size e size v n xs := ⟨h, Nat.le_refl _, fun g hg => (h.lt g hg).2⟩
theorem Own.wide (h : Own w lo hi e size v n xs) (h1 : lo' ≤ lo) (h2 : hi ≤ hi') (h3 : hi' ≤ w.heap.size) : Own w lo' hi' e size v n xs := by
  obtain ⟨⟨hl, hr⟩, _, h4⟩ := h
  refine ⟨⟨hl, ?_⟩, h3, fun g hg => by have := h4 g hg; omega⟩
  rcases hr with hr | ⟨g, cap, cur, rfl, hb, r⟩
  · exact .inl hr
  · exact .inr ⟨g, cap, cur, rfl, by omega, r⟩
end

/-- A row of n elements, C cells each, that the call has made, whose first cells are A so far. -/
def Fill (w : World) (base : Nat) (e : TypeId) (C g n c : Nat) (A : List Value) : Prop := ∃ rest, w.ownsRow base e C (.slice (some ⟨g, 0, none⟩) n c) n (A ++ rest)

section
variable {w w' : World} {base C g n c : Nat} {e : TypeId} {A : List Value}
theorem Fill.start {xs : List Value} (h : w.ownsRow base e C (.slice (some ⟨g, 0, none⟩) n c) n xs) : Fill w base e C g n c [] := ⟨xs, by simpa using h⟩
theorem Fill.ge (h : Fill w base e C g n c A) : base ≤ g ∧ g < w.heap.size := by
  obtain ⟨rest, h⟩ := h
  exact h.lt g rfl
theorem Fill.cell (h : Fill w base e C g n c A) {j : Nat} (hj : j < n * C) : ∃ u, w.cell? ⟨g, j, none⟩ = some u := by
  obtain ⟨rest, h⟩ := h
  have hl := h.1
  exact ⟨(A ++ rest)[j]'(by omega), by rw [h.cellAt j hj, List.getElem?_eq_getElem]⟩
theorem Fill.at_ (h : Fill w base e C g n c A) {j : Nat} {u : Value} (hu : A[j]? = some u) : w.cell? ⟨g, j, none⟩ = some u := by
  obtain ⟨rest, h⟩ := h
  have hj : j < A.length := (List.getElem?_eq_some_iff.1 hu).1
  have hl := h.1
  rw [List.length_append] at hl
  rw [h.cellAt j (by omega), List.getElem?_append_left hj, hu]
theorem Fill.free (h : Fill w base e C g n c A) (j : Nat) : w.frozen? ⟨g, j, none⟩ = false := by
  obtain ⟨rest, h⟩ := h
  exact h.frozenAt j
theorem Fill.put (h : Fill w base e C g n c A) (hA : A.length < n * C) (u : Value) : Fill (w.setCell ⟨g, A.length, none⟩ u) base e C g n c (A ++ [u]) := by
  obtain ⟨rest, h⟩ := h
  have hl := h.1
  rw [List.length_append] at hl
  obtain ⟨h', _⟩ := h.stored A.length u
  match rest, hl, h' with
  | [], hl, _ => simp at hl; omega
  | x :: r, _, h' =>
    refine ⟨r, ?_⟩
    have : (A ++ x :: r).set A.length u = A ++ [u] ++ r := by simp
    rw [this] at h'
    exact h'
theorem Fill.new (h : Fill w base e C g n c A) (hn : New w w') : Fill w' base e C g n c A := by
  have hg := h.ge
  obtain ⟨rest, hl, hr⟩ := h
  refine ⟨rest, hl, ?_⟩
  rcases hr with ⟨hr, _⟩ | ⟨g', cap, cur, hv, hb, hh, r⟩
  · simp at hr
  · simp only [Value.slice.injEq, Option.some.injEq, Addr.mk.injEq, and_true, true_and] at hv
    obtain ⟨rfl, rfl⟩ := hv
    exact .inr ⟨g, c, cur, rfl, hb, (hn.block g hg.2).trans hh, r⟩
theorem Fill.drew (h : Fill w base e C g n c A) : Fill w.drew base e C g n c A := h.new ((New.same w).drew_)
theorem Fill.done (h : Fill w base e C g n c A) (hA : A.length = n * C) : w.ownsRow base e C (.slice (some ⟨g, 0, none⟩) n c) n A := by
  obtain ⟨rest, h⟩ := h
  have hl := h.1
  rw [List.length_append] at hl
  obtain rfl : rest = [] := List.eq_nil_of_length_eq_zero (by omega)
  simpa using h
end

/-- A call hands back a row of its own and a code. -/
def GivesRowCode (w : World) (e : TypeId) (C n : Nat) (xs : List Value) (code : Int) (E : Ending) (w' : World) : Prop :=
  ∃ v, E = .returned (.tuple #[v, .int .i64 code]) ∧ Own w' w.heap.size w'.heap.size e C v n xs ∧ New w w'

/-- A call hands back a row of its own, in new memory, with the cells xs; nothing that was there has turned. -/
def GivesRow (w : World) (e : TypeId) (C n : Nat) (xs : List Value) (E : Ending) (w' : World) : Prop :=
  ∃ v, E = .returned v ∧ Own w' w.heap.size w'.heap.size e C v n xs ∧ New w w'

/-- Slices of type t hold elements of type e: so many cells, so many bytes each. -/
def ElemRow (P : Program) (t e : TypeId) (size bytes : Nat) : Prop :=
  P.underlying t = some (.slice e) ∧ ∃ i z, P.info? e = some i ∧ i.zero = some z ∧ i.size = size ∧ i.bytes = bytes ∧ z.cells.size = size ∧ 0 < size

theorem elemRow {P : Program} {t e : TypeId} {z : Value} {size bytes : Nat} (ht : P.underlying t = some (.slice e)) (h : (P.info? e).map (fun i => (i.zero, i.size, i.bytes)) = some (some z, size, bytes)) (hz : z.cells.size = size) (h0 : 0 < size) : ElemRow P t e size bytes := by
  obtain ⟨i, h1, h2, h3, h4⟩ := info_parts h
  exact ⟨ht, i, z, h1, h2, h3, h4, hz, h0⟩

/-- What a call has appended so far: a row of its own, in blocks from base on. -/
def App (w : World) (base : Nat) (e : TypeId) (size : Nat) (v : Value) (n : Nat) (xs : List Value) : Prop := w.ownsRow base e size v n xs

/-- append of one element to a row of the call's own: the element has just been laid in a block of its own. -/
theorem wpList_app1 {P : Program} {ops : Array Oper} {rest : List Oper} {o : Oper} {a : Act} {Q : Exit → Act → World → Prop} (hgd : o.guard = none) (s x : Operand) {t e : TypeId} {size bytes : Nat}
    (ho : o.op = .call { callee := .builtin .append, args := #[s, x], argTypes := #[t, t] }) (hr : ElemRow P t e size bytes) (w0 : World) (base : Nat) {v : Value} {n : Nat} {xs : List Value}
    (hown : w0.ownsRow base e size v n xs) (hs : a.eval s = v) (news : List Value) (hx : a.eval x = .slice (some ⟨w0.heap.size, 0, none⟩) 1 1) (hl : news.length = size) (h1 : ∀ u ∈ news, u.oneCell' = true)
    (h63 : n + 1 ≤ maxLen) (hb : (n + 1) * bytes ≤ 140737488355328) (hbase : base ≤ w0.heap.size)
    (h : ∀ v' w', w'.ownsRow base e size v' (n + 1) (xs ++ news) → Below base w0 w' → w0.grownBy w' v.ownBlock → (v'.ownBlock = v.ownBlock ∨ v'.ownBlock = some (w0.heap.size + 1)) → wpList P ops Q rest (a.put o.dst v') w') : wpList P ops Q (o :: rest) a (w0.alloc (.cells news.toArray e)) := by
  obtain ⟨ht, i, z, hi, hz, hsize, hby, hzs, hsz⟩ := hr
  have hg0 : ∀ row, w0.grownBy (w0.alloc (.cells news.toArray e)) row := fun row => World.grownBy_alloc w0 _ row
  have hr1 := hown.alloc (.cells news.toArray e)
  refine wpList_plain hgd fun _ hK => ?_
  obtain ⟨v', w', hrun, h2, h3, _, h5⟩ := run_append_own_at (P := P) (w0.alloc (.cells news.toArray e)) base t o.type e i z size bytes ht hi hz hsize hby hzs hsz v n xs hr1 ⟨w0.heap.size, 0, none⟩ 1 1 news (by simpa using hl)
    (World.news_of_block (cs := news.toArray) (t := e) (fr := (0, 0)) (heap_alloc_new w0 _)) h1 h63 hb (by simp; omega)
  have hg : w0.grownBy w' v.ownBlock := ⟨h3.os, h3.tape, h3.output, Nat.le_trans (by simp) h3.size, fun k hk hne => (h3.block k (by simp; omega) hne).trans (Below.heap_alloc w0 _ k hk)⟩
  unfold Oper.wp execOp
  simp only [ho, resolve, invoke, builtin, Sem.run_bind, Sem.run_pure, Result.andThen_ok, List.map_toArray, List.map_cons, List.map_nil, hs, hx, hrun]
  refine hK _ _ (h v' w' h2 ((Below.refl _ _).grown hg hbase (fun k hk => (hown.lt k hk).1)) hg ?_)
  rcases h5 with h5 | h5
  · exact .inl h5
  · exact .inr (by simpa using h5)

section
variable {H : Type} {enc : TypeId × Value → H} {P : Program}
/-- The row's last step: what was there is as it was; the results are read in new memory. -/
theorem post_below {f : Func} {s : ChangeSpec} {apart fresh handsOn again : Bool} {W W' : World} {args : Array Value} {v : Value} {ds gs : List (DataW H)} {before pa pv : List MemPlace}
    (hW : DataW.Whole enc P f.params.toList s.vars apart W args.toList ds gs before)
    (hres : ∀ (b : Nat) (sp : Nat → Bool) (hd : Bool), DataW.TrodAll enc P W' b sp hd f.resultTypes.toList (v.resultList f.resultTypes.size) (s.fn H (ds ++ gs)).results [])
    (hargs : ∀ sp : Nat → Bool, (∀ p ∈ before, sp p.block = true) → DataW.TrodAll enc P W' 0 sp true f.params.toList args.toList (s.fn H (ds ++ gs)).args pa)
    (hvars : ∀ sp : Nat → Bool, (∀ p ∈ before, sp p.block = true) → DataW.TrodVars enc P W' sp s.vars (s.fn H (ds ++ gs)).vars pv)
    (hps : before = pa ++ pv) (hb : Below W.heap.size W W')
    (hok : ∀ (j : Nat) (t : TypeId) (r : Value), f.resultTypes[j]? = some t → (v.resultList f.resultTypes.size)[j]? = some r → Value.okWide P W' .any 0 t r) :
    s.post enc P f apart fresh handsOn again W args v W' := by
  have hlt : ∀ p ∈ before, p.block < W.heap.size := fun p hp => hW.lt p hp
  have hold : ∀ p ∈ before, (fun b => decide (b < W.heap.size)) p.block = true := fun p hp => by simpa using hlt p hp
  refine ⟨ds, gs, before, [], pa, pv, hW, hres _ _ _, hargs _ hold, hvars _ hold, World.keptBut_mono (fun p hp => ⟨hp, ?_⟩) (hb.frame (· ∈ before)), fun _ => ?_⟩
  · rw [hps, List.mem_append] at hp
    exact Or.inr hp
  · obtain ⟨_, _, _, _, _, hz, hn⟩ := hW
    refine ⟨hok, _, _, ([] ++ pa) ++ pv, ⟨[] ++ pa, pv, trodAll_append (hargs _ (fun _ _ => rfl)) (hres _ _ _), hvars _ (fun _ _ => rfl), rfl, ?_, ?_⟩, ?_⟩
    · intro b off hp
      have hin : MemPlace.cell b off ∈ before := by rw [hps]; simpa using hp
      rw [hb.frozen (hlt _ hin)]
      exact hz b off hin
    · intro ha
      have := hn ha
      rw [hps] at this
      simpa using this
    · intro p hp _
      rw [hps]
      simpa using hp

/-- An argument reads behind the call as it read before, whatever spare is looked at. -/
theorem trod_kept {t : TypeId} (hl : laidOutB P = true) (hr : P.readableRec t = true) (hrow : t < P.types.size) {W W' : World} {v : Value} {d : DataW H} {ps : List MemPlace}
    (h : DataW.Trod enc P W 0 (fun _ => true) true t v d ps) (hb : Below W.heap.size W W') (hlt : ∀ x ∈ ps, x.block < W.heap.size)
    (sp : Nat → Bool) (hsp : ∀ x ∈ ps, sp x.block = true) : DataW.Trod enc P W' 0 sp true t v d ps :=
  WideElems.Trod_stays hl hr hrow h (fun x hx => hb.same (hlt x hx)) (fun x hx => by rw [hsp x hx])
end

end Go.Proofs.YtcbifdfcllaaaaaGreatDoor
