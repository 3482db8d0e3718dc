/- A region that draws its order and appends: some operations (F, reads that leave the world alone) are waited for by the append alone and may come up as late as behind the making of the appended row; the others (H) as in QTail; then the row is made (m), then the rest (t1 :: T) one by one. Plain law over the model's own words; no program. -/
import Derived.Test.YtcbifdfcllaaaaaQTail
import Derived.OrdersHeld
namespace Go.Proofs.Ytcbifdfcllaaaaa
open Go.RowKit Go.Deep
set_option linter.unusedVariables false
set_option linter.unusedSimpArgs false
set_option linter.unnecessarySimpa false

section
variable {P : Program} {ops : Array Oper} {md : Region.Mode} {C : World → Prop} {D : Nat → Bool} {Q : Exit → Act → World → Prop}

/-- Whatever order is picked from here on, and the class holds behind every operation of D. -/
def wpAnyC (P : Program) (md : Region.Mode) (ops : Array Oper) (Q : Exit → Act → World → Prop) (C : World → Prop) (D : Nat → Bool) : Nat → Array Bool → Act → World → Prop
  | 0, listed, a, w => Region.ready md ops listed = [] ∧ Q .normal a w
  | fuel + 1, listed, a, w =>
    (Region.ready md ops listed = [] → Q .normal a w) ∧
    ∀ i ∈ Region.ready md ops listed, wpOp P ops Q i (fun a' w' => (D i = true → C w') ∧ wpAnyC P md ops Q C D fuel (listed.setIfInBounds i true) a' w') a w

theorem wpAny_of_C : ∀ (fuel : Nat) (listed : Array Bool) (a : Act) (w : World), wpAnyC P md ops Q C D fuel listed a w → wpAny P md ops Q fuel listed a w
  | 0, _, _, _, h => h
  | fuel + 1, _, _, _, h => ⟨h.1, fun i hi => wpOp_mono (fun a' w' h' => wpAny_of_C fuel _ a' w' h'.2) (h.2 i hi)⟩

/-- **A read may be taken first, if the class holds as long as it has not come up.** -/
theorem wpAnyC_first {G : Array Bool → Prop} {i : Nat} {oi : Oper} {v : Value} (hi : ops[i]? = some oi) (hsel : ∀ (j : Nat) (o : Oper) cs b, ops[j]? = some o → o.op ≠ .select cs b)
    (hQ : ∀ c a w, Q (.panic c) (a.put oi.dst v) w → Q (.panic c) a w) (hDi : D i = true)
    (hG : ∀ listed j, G listed → j ∈ Region.ready md ops listed → j ≠ i → listed.getD i true = false → D j = true ∧ G (listed.setIfInBounds j true)) :
    ∀ (fuel : Nat) (listed : Array Bool) (a : Act) (w : World), G listed →
      (∀ j oj, ops[j]? = some oj → j ≠ i → listed.getD j true = false → (∀ e ∈ oj.after, Region.binds md e = true → e.on ≠ i) → oi.apart ops oj = true) →
      i ∈ Region.ready md ops listed → YieldsIf P ops C oi v a → C w →
      wpAnyC P md ops Q C D fuel (listed.setIfInBounds i true) (a.put oi.dst v) w → wpAnyC P md ops Q C D (fuel + 1) listed a w := by
  intro fuel
  induction fuel with
  | zero =>
    intro listed a w hg _ hr hy hS H
    refine ⟨fun h => (by rw [h] at hr; cases hr), fun j hj => ?_⟩
    by_cases hji : j = i
    · subst hji; exact hy.wpOp hi hS ⟨fun _ => hS, H⟩
    · have := ready_mono hj hji
      rw [H.1] at this
      cases this
  | succ fuel ih =>
    intro listed a w hg hfree hr hy hS H
    refine ⟨fun h => (by rw [h] at hr; cases hr), fun j hj => ?_⟩
    by_cases hji : j = i
    · subst hji; exact hy.wpOp hi hS ⟨fun _ => hS, H⟩
    · have h1 := H.2 j (ready_mono hj hji)
      obtain ⟨hjun, oj, hoj, hall⟩ := mem_ready.1 hj
      have hun := (mem_ready.1 hr).1
      have hnot : ∀ e ∈ oj.after, Region.binds md e = true → e.on ≠ i := fun e he hb heq => by
        have h1 := hall e he hb
        rw [heq, getD_both hun] at h1
        cases h1
      obtain ⟨hDj, hg'⟩ := hG listed j hg hj hji hun
      have h2 := wpOp_putIf hoj (hfree j oj hoj hji hjun hnot) (fun cs b => hsel i oi cs b hi) (fun cs b => hsel j oj cs b hoj) hQ hy h1
      have hfree' : ∀ k ok, ops[k]? = some ok → k ≠ i → (listed.setIfInBounds j true).getD k true = false →
          (∀ e ∈ ok.after, Region.binds md e = true → e.on ≠ i) → oi.apart ops ok = true := fun k ok hk hki hun hno => by
        refine hfree k ok hk hki ?_ hno
        by_cases hjk : j = k
        · subst hjk; exact hjun
        · rw [getD_set_ne true hjk] at hun; exact hun
      refine wpOp_mono (fun a' w' h3 => ⟨fun _ => h3.2.1 hDj, ih (listed.setIfInBounds j true) a' w' hg' hfree' (ready_mono hr (Ne.symm hji)) h3.1 (h3.2.1 hDj) ?_⟩) h2
      rw [Array.setIfInBounds_comm _ _ hji]
      exact h3.2.2

theorem wpAnyC_of_headL {H : List Nat} {g : Nat} {L : Array Bool → Act → Prop} (hL : ∀ listed a w, C w → L listed a → wpAnyC P md ops Q C D g listed a w) :
    ∀ (f : Nat) (listed : Array Bool) (a : Act) (w : World), C w → wpAnyLQ P md ops C H L f listed a → wpAnyC P md ops Q C D (f + g) listed a w
  | 0, listed, a, w, hw, h => by rw [Nat.zero_add]; exact hL _ _ _ hw h
  | f + 1, listed, a, w, hw, h => by
    rw [show f + 1 + g = (f + g) + 1 by omega]
    exact ⟨fun h0 => absurd h0 h.1, fun i hi => wpOp_of_qOp hw (fun a' w' hw' h' => ⟨fun _ => hw', wpAnyC_of_headL hL f _ a' w' hw' h'⟩) (h.2 i hi).2⟩

theorem late_seq {l : List Oper} : ∀ (T : List Nat) (listed : Array Bool) (a : Act) (w : World), (∀ t ∈ T, D t = false) → (∀ t ∈ T, t < l.length) →
    seqL md l.toArray T listed = true → wpList P l.toArray Q (pickO l T) a w → wpAnyC P md l.toArray Q C D T.length listed a w
  | [], _, _, _, _, _, hB, h => ⟨by simpa [seqL] using hB, h⟩
  | t :: T, listed, a, w, hd, hl, hB, h => by
    have ht := hl t (List.mem_cons_self ..)
    have h0 : l[t]? = some l[t] := List.getElem?_eq_getElem ht
    simp only [seqL, Bool.and_eq_true, decide_eq_true_eq] at hB
    simp only [pickO, h0] at h
    refine ⟨fun h1 => (by rw [hB.1] at h1; cases h1), fun i hi => ?_⟩
    rw [hB.1] at hi
    have hik : i = t := by simpa using hi
    subst hik
    have hw : wpOp P l.toArray Q i (wpList P l.toArray Q (pickO l T)) a w := by unfold wpOp; simp only [List.getElem?_toArray, h0]; exact h
    exact wpOp_mono (fun a' w' h' => ⟨fun hx => (by rw [hd i (List.mem_cons_self ..)] at hx; cases hx), late_seq T _ a' w' (fun j hj => hd j (List.mem_cons_of_mem _ hj)) (fun j hj => hl j (List.mem_cons_of_mem _ hj)) hB.2 h'⟩) hw

theorem HeadL.less {F T : List Nat} {m : Nat} {listed : Array Bool} (h : HeadL md ops F (m :: T) listed) : HeadL md ops F T listed := ⟨h.done, h.size, h.closed, fun t ht => h.tail t (List.mem_cons_of_mem _ ht)⟩

/-- the maker keeps the class -/
def KeepsC (P : Program) (ops : Array Oper) (C : World → Prop) (Q : Exit → Act → World → Prop) (m : Nat) : Prop :=
  ∀ (K : Act → World → Prop) (a : Act) (w : World), C w → wpOp P ops Q m K a w → wpOp P ops Q m (fun a' w' => C w' ∧ K a' w') a w

def lateD (F H : List Nat) (m : Nat) (j : Nat) : Bool := F.contains j || (H.contains j || decide (j = m))

/-- the reads taken ahead, one by one -/
def readsL (md : Region.Mode) (ops : Array Oper) (rest : Array Bool → Bool) : List Nat → Array Bool → Bool
  | [], listed => rest listed
  | f :: F, listed => (Region.ready md ops listed).contains f && Region.free md ops listed f && readsL md ops rest F (listed.setIfInBounds f true)
/-- each of these reads yields its value in every world of the class, and leaves it alone -/
def wpReads (P : Program) (ops : Array Oper) (C : World → Prop) (K : Act → Prop) : List Oper → Act → Prop
  | [], a => K a
  | o :: rest, a => ∃ v, YieldsIf P ops C o v a ∧ wpReads P ops C K rest (a.put o.dst v)

theorem wpAnyC_reads {l : List Oper} {F0 H T : List Nat} {m t1 : Nat} {Kq : Act → Prop} {n : Nat} (hsel : Region.noSelect l.toArray = true) (hQ : ∀ c a d v w, Q (.panic c) (Act.put a d v) w → Q (.panic c) a w)
    (hs : sinkL md l.toArray t1 F0 = true) (hc : chainL md l.toArray (t1 :: T) = true)
    (hcov : ∀ j, j < l.toArray.size → j ∈ F0 ∨ j ∈ H ∨ j = m ∨ j ∈ t1 :: T) (hdis : ∀ j, j ∈ F0 ∨ j ∈ H ∨ j = m → j ∉ t1 :: T) (hlt : ∀ j ∈ F0, j < l.length) (hmF : m ∉ F0) {rest : Array Bool → Bool}
    (hrest : ∀ listed a w, HeadL md l.toArray [] (m :: t1 :: T) listed → (∀ f ∈ F0, listed.getD f true = true) → rest listed = true → C w → Kq a → wpAnyC P md l.toArray Q C (lateD F0 H m) n listed a w) :
    ∀ (F : List Nat) (listed : Array Bool) (a : Act) (w : World), (∀ f ∈ F0, f ∈ F ∨ listed.getD f true = true) → (∀ f ∈ F, f ∈ F0) → HeadL md l.toArray [] (m :: t1 :: T) listed → readsL md l.toArray rest F listed = true → C w →
    wpReads P l.toArray C Kq (pickO l F) a → wpAnyC P md l.toArray Q C (lateD F0 H m) (n + F.length) listed a w
  | [], listed, a, w, hF, _, inv, hB, hw, h => hrest listed a w inv (fun f hf => (hF f hf).resolve_left (by simp)) hB hw h
  | f :: F, listed, a, w, hF, hsub, inv, hB, hw, h => by
    have hfF := hsub f (List.mem_cons_self ..)
    have h0 : l[f]? = some (l[f]'(hlt f hfF)) := List.getElem?_eq_getElem (hlt f hfF)
    have h0' : l.toArray[f]? = some (l[f]'(hlt f hfF)) := by rw [List.getElem?_toArray]; exact h0
    simp only [readsL, Bool.and_eq_true] at hB
    obtain ⟨⟨hr, hf⟩, hB'⟩ := hB
    have hr' : f ∈ Region.ready md l.toArray listed := by simpa using hr
    simp only [pickO, h0, wpReads] at h
    obtain ⟨v, hy, hk⟩ := h
    have hset : HeadL md l.toArray [] (m :: t1 :: T) (listed.setIfInBounds f true) := inv.set hr' (fun hx => by
      rcases List.mem_cons.1 hx with e | hx
      · exact hmF (e ▸ hfF)
      · exact hdis f (.inl hfF) hx)
    refine wpAnyC_first (G := HeadL md l.toArray [] (t1 :: T)) h0' (Region.noSelect_spec hsel) (fun c a w => hQ c a _ _ w) (by simp [lateD, hfF]) (fun listed' j hg hj hji hun => ?_)
      (n + F.length) listed a w inv.less (Region.free_spec h0' hf) hr' hy hw
      (wpAnyC_reads hsel hQ hs hc hcov hdis hlt hmF hrest F _ _ w (fun g hg => ?_) (fun g hg => hsub g (List.mem_cons_of_mem _ hg)) hset hB' hw hk)
    · obtain ⟨_, oj, hoj, _⟩ := mem_ready.1 hj
      have hnt : j ∉ t1 :: T := fun hjt => tail_waitsL hg hs hc hfF hun j hjt hj
      refine ⟨?_, hg.set hj hnt⟩
      rcases hcov j (Array.getElem?_eq_some_iff.1 hoj).1 with h | h | h | h
      · simp [lateD, h]
      · simp [lateD, h]
      · simp [lateD, h]
      · exact absurd h hnt
    · rcases hF g hg with h | h
      · rcases List.mem_cons.1 h with e | h
        · subst e
          right
          rcases Nat.lt_or_ge g listed.size with h | h
          · simp [h]
          · simp
        · exact .inl h
      · right
        by_cases hfg : f = g
        · subst hfg
          rcases Nat.lt_or_ge f listed.size with h | h
          · simp [h]
          · simp
        · rw [getD_set_ne true hfg]; exact h

/-- the Bool of the law -/
def lateB (md : Region.Mode) (ops : Array Oper) (F H : List Nat) (m t1 : Nat) (T : List Nat) : Bool :=
  Region.noSelect ops && (decide (F.length + (H.length + (m :: t1 :: T).length) = ops.size) && ((List.range ops.size).all (fun i => F.contains i || (H.contains i || (m :: t1 :: T).contains i)) &&
    ((F ++ H).all (fun i => decide (i < ops.size) && !(m :: t1 :: T).contains i) && ((m :: t1 :: T).all (fun i => decide (i < ops.size)) && (!(t1 :: T).contains m && (sinkL md ops t1 F && (sinkL md ops m H && (chainL md ops (m :: t1 :: T) &&
      readsL md ops (lexL md ops (m :: t1 :: T) H) F (Array.replicate ops.size false)))))))))

theorem wpAny_late {a : Act} {w : World} {l : List Oper} (F H : List Nat) (m t1 : Nat) (T : List Nat) (hQ : ∀ c a d v w, Q (.panic c) (Act.put a d v) w → Q (.panic c) a w) (hkm : KeepsC P l.toArray C Q m) (hB : lateB .any l.toArray F H m t1 T = true)
    (hC : C w) (h : wpReads P l.toArray C (fun a => wpQuiet P l.toArray C (fun a' => ∀ w', C w' → wpList P l.toArray Q (pickO l (m :: t1 :: T)) a' w') (pickO l H) a) (pickO l F) a) :
    wpAny P .any l.toArray Q l.toArray.size (Array.replicate l.toArray.size false) a w := by
  simp only [lateB, Bool.and_eq_true] at hB
  obtain ⟨hsel, hlen, hcov, hdis, htl, hm, hsF, hs, hc, hrd⟩ := hB
  have hcov' : ∀ j, j < l.toArray.size → j ∈ F ∨ j ∈ H ∨ j ∈ m :: t1 :: T := fun j hj => by
    have := List.all_eq_true.1 hcov j (List.mem_range.2 hj)
    simp only [Bool.or_eq_true, List.contains_iff_mem] at this
    exact this
  have hdis' : ∀ j ∈ F ++ H, j < l.length ∧ j ∉ m :: t1 :: T := fun j hj => by
    have := List.all_eq_true.1 hdis j hj
    simp only [Bool.and_eq_true, Bool.not_eq_true', decide_eq_true_eq] at this
    refine ⟨by simpa using this.1, fun hjt => ?_⟩
    rw [List.contains_iff_mem.2 hjt] at this
    cases this.2
  have htl' : ∀ j ∈ m :: t1 :: T, j < l.length := fun j hj => by
    have := List.all_eq_true.1 htl j hj
    simpa using this
  have hm' : m ∉ t1 :: T := fun h => by
    rw [List.contains_iff_mem.2 h] at hm
    cases hm
  have hcT : chainL .any l.toArray (t1 :: T) = true := by simp only [chainL, Bool.and_eq_true] at hc; exact hc.2
  have hmH : m ∉ H := fun h => (hdis' m (List.mem_append_right _ h)).2 (List.mem_cons_self ..)
  have key := wpAnyC_reads (P := P) (md := .any) (C := C) (Q := Q) (l := l) (F0 := F) (H := H) (m := m) (t1 := t1) (T := T) (n := H.length + (m :: t1 :: T).length)
    (Kq := fun a => wpQuiet P l.toArray C (fun a' => ∀ w', C w' → wpList P l.toArray Q (pickO l (m :: t1 :: T)) a' w') (pickO l H) a) (rest := lexL .any l.toArray (m :: t1 :: T) H) hsel hQ hsF hcT
    (fun j hj => by
      rcases hcov' j hj with h | h | h
      · exact .inl h
      · exact .inr (.inl h)
      · rcases List.mem_cons.1 h with h | h
        · exact .inr (.inr (.inl h))
        · exact .inr (.inr (.inr h)))
    (fun j hj hjt => by
      rcases hj with h | h | h
      · exact (hdis' j (List.mem_append_left _ h)).2 (List.mem_cons_of_mem _ hjt)
      · exact (hdis' j (List.mem_append_right _ h)).2 (List.mem_cons_of_mem _ hjt)
      · subst h; exact hm' hjt)
    (fun j hj => (hdis' j (List.mem_append_left _ hj)).1) (fun hx => (hdis' m (List.mem_append_left _ hx)).2 (List.mem_cons_self ..))
    (fun listed a w inv hdone hB hw hq => ?_) F (Array.replicate l.toArray.size false) a w (fun f hf => .inl hf) (fun f hf => hf) (headL_start fun t ht => htl' t ht) hrd hC h
  · have e := of_decide_eq_true hlen
    have key' := wpAny_of_C _ _ _ _ key
    rw [show H.length + (m :: t1 :: T).length + F.length = l.toArray.size by omega] at key'
    exact key'
  · -- behind the reads: the head in its order, then the tail
    have inv' : HeadL .any l.toArray F (m :: t1 :: T) listed := ⟨hdone, inv.size, inv.closed, inv.tail⟩
    have HH := wpAnyLQ_lex (md := .any) (C := C) hsel hs hc (fun j hj => by
        rcases hcov' j hj with h | h | h
        · exact .inr (.inr h)
        · exact .inl h
        · exact .inr (.inl h)) (fun j hj => (hdis' j (List.mem_append_right _ hj)).2) (fun j hj => (hdis' j (List.mem_append_right _ hj)).1) H _ a (fun j hj => hj) inv' hB hq
    refine wpAnyC_of_headL (C := C) (Q := Q) (g := (m :: t1 :: T).length) (fun listed a' w' hw' hL => ?_) _ _ _ _ hw HH
    obtain ⟨hseq, hl⟩ := hL
    have h := hl w' hw'
    have hml := htl' m (List.mem_cons_self ..)
    have h0 : l[m]? = some l[m] := List.getElem?_eq_getElem hml
    simp only [seqL, Bool.and_eq_true, decide_eq_true_eq] at hseq
    simp only [pickO, h0] at h
    refine ⟨fun h1 => (by rw [hseq.1] at h1; cases h1), fun i hi => ?_⟩
    rw [hseq.1] at hi
    have hik : i = m := by simpa using hi
    subst hik
    have hwo : wpOp P l.toArray Q i (wpList P l.toArray Q (pickO l (t1 :: T))) a' w' := by unfold wpOp; simp only [List.getElem?_toArray, h0]; exact h
    refine wpOp_mono (fun a2 w2 h2 => ⟨fun _ => h2.1, ?_⟩) (hkm _ _ _ hw' hwo)
    have hDf : ∀ t ∈ t1 :: T, lateD F H i t = false := fun t ht => by
      have h1 : t ∉ F := fun hf => (hdis' t (List.mem_append_left _ hf)).2 (List.mem_cons_of_mem _ ht)
      have h2 : t ∉ H := fun hf => (hdis' t (List.mem_append_right _ hf)).2 (List.mem_cons_of_mem _ ht)
      have h3 : t ≠ i := fun e => hm' (e ▸ ht)
      simp [lateD, h1, h2, h3]
    have hseq2 : seqL .any l.toArray (t1 :: T) (Array.setIfInBounds listed i true) = true := by
      simp only [seqL, Bool.and_eq_true, decide_eq_true_eq]
      exact hseq.2
    exact late_seq (t1 :: T) _ a2 w2 hDf (fun j hj => htl' j (List.mem_cons_of_mem _ hj)) hseq2 h2.2

/-- **Reads that only the append waits for (F), the head in an order of one's own (H), the making of the row (m), the rest one by one.** -/
theorem wp_region_late {id : Nat} {a : Act} {w : World} {l : List Oper} (F H : List Nat) (m t1 : Nat) (T : List Nat) (hm : P.follows .mixedOrders = true) (hB : lateB .any l.toArray F H m t1 T = true) (hQ : ∀ c a d v w, Q (.panic c) (Act.put a d v) w → Q (.panic c) a w) (hkm : KeepsC P l.toArray C Q m)
    (hC : C { w with drawn := w.drawn + 1 }) (h : wpReads P l.toArray C (fun a => wpQuiet P l.toArray C (fun a' => ∀ w', C w' → wpList P l.toArray Q (pickO l (m :: t1 :: T)) a' w') (pickO l H) a) (pickO l F) a) : (Code.region id l.toArray true).wp P Q a w :=
  wp_region_any hm (wpAny_late F H m t1 T hQ hkm hB hC h)

theorem run_buildSlice_world (t : TypeId) (len : Nat) (parts : Array (Nat × Value)) (w w' : World) (v : Value) (h : (Instr.buildSlice t len parts).run P w = .ok v w') : w' = w ∨ ∃ ob, w' = w.alloc ob := by
  unfold Instr.buildSlice at h
  cases hu : P.underlying t with
  | none => simp [underlying, hu, stuck] at h
  | some d =>
    cases d <;> simp [underlying, hu, stuck] at h
    rename_i e
    cases hi : P.info? e with
    | none => simp [sizeOf, typeInfo, hi, stuck] at h
    | some ie =>
      simp [sizeOf, typeInfo, hi] at h
      split at h
      · simp at h
      · split at h
        · split at h
          · simp [newRow] at h; exact .inr ⟨_, h.2.symm⟩
          · simp at h
        · cases hz : ie.zero with
          | none => simp [zeroValue, typeInfo, hi, hz] at h
          | some z =>
            simp [zeroValue, typeInfo, hi, hz] at h
            split at h
            · simp [newRow] at h; exact .inr ⟨_, h.2.symm⟩
            · simp at h

theorem keepsC_buildSlice {m : Nat} {o : Oper} {t : TypeId} {len : Nat} {parts : Array (Nat × Operand)} (hm : ops[m]? = some o) (ho : o.op = .buildSlice t len parts) (hC : ∀ w ob, C w → C (w.alloc ob)) : KeepsC P ops C Q m := by
  intro K a w hw h
  unfold wpOp at *
  simp only [hm] at *
  split at h
  · rename_i hwt
    simp only [hwt, if_true]
    rcases h with h | h
    · left
      unfold Oper.wp execOp at *
      simp only [ho, Sem.run_bind] at *
      cases hr : (Instr.buildSlice t len (parts.map fun (i, x) => (i, a.eval x))).run P w with
      | ok v w' =>
        simp only [hr, Result.andThen_ok, Sem.run_pure, Oper.upon] at h ⊢
        refine ⟨?_, h⟩
        rcases run_buildSlice_world t len _ w w' v hr with e | ⟨ob, e⟩
        · rw [e]; exact hw
        · rw [e]; exact hC _ _ hw
      | halt x w' =>
        simp only [hr] at h ⊢
        cases x <;> first | exact h | (simp [Result.andThen, Oper.upon] at h)
    · exact .inr h
  · rename_i hwt
    simp only [hwt]
    exact ⟨hw, h⟩

/-- .. at the class of the later worlds, the row made by a slice literal; it is shown not to panic. -/
theorem wp_region_later_late {id : Nat} {a : Act} {W : World} {l : List Oper} {o : Oper} {ty : TypeId} {len : Nat} {parts : Array (Nat × Operand)} (F H : List Nat) (m t1 : Nat) (T : List Nat) (hm : P.follows .mixedOrders = true) (hom : l[m]? = some o) (ho : o.op = .buildSlice ty len parts) (hB : lateB .any l.toArray F H m t1 T = true)
    (h : wpReads P l.toArray (fun w' => ∃ t : Later W, w' = t.w) (fun a => wpQuiet P l.toArray (fun w' => ∃ t : Later W, w' = t.w) (fun a' => ∀ w', (∃ t : Later W, w' = t.w) → wpList P l.toArray (NoPanic Q) (pickO l (m :: t1 :: T)) a' w') (pickO l H) a) (pickO l F) a) : (Code.region id l.toArray true).wp P Q a W :=
  wp_region_noPanic (wp_region_late (C := fun w' => ∃ t : Later W, w' = t.w) F H m t1 T hm hB (fun _ _ _ _ _ h => h) (keepsC_buildSlice (o := o) (by rw [List.getElem?_toArray]; exact hom) ho (fun w ob ⟨t, e⟩ => ⟨⟨w.alloc ob, by subst e; exact t.new.box ob⟩, rfl⟩))
    ⟨⟨W.drew, (New.same W).drew_⟩, rfl⟩ h)
/-- a read of the list, at a later world -/
theorem wpReads_cons {K : Act → Prop} {o : Oper} {rest : List Oper} {a : Act} (v : Value) (hw : Region.wanted o (yielded ops a.tmps) = true) (hy : ∀ w, C w → (execOp a.eval o).run P w = .ok (.value v) w) (h : wpReads P ops C K rest (a.put o.dst v)) : wpReads P ops C K (o :: rest) a :=
  ⟨v, .inl ⟨hw, hy⟩, h⟩
end

end Go.Proofs.Ytcbifdfcllaaaaa
