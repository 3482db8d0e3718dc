/- A region that draws its order: some of its operations (in an order of one's own choice) read and call only, each call making memory at most; what is left waits for them and comes one by one. One walk: the first in that order, then the rest. Plain law over the model's own words; no program. -/
import Derived.Test.YtcbifdfcllaaaaaLater
import Derived.StillTail
import Derived.Deep.RegionHeld3
namespace Go.Proofs.Ytcbifdfcllaaaaa
open Go.RowKit Go.Deep
set_option linter.unusedVariables false

section
variable {P : Program} {ops : Array Oper} {md : Region.Mode} {C : World → Prop}

/-- each of the list is waited for by a later one of it, or by t0 -/
def sinkL (md : Region.Mode) (ops : Array Oper) (t0 : Nat) : List Nat → Bool
  | [] => true
  | i :: H => (t0 :: H).any (fun j => Region.waitsFor md ops j i) && sinkL md ops t0 H
/-- each waits for the one before it -/
def chainL (md : Region.Mode) (ops : Array Oper) : List Nat → Bool
  | t :: u :: T => Region.waitsFor md ops u t && chainL md ops (u :: T)
  | _ => true
def seqL (md : Region.Mode) (ops : Array Oper) : List Nat → Array Bool → Bool
  | [], listed => (Region.ready md ops listed).isEmpty
  | t :: T, listed => decide (Region.ready md ops listed = [t]) && seqL md ops T (listed.setIfInBounds t true)
def lexL (md : Region.Mode) (ops : Array Oper) (T : List Nat) : List Nat → Array Bool → Bool
  | [], listed => seqL md ops T listed
  | k :: H, listed => (Region.ready md ops listed).contains k && Region.free md ops listed k && lexL md ops T H (listed.setIfInBounds k true)
/-- the operations at these places -/
def pickO (l : List Oper) : List Nat → List Oper
  | [] => []
  | i :: is => match l[i]? with
    | some o => o :: pickO l is
    | none => pickO l is
def tailB (md : Region.Mode) (ops : Array Oper) (F H : List Nat) (t0 : Nat) (T : List Nat) (listed : Array Bool) : Bool :=
  Region.noSelect ops && decide (F.length + (H.length + (t0 :: T).length) = ops.size) && (List.range ops.size).all (fun i => H.contains i || ((t0 :: T).contains i || F.contains i)) && H.all (fun i => decide (i < ops.size) && !(t0 :: T).contains i) && (t0 :: T).all (fun i => decide (i < ops.size)) &&
    sinkL md ops t0 H && chainL md ops (t0 :: T) && lexL md ops (t0 :: T) H listed

structure HeadL (md : Region.Mode) (ops : Array Oper) (F T : List Nat) (listed : Array Bool) : Prop where
  done : ∀ f ∈ F, listed.getD f true = true
  size : listed.size = ops.size
  closed : ∀ j oj, ops[j]? = some oj → listed.getD j false = true → ∀ e ∈ oj.after, Region.binds md e = true → listed.getD e.on false = true
  tail : ∀ t ∈ T, listed.getD t true = false

theorem HeadL.set {F T : List Nat} {i : Nat} {listed : Array Bool} (inv : HeadL md ops F T listed) (hi : i ∈ Region.ready md ops listed) (hin : i ∉ T) : HeadL md ops F T (listed.setIfInBounds i true) := by
  obtain ⟨_, oi, hoi, hall⟩ := mem_ready.1 hi
  refine ⟨fun f hf => ?_, by simp [inv.size], fun j oj hj hl e he hb => ?_, fun t ht => by rw [getD_set_ne true (fun e : i = t => hin (by rw [e]; exact ht))]; exact inv.tail t ht⟩
  · by_cases hif : i = f
    · subst hif
      rcases Nat.lt_or_ge i listed.size with h | h
      · simp [h]
      · simp
    · rw [getD_set_ne true hif]; exact inv.done f hf
  by_cases hij : i = j
  · subst hij
    have : oj = oi := Option.some.inj (hj.symm.trans hoi)
    subst this
    exact getD_set_true (hall e he hb)
  · rw [getD_set_ne false hij] at hl
    exact getD_set_true (inv.closed j oj hj hl e he hb)

theorem not_ready {listed : Array Bool} {j i : Nat} (hw : Region.waitsFor md ops j i = true) (h : listed.getD i true = false) : j ∉ Region.ready md ops listed := by
  intro hr
  obtain ⟨_, oj, hoj, hall⟩ := mem_ready.1 hr
  obtain ⟨o', ho', e, he, hb, hon⟩ := Region.waitsFor_spec hw
  have : o' = oj := Option.some.inj (ho'.symm.trans hoj)
  subst this
  have h2 := hall e he hb
  rw [hon, getD_both h] at h2
  cases h2

theorem t0_waits {F T : List Nat} {t0 : Nat} {listed : Array Bool} (inv : HeadL md ops F T listed) : ∀ (H : List Nat), sinkL md ops t0 H = true → ∀ i ∈ H, listed.getD i true = false → t0 ∉ Region.ready md ops listed
  | [], _, i, hi, _ => by cases hi
  | i0 :: H, hs, i, hi, hu => by
    simp only [sinkL, Bool.and_eq_true] at hs
    rcases List.mem_cons.1 hi with e | hi'
    · subst e
      obtain ⟨j, hj, hw⟩ := List.any_eq_true.1 hs.1
      rcases List.mem_cons.1 hj with e | hj'
      · subst e; exact not_ready hw hu
      · obtain ⟨oj, hoj, e, he, hb, hon⟩ := Region.waitsFor_spec hw
        cases hl : listed.getD j false with
        | true =>
          have h2 := inv.closed j oj hoj hl e he hb
          rw [hon, getD_both hu] at h2
          cases h2
        | false =>
          have hjs : j < listed.size := by rw [inv.size]; exact (Array.getElem?_eq_some_iff.1 hoj).1
          exact t0_waits inv H hs.2 j hj' (getD_in hjs hl)
    · exact t0_waits inv H hs.2 i hi' hu

theorem chain_pred : ∀ {t0 : Nat} {T : List Nat}, chainL md ops (t0 :: T) = true → ∀ t ∈ T, ∃ p ∈ t0 :: T, Region.waitsFor md ops t p = true
  | t0, [], _, t, ht => by cases ht
  | t0, u :: T, h, t, ht => by
    simp only [chainL, Bool.and_eq_true] at h
    rcases List.mem_cons.1 ht with e | ht'
    · subst e; exact ⟨t0, List.mem_cons_self .., h.1⟩
    · obtain ⟨p, hp, hw⟩ := chain_pred h.2 t ht'
      exact ⟨p, List.mem_cons_of_mem _ hp, hw⟩

theorem tail_waitsL {F H T : List Nat} {t0 : Nat} {listed : Array Bool} (inv : HeadL md ops F (t0 :: T) listed) (hs : sinkL md ops t0 H = true) (hc : chainL md ops (t0 :: T) = true) {i : Nat} (hi : i ∈ H) (hu : listed.getD i true = false) :
    ∀ t ∈ t0 :: T, t ∉ Region.ready md ops listed := by
  intro t ht
  rcases List.mem_cons.1 ht with e | ht'
  · subst e; exact t0_waits inv H hs i hi hu
  · obtain ⟨p, hp, hw⟩ := chain_pred hc t ht'
    exact not_ready hw (inv.tail p hp)

def wpAnyLQ (P : Program) (md : Region.Mode) (ops : Array Oper) (C : World → Prop) (H : List Nat) (L : Array Bool → Act → Prop) : Nat → Array Bool → Act → Prop
  | 0, listed, a => L listed a
  | f + 1, listed, a =>
    Region.ready md ops listed ≠ [] ∧ ∀ i ∈ Region.ready md ops listed, i ∈ H ∧ qOp P ops C i (wpAnyLQ P md ops C H L f (listed.setIfInBounds i true)) a

theorem wpAny_of_headL {H : List Nat} {g : Nat} {L : Array Bool → Act → Prop} {Q' : Exit → Act → World → Prop} (hL : ∀ listed a w, C w → L listed a → wpAny P md ops Q' g listed a w) :
    ∀ (f : Nat) (listed : Array Bool) (a : Act) (w : World), C w → wpAnyLQ P md ops C H L f listed a → wpAny P md ops Q' (f + g) listed a w
  | 0, listed, a, w, hw, h => by rw [Nat.zero_add]; exact hL _ _ _ hw h
  | f + 1, listed, a, w, hw, h => by
    rw [show f + 1 + g = (f + g) + 1 by omega]
    exact ⟨fun h0 => absurd h0 h.1, fun i hi => wpOp_of_qOp hw (fun a' w' hw' h' => wpAny_of_headL hL f _ a' w' hw' h') (h.2 i hi).2⟩

theorem wpAnyLQ_first {F H T : List Nat} {t0 i : Nat} {oi : Oper} {v : Value} {L : Array Bool → Act → Prop} (hi : ops[i]? = some oi) (hsel : ∀ (j : Nat) (o : Oper) cs b, ops[j]? = some o → o.op ≠ .select cs b)
    (hs : sinkL md ops t0 H = true) (hc : chainL md ops (t0 :: T) = true) (hcov : ∀ j, j < ops.size → j ∈ H ∨ j ∈ t0 :: T ∨ j ∈ F) (hdis : ∀ j ∈ H, j ∉ t0 :: T) (hin : i ∈ H)
    (hdone : ∀ listed a, L listed a → ∀ j ∈ Region.ready md ops listed, j ∉ H) :
    ∀ (f : Nat) (listed : Array Bool) (a : Act), HeadL md ops F (t0 :: T) listed →
      (∀ j oj, ops[j]? = some oj → j ≠ i → listed.getD j true = false → (∀ e ∈ oj.after, Region.binds md e = true → e.on ≠ i) → oi.apart ops oj = true) →
      i ∈ Region.ready md ops listed → YieldsIn P ops C oi v a →
      wpAnyLQ P md ops C H L f (listed.setIfInBounds i true) (a.put oi.dst v) → wpAnyLQ P md ops C H L (f + 1) listed a := by
  have inH : ∀ (listed : Array Bool), HeadL md ops F (t0 :: T) listed → listed.getD i true = false → ∀ j ∈ Region.ready md ops listed, j ∈ H := by
    intro listed inv hun j hj
    obtain ⟨hu, oj, hoj, _⟩ := mem_ready.1 hj
    rcases hcov j (Array.getElem?_eq_some_iff.1 hoj).1 with h | h | h
    · exact h
    · exact absurd hj (tail_waitsL inv hs hc hin hun j h)
    · rw [inv.done j h] at hu; cases hu
  intro f
  induction f with
  | zero =>
    intro listed a inv _ hr hy HH
    have hun := (mem_ready.1 hr).1
    refine ⟨fun h => (by rw [h] at hr; cases hr), fun j hj => ⟨inH listed inv hun j hj, ?_⟩⟩
    by_cases hji : j = i
    · subst hji; exact hy.qOp hi HH
    · exact absurd (inH listed inv hun j hj) (hdone _ _ HH j (ready_mono hj hji))
  | succ f ih =>
    intro listed a inv hfree hr hy HH
    have hun := (mem_ready.1 hr).1
    refine ⟨fun h => (by rw [h] at hr; cases hr), fun j hj => ⟨inH listed inv hun j hj, ?_⟩⟩
    have hjH := inH listed inv hun j hj
    by_cases hji : j = i
    · subst hji; exact hy.qOp hi HH
    · have h1 := (HH.2 j (ready_mono hj hji)).2
      obtain ⟨hjun, oj, hoj, hall⟩ := mem_ready.1 hj
      have hnot : ∀ e ∈ oj.after, Region.binds md e = true → e.on ≠ i := fun e he hb heq => by
        have h1 := hall e he hb
        rw [heq, getD_both hun] at h1
        cases h1
      have h2 := qOp_put hoj (hfree j oj hoj hji hjun hnot) (fun cs b => hsel i oi cs b hi) (fun cs b => hsel j oj cs b hoj) hy h1
      have hfree' : ∀ k ok, ops[k]? = some ok → k ≠ i → (listed.setIfInBounds j true).getD k true = false →
          (∀ e ∈ ok.after, Region.binds md e = true → e.on ≠ i) → oi.apart ops ok = true := fun k ok hk hki hun hno => by
        refine hfree k ok hk hki ?_ hno
        by_cases hjk : j = k
        · subst hjk; exact hjun
        · rw [getD_set_ne true hjk] at hun; exact hun
      refine qOp_mono (fun a' h3 => ih (listed.setIfInBounds j true) a' (inv.set hj (hdis j hjH)) hfree' (ready_mono hr (Ne.symm hji)) h3.1 ?_) h2
      rw [Array.setIfInBounds_comm _ _ hji]
      exact h3.2

theorem wpAny_of_seqL {Q' : Exit → Act → World → Prop} {l : List Oper} : ∀ (T : List Nat) (listed : Array Bool) (a : Act) (w : World), (∀ t ∈ T, t < l.length) →
    seqL md l.toArray T listed = true → wpList P l.toArray Q' (pickO l T) a w → wpAny P md l.toArray Q' T.length listed a w
  | [], _, _, _, _, hB, h => ⟨by simpa [seqL] using hB, h⟩
  | t :: T, listed, a, w, hl, hB, h => by
    have ht := hl t (List.mem_cons_self ..)
    have h0 : l[t]? = some l[t] := List.getElem?_eq_getElem ht
    simp only [seqL, Bool.and_eq_true, decide_eq_true_eq] at hB
    simp only [pickO, h0] at h
    refine ⟨fun h1 => (by rw [hB.1] at h1; cases h1), fun i hi => ?_⟩
    rw [hB.1] at hi
    have hik : i = t := by simpa using hi
    subst hik
    have hw : wpOp P l.toArray Q' i (wpList P l.toArray Q' (pickO l T)) a w := by unfold wpOp; simp only [List.getElem?_toArray, h0]; exact h
    exact wpOp_mono (fun a' w' h' => wpAny_of_seqL T _ a' w' (fun j hj => hl j (List.mem_cons_of_mem _ hj)) hB.2 h') hw

theorem wpAnyLQ_lex {l : List Oper} {F H T : List Nat} {t0 : Nat} {Lq : Act → Prop} (hsel : Region.noSelect l.toArray = true) (hs : sinkL md l.toArray t0 H = true) (hc : chainL md l.toArray (t0 :: T) = true)
    (hcov : ∀ j, j < l.toArray.size → j ∈ H ∨ j ∈ t0 :: T ∨ j ∈ F) (hdis : ∀ j ∈ H, j ∉ t0 :: T) (hlt : ∀ j ∈ H, j < l.length) :
    ∀ (K : List Nat) (listed : Array Bool) (a : Act), (∀ j ∈ K, j ∈ H) → HeadL md l.toArray F (t0 :: T) listed →
    lexL md l.toArray (t0 :: T) K listed = true → wpQuiet P l.toArray C Lq (pickO l K) a →
    wpAnyLQ P md l.toArray C H (fun listed' a' => seqL md l.toArray (t0 :: T) listed' = true ∧ Lq a') K.length listed a
  | [], listed, a, _, _, hB, h => ⟨by simpa [lexL] using hB, h⟩
  | k :: K, listed, a, hK, inv, hB, h => by
    have hkH := hK k (List.mem_cons_self ..)
    have h0 : l[k]? = some (l[k]'(hlt k hkH)) := List.getElem?_eq_getElem (hlt k hkH)
    have h0' : l.toArray[k]? = some (l[k]'(hlt k hkH)) := by rw [List.getElem?_toArray]; exact h0
    simp only [lexL, Bool.and_eq_true] at hB
    obtain ⟨⟨hr, hf⟩, hB'⟩ := hB
    simp only [pickO, h0] at h
    have hr' : k ∈ Region.ready md l.toArray listed := by simpa using hr
    have hst : qOp P l.toArray C k (wpQuiet P l.toArray C Lq (pickO l K)) a := by unfold qOp; simp only [h0']; exact h
    obtain ⟨v, hy, hQ⟩ := yieldsIn_of_qOp h0' hst
    refine wpAnyLQ_first h0' (Region.noSelect_spec hsel) hs hc hcov hdis hkH (fun listed' a' hL j hj hjH => ?_) K.length listed a inv (Region.free_spec h0' hf) hr' hy
      (wpAnyLQ_lex hsel hs hc hcov hdis hlt K _ _ (fun j hj => hK j (List.mem_cons_of_mem _ hj)) (inv.set hr' (hdis k hkH)) hB' hQ)
    have hq := hL.1
    simp only [seqL, Bool.and_eq_true, decide_eq_true_eq] at hq
    rw [hq.1] at hj
    have : j = t0 := by simpa using hj
    subst this
    exact hdis j hjH (List.mem_cons_self ..)

theorem wpAny_tail {Q : Exit → Act → World → Prop} {a : Act} {w : World} {l : List Oper} {F H : List Nat} {t0 : Nat} {T : List Nat} {listed : Array Bool} (hB : tailB .any l.toArray F H t0 T listed = true) (inv : HeadL .any l.toArray F (t0 :: T) listed)
    (hC : C w) (h : wpQuiet P l.toArray C (fun a' => ∀ w', C w' → wpList P l.toArray Q (pickO l (t0 :: T)) a' w') (pickO l H) a) : wpAny P .any l.toArray Q (H.length + (t0 :: T).length) listed a w := by
  simp only [tailB, Bool.and_eq_true] at hB
  obtain ⟨⟨⟨⟨⟨⟨⟨hsel, hlen⟩, hcov⟩, hdis⟩, htl⟩, hs⟩, hc⟩, hlex⟩ := hB
  have hcov' : ∀ j, j < l.toArray.size → j ∈ H ∨ j ∈ t0 :: T ∨ j ∈ F := fun j hj => by
    have := List.all_eq_true.1 hcov j (List.mem_range.2 hj)
    simp only [Bool.or_eq_true, List.contains_iff_mem] at this
    exact this
  have hdis' : ∀ j ∈ H, j ∉ t0 :: T := fun j hj hjt => by
    have := List.all_eq_true.1 hdis j hj
    simp only [Bool.and_eq_true, Bool.not_eq_true', decide_eq_true_eq] at this
    rw [List.contains_iff_mem.2 hjt] at this
    cases this.2
  have hlt' : ∀ j ∈ H, j < l.length := fun j hj => by
    have := List.all_eq_true.1 hdis j hj
    simp only [Bool.and_eq_true, decide_eq_true_eq] at this
    simpa using this.1
  have htl' : ∀ j ∈ t0 :: T, j < l.length := fun j hj => by
    have := List.all_eq_true.1 htl j hj
    simpa using this
  have HH := wpAnyLQ_lex (md := .any) (C := C) hsel hs hc hcov' hdis' hlt' H _ a (fun j hj => hj) inv hlex h
  exact wpAny_of_headL (C := C) (Q' := Q) (g := (t0 :: T).length) (fun listed a' w' hw' hL => wpAny_of_seqL (md := .any) (Q' := Q) (t0 :: T) listed a' w' htl' hL.1 (hL.2 w' hw')) _ _ _ _ hC HH

theorem headL_start {l : List Oper} {T : List Nat} (ht : ∀ t ∈ T, t < l.length) : HeadL .any l.toArray [] T (Array.replicate l.toArray.size false) :=
  ⟨fun f hf => (by cases hf), by simp, fun j oj _ hl => (by rw [getD_replicate_false] at hl; cases hl), fun t h => getD_in (by simpa using ht t h) (getD_replicate_false _ _)⟩

/-- **The head in an order of one's own, quiet in the class; then the rest one by one, from any world of the class.** -/
theorem wp_region_quiet_tail {id : Nat} {Q : Exit → Act → World → Prop} {a : Act} {w : World} {l : List Oper} (H : List Nat) (t0 : Nat) (T : List Nat) (hm : P.follows .mixedOrders = true) (hB : tailB .any l.toArray [] H t0 T (Array.replicate l.toArray.size false) = true)
    (hC : C { w with drawn := w.drawn + 1 }) (h : wpQuiet P l.toArray C (fun a' => ∀ w', C w' → wpList P l.toArray Q (pickO l (t0 :: T)) a' w') (pickO l H) a) : (Code.region id l.toArray true).wp P Q a w := by
  have hB' := hB
  simp only [tailB, Bool.and_eq_true] at hB'
  obtain ⟨⟨⟨⟨⟨⟨⟨hsel, hlen⟩, hcov⟩, hdis⟩, htl⟩, hs⟩, hc⟩, hlex⟩ := hB'
  have htl' : ∀ j ∈ t0 :: T, j < l.length := fun j hj => by simpa using List.all_eq_true.1 htl j hj
  refine wp_region_any hm ?_
  have key := wpAny_tail (C := C) (Q := Q) hB (headL_start htl') hC h
  have e := of_decide_eq_true hlen
  rw [List.length_nil, Nat.zero_add] at e
  rw [e] at key
  exact key

/-- .. with one operation that no world has a say in, taken ahead of all. -/
theorem wp_region_quiet_tail1 {id : Nat} {Q : Exit → Act → World → Prop} {a : Act} {w : World} {l : List Oper} (f : Nat) (o : Oper) (v : Value) (H : List Nat) (t0 : Nat) (T : List Nat) (hm : P.follows .mixedOrders = true) (hf : l[f]? = some o)
    (hB : (Region.noSelect l.toArray && (Region.free .any l.toArray (Array.replicate l.toArray.size false) f && ((Region.ready .any l.toArray (Array.replicate l.toArray.size false)).contains f && (!(t0 :: T).contains f && tailB .any l.toArray [f] H t0 T ((Array.replicate l.toArray.size false).setIfInBounds f true))))) = true)
    (hC : C { w with drawn := w.drawn + 1 }) (hQ : ∀ c a w, Q (.panic c) (a.put o.dst v) w → Q (.panic c) a w) (hy : Yields P l.toArray o v a) (h : wpQuiet P l.toArray C (fun a' => ∀ w', C w' → wpList P l.toArray Q (pickO l (t0 :: T)) a' w') (pickO l H) (a.put o.dst v)) : (Code.region id l.toArray true).wp P Q a w := by
  simp only [Bool.and_eq_true] at hB
  obtain ⟨hsel0, hfree, hready, hnot, hB⟩ := hB
  have hB' := hB
  simp only [tailB, Bool.and_eq_true] at hB'
  obtain ⟨⟨⟨⟨⟨⟨⟨hsel, hlen⟩, hcov⟩, hdis⟩, htl⟩, hs⟩, hc⟩, hlex⟩ := hB'
  have htl' : ∀ j ∈ t0 :: T, j < l.length := fun j hj => by simpa using List.all_eq_true.1 htl j hj
  have hfT : f ∉ t0 :: T := fun hm => by
    rw [List.contains_iff_mem.2 hm] at hnot
    cases hnot
  have hf' : l.toArray[f]? = some o := by rw [List.getElem?_toArray]; exact hf
  have hr' : f ∈ Region.ready .any l.toArray (Array.replicate l.toArray.size false) := by simpa using hready
  have inv0 := (headL_start (l := l) htl').set hr' hfT
  have inv : HeadL .any l.toArray [f] (t0 :: T) ((Array.replicate l.toArray.size false).setIfInBounds f true) :=
    ⟨fun g hg => by
      have e : g = f := by simpa using hg
      subst e
      have hlt : g < l.length := (List.getElem?_eq_some_iff.1 hf).1
      simp [hlt], inv0.size, inv0.closed, inv0.tail⟩
  refine wp_region_any hm ?_
  have key := wpAny_tail (C := C) (Q := Q) hB inv hC h
  have e := of_decide_eq_true hlen
  rw [List.length_cons, List.length_nil] at e
  have e' : l.toArray.size = (H.length + (t0 :: T).length) + 1 := by omega
  rw [e']
  have hsz : Array.replicate ((H.length + (t0 :: T).length) + 1) false = Array.replicate l.toArray.size false := by rw [e']
  rw [hsz]
  exact wpAny_take hf' hsel0 hfree hready hQ hy key

/-- .. at the class of the later worlds. -/
theorem wp_region_later_tail {P : Program} {id : Nat} {Q : Exit → Act → World → Prop} {a : Act} {W : World} {l : List Oper} (H : List Nat) (t0 : Nat) (T : List Nat) (hm : P.follows .mixedOrders = true) (hB : tailB .any l.toArray [] H t0 T (Array.replicate l.toArray.size false) = true)
    (h : wpQuiet P l.toArray (fun w' => ∃ t : Later W, w' = t.w) (fun a' => ∀ w', (∃ t : Later W, w' = t.w) → wpList P l.toArray Q (pickO l (t0 :: T)) a' w') (pickO l H) a) : (Code.region id l.toArray true).wp P Q a W :=
  wp_region_quiet_tail (C := fun w' => ∃ t : Later W, w' = t.w) H t0 T hm hB ⟨⟨W.drew, (New.same W).drew_⟩, rfl⟩ h
theorem wp_region_later_tail1 {P : Program} {id : Nat} {Q : Exit → Act → World → Prop} {a : Act} {W : World} {l : List Oper} (f : Nat) (o : Oper) (v : Value) (H : List Nat) (t0 : Nat) (T : List Nat) (hm : P.follows .mixedOrders = true) (hf : l[f]? = some o)
    (hB : (Region.noSelect l.toArray && (Region.free .any l.toArray (Array.replicate l.toArray.size false) f && ((Region.ready .any l.toArray (Array.replicate l.toArray.size false)).contains f && (!(t0 :: T).contains f && tailB .any l.toArray [f] H t0 T ((Array.replicate l.toArray.size false).setIfInBounds f true))))) = true)
    (hQ : ∀ c a w, Q (.panic c) (a.put o.dst v) w → Q (.panic c) a w) (hy : Yields P l.toArray o v a) (h : wpQuiet P l.toArray (fun w' => ∃ t : Later W, w' = t.w) (fun a' => ∀ w', (∃ t : Later W, w' = t.w) → wpList P l.toArray Q (pickO l (t0 :: T)) a' w') (pickO l H) (a.put o.dst v)) : (Code.region id l.toArray true).wp P Q a W :=
  wp_region_quiet_tail1 (C := fun w' => ∃ t : Later W, w' = t.w) f o v H t0 T hm hf hB ⟨⟨W.drew, (New.same W).drew_⟩, rfl⟩ hQ hy h
end

end Go.Proofs.Ytcbifdfcllaaaaa
