/- A region that draws its order: some of its operations (in an order of one's own choice) read and call only, each call making memory at most; what is left waits for them and comes one by one. One walk: the first in that order, then the rest. Plain law over the model's own words; no program. -/
import Derived.Test.YtcbifdfcllaaaaaGreatDoorLater
import Derived.StillTail
import Derived.Deep.RegionHeld3
import Derived.OrdersHeld
namespace Go.Proofs.YtcbifdfcllaaaaaGreatDoor
open Go.RowKit Go.Deep
set_option linter.unusedVariables false

section
variable {P : Program} {ops : Array Oper} {md : Region.Mode} {C : World → Prop}

/-- each of the list is waited for by a later one of it, or by t0 -/
def sinkL (md : Region.Mode) (ops : Array Oper) (t0 : Nat) : List Nat → Bool
  | [] => true
  | i :: H => (t0 :: H).any (fun j => Region.waitsFor md ops j i) && sinkL md ops t0 H
/-- each waits for the one before it -/
def chainL (md : Region.Mode) (ops : Array Oper) : List Nat → Bool
  | t :: u :: T => Region.waitsFor md ops u t && chainL md ops (u :: T)
  | _ => true
def seqL (md : Region.Mode) (ops : Array Oper) : List Nat → Array Bool → Bool
  | [], listed => (Region.ready md ops listed).isEmpty
  | t :: T, listed => decide (Region.ready md ops listed = [t]) && seqL md ops T (listed.setIfInBounds t true)
def lexL (md : Region.Mode) (ops : Array Oper) (T : List Nat) : List Nat → Array Bool → Bool
  | [], listed => seqL md ops T listed
  | k :: H, listed => (Region.ready md ops listed).contains k && Region.free md ops listed k && lexL md ops T H (listed.setIfInBounds k true)
/-- the operations at these places -/
def pickO (l : List Oper) : List Nat → List Oper
  | [] => []
  | i :: is => match l[i]? with
    | some o => o :: pickO l is
    | none => pickO l is
def tailB (md : Region.Mode) (ops : Array Oper) (F H : List Nat) (t0 : Nat) (T : List Nat) (listed : Array Bool) : Bool :=
  Region.noSelect ops && decide (F.length + (H.length + (t0 :: T).length) = ops.size) && (List.range ops.size).all (fun i => H.contains i || ((t0 :: T).contains i || F.contains i)) && H.all (fun i => decide (i < ops.size) && !(t0 :: T).contains i) && (t0 :: T).all (fun i => decide (i < ops.size)) &&
    sinkL md ops t0 H && chainL md ops (t0 :: T) && lexL md ops (t0 :: T) H listed

structure HeadL (md : Region.Mode) (ops : Array Oper) (F T : List Nat) (listed : Array Bool) : Prop where
  done : ∀ f ∈ F, listed.getD f true = true
  size : listed.size = ops.size
  closed : ∀ j oj, ops[j]? = some oj → listed.getD j false = true → ∀ e ∈ oj.after, Region.binds md e = true → listed.getD e.on false = true
  tail : ∀ t ∈ T, listed.getD t true = false

theorem HeadL.set {F T : List Nat} {i : Nat} {listed : Array Bool} (inv : HeadL md ops F T listed) (hi : i ∈ Region.ready md ops listed) (hin : i ∉ T) : HeadL md ops F T (listed.setIfInBounds i true) := by
  obtain ⟨_, oi, hoi, hall⟩ := mem_ready.1 hi
  refine ⟨fun f hf => ?_, by simp [inv.size], fun j oj hj hl e he hb => ?_, fun t ht => by rw [getD_set_ne true (fun e : i = t => hin (by rw [e]; exact ht))]; exact inv.tail t ht⟩
  · by_cases hif : i = f
    · subst hif
      rcases Nat.lt_or_ge i listed.size with h | h
      · simp [h]
      · simp
    · rw [getD_set_ne true hif]; exact inv.done f hf
  by_cases hij : i = j
  · subst hij
    have : oj = oi := Option.some.inj (hj.symm.trans hoi)
    subst this
    exact getD_set_true (hall e he hb)
  · rw [getD_set_ne false hij] at hl
    exact getD_set_true (inv.closed j oj hj hl e he hb)

theorem not_ready {listed : Array Bool} {j i : Nat} (hw : Region.waitsFor md ops j i = true) (h : listed.getD i true = false) : j ∉ Region.ready md ops listed := by
  intro hr
  obtain ⟨_, oj, hoj, hall⟩ := mem_ready.1 hr
  obtain ⟨o', ho', e, he, hb, hon⟩ := Region.waitsFor_spec hw
  have : o' = oj := Option.some.inj (ho'.symm.trans hoj)
  subst this
  have h2 := hall e he hb
  rw [hon, getD_both h] at h2
  cases h2

theorem t0_waits {F T : List Nat} {t0 : Nat} {listed : Array Bool} (inv : HeadL md ops F T listed) : ∀ (H : List Nat), sinkL md ops t0 H = true → ∀ i ∈ H, listed.getD i true = false → t0 ∉ Region.ready md ops listed
  | [], _, i, hi, _ => by cases hi
  | i0 :: H, hs, i, hi, hu => by
    simp only [sinkL, Bool.and_eq_true] at hs
    rcases List.mem_cons.1 hi with e | hi'
    · subst e
      obtain ⟨j, hj, hw⟩ := List.any_eq_true.1 hs.1
      rcases List.mem_cons.1 hj with e | hj'
      · subst e; exact not_ready hw hu
      · obtain ⟨oj, hoj, e, he, hb, hon⟩ := Region.waitsFor_spec hw
        cases hl : listed.getD j false with
        | true =>
          have h2 := inv.closed j oj hoj hl e he hb
          rw [hon, getD_both hu] at h2
          cases h2
        | false =>
          have hjs : j < listed.size := by rw [inv.size]; exact (Array.getElem?_eq_some_iff.1 hoj).1
          exact t0_waits inv H hs.2 j hj' (getD_in hjs hl)
    · exact t0_waits inv H hs.2 i hi' hu

theorem chain_pred : ∀ {t0 : Nat} {T : List Nat}, chainL md ops (t0 :: T) = true → ∀ t ∈ T, ∃ p ∈ t0 :: T, Region.waitsFor md ops t p = true
  | t0, [], _, t, ht => by cases ht
  | t0, u :: T, h, t, ht => by
    simp only [chainL, Bool.and_eq_true] at h
    rcases List.mem_cons.1 ht with e | ht'
    · subst e; exact ⟨t0, List.mem_cons_self .., h.1⟩
    · obtain ⟨p, hp, hw⟩ := chain_pred h.2 t ht'
      exact ⟨p, List.mem_cons_of_mem _ hp, hw⟩

theorem tail_waitsL {F H T : List Nat} {t0 : Nat} {listed : Array Bool} (inv : HeadL md ops F (t0 :: T) listed) (hs : sinkL md ops t0 H = true) (hc : chainL md ops (t0 :: T) = true) {i : Nat} (hi : i ∈ H) (hu : listed.getD i true = false) :
    ∀ t ∈ t0 :: T, t ∉ Region.ready md ops listed := by
  intro t ht
  rcases List.mem_cons.1 ht with e | ht'
  · subst e; exact t0_waits inv H hs i hi hu
  · obtain ⟨p, hp, hw⟩ := chain_pred hc t ht'
    exact not_ready hw (inv.tail p hp)

def wpAnyLQ (P : Program) (md : Region.Mode) (ops : Array Oper) (C : World → Prop) (H : List Nat) (L : Array Bool → Act → Prop) : Nat → Array Bool → Act → Prop
  | 0, listed, a => L listed a
  | f + 1, listed, a =>
    Region.ready md ops listed ≠ [] ∧ ∀ i ∈ Region.ready md ops listed, i ∈ H ∧ qOp P ops C i (wpAnyLQ P md ops C H L f (listed.setIfInBounds i true)) a

theorem wpAny_of_headL {H : List Nat} {g : Nat} {L : Array Bool → Act → Prop} {Q' : Exit → Act → World → Prop} (hL : ∀ listed a w, C w → L listed a → wpAny P md ops Q' g listed a w) :
    ∀ (f : Nat) (listed : Array Bool) (a : Act) (w : World), C w → wpAnyLQ P md ops C H L f listed a → wpAny P md ops Q' (f + g) listed a w
  | 0, listed, a, w, hw, h => by rw [Nat.zero_add]; exact hL _ _ _ hw h
  | f + 1, listed, a, w, hw, h => by
    rw [show f + 1 + g = (f + g) + 1 by omega]
    exact ⟨fun h0 => absurd h0 h.1, fun i hi => wpOp_of_qOp hw (fun a' w' hw' h' => wpAny_of_headL hL f _ a' w' hw' h') (h.2 i hi).2⟩

theorem wpAnyLQ_first {F H T : List Nat} {t0 i : Nat} {oi : Oper} {v : Value} {L : Array Bool → Act → Prop} (hi : ops[i]? = some oi) (hsel : ∀ (j : Nat) (o : Oper) cs b, ops[j]? = some o → o.op ≠ .select cs b)
    (hs : sinkL md ops t0 H = true) (hc : chainL md ops (t0 :: T) = true) (hcov : ∀ j, j < ops.size → j ∈ H ∨ j ∈ t0 :: T ∨ j ∈ F) (hdis : ∀ j ∈ H, j ∉ t0 :: T) (hin : i ∈ H)
    (hdone : ∀ listed a, L listed a → ∀ j ∈ Region.ready md ops listed, j ∉ H) :
    ∀ (f : Nat) (listed : Array Bool) (a : Act), HeadL md ops F (t0 :: T) listed →
      (∀ j oj, ops[j]? = some oj → j ≠ i → listed.getD j true = false → (∀ e ∈ oj.after, Region.binds md e = true → e.on ≠ i) → oi.apart ops oj = true) →
      i ∈ Region.ready md ops listed → YieldsIn P ops C oi v a →
      wpAnyLQ P md ops C H L f (listed.setIfInBounds i true) (a.put oi.dst v) → wpAnyLQ P md ops C H L (f + 1) listed a := by
  have inH : ∀ (listed : Array Bool), HeadL md ops F (t0 :: T) listed → listed.getD i true = false → ∀ j ∈ Region.ready md ops listed, j ∈ H := by
    intro listed inv hun j hj
    obtain ⟨hu, oj, hoj, _⟩ := mem_ready.1 hj
    rcases hcov j (Array.getElem?_eq_some_iff.1 hoj).1 with h | h | h
    · exact h
    · exact absurd hj (tail_waitsL inv hs hc hin hun j h)
    · rw [inv.done j h] at hu; cases hu
  intro f
  induction f with
  | zero =>
    intro listed a inv _ hr hy HH
    have hun := (mem_ready.1 hr).1
    refine ⟨fun h => (by rw [h] at hr; cases hr), fun j hj => ⟨inH listed inv hun j hj, ?_⟩⟩
    by_cases hji : j = i
    · subst hji; exact hy.qOp hi HH
    · exact absurd (inH listed inv hun j hj) (hdone _ _ HH j (ready_mono hj hji))
  | succ f ih =>
    intro listed a inv hfree hr hy HH
    have hun := (mem_ready.1 hr).1
    refine ⟨fun h => (by rw [h] at hr; cases hr), fun j hj => ⟨inH listed inv hun j hj, ?_⟩⟩
    have hjH := inH listed inv hun j hj
    by_cases hji : j = i
    · subst hji; exact hy.qOp hi HH
    · have h1 := (HH.2 j (ready_mono hj hji)).2
      obtain ⟨hjun, oj, hoj, hall⟩ := mem_ready.1 hj
      have hnot : ∀ e ∈ oj.after, Region.binds md e = true → e.on ≠ i := fun e he hb heq => by
        have h1 := hall e he hb
        rw [heq, getD_both hun] at h1
        cases h1
      have h2 := qOp_put hoj (hfree j oj hoj hji hjun hnot) (fun cs b => hsel i oi cs b hi) (fun cs b => hsel j oj cs b hoj) hy h1
      have hfree' : ∀ k ok, ops[k]? = some ok → k ≠ i → (listed.setIfInBounds j true).getD k true = false →
          (∀ e ∈ ok.after, Region.binds md e = true → e.on ≠ i) → oi.apart ops ok = true := fun k ok hk hki hun hno => by
        refine hfree k ok hk hki ?_ hno
        by_cases hjk : j = k
        · subst hjk; exact hjun
        · rw [getD_set_ne true hjk] at hun; exact hun
      refine qOp_mono (fun a' h3 => ih (listed.setIfInBounds j true) a' (inv.set hj (hdis j hjH)) hfree' (ready_mono hr (Ne.symm hji)) h3.1 ?_) h2
      rw [Array.setIfInBounds_comm _ _ hji]
      exact h3.2

theorem wpAny_of_seqL {Q' : Exit → Act → World → Prop} {l : List Oper} : ∀ (T : List Nat) (listed : Array Bool) (a : Act) (w : World), (∀ t ∈ T, t < l.length) →
    seqL md l.toArray T listed = true → wpList P l.toArray Q' (pickO l T) a w → wpAny P md l.toArray Q' T.length listed a w
  | [], _, _, _, _, hB, h => ⟨by simpa [seqL] using hB, h⟩
  | t :: T, listed, a, w, hl, hB, h => by
    have ht := hl t (List.mem_cons_self ..)
    have h0 : l[t]? = some l[t] := List.getElem?_eq_getElem ht
    simp only [seqL, Bool.and_eq_true, decide_eq_true_eq] at hB
    simp only [pickO, h0] at h
    refine ⟨fun h1 => (by rw [hB.1] at h1; cases h1), fun i hi => ?_⟩
    rw [hB.1] at hi
    have hik : i = t := by simpa using hi
    subst hik
    have hw : wpOp P l.toArray Q' i (wpList P l.toArray Q' (pickO l T)) a w := by unfold wpOp; simp only [List.getElem?_toArray, h0]; exact h
    exact wpOp_mono (fun a' w' h' => wpAny_of_seqL T _ a' w' (fun j hj => hl j (List.mem_cons_of_mem _ hj)) hB.2 h') hw

theorem wpAnyLQ_lex {l : List Oper} {F H T : List Nat} {t0 : Nat} {Lq : Act → Prop} (hsel : Region.noSelect l.toArray = true) (hs : sinkL md l.toArray t0 H = true) (hc : chainL md l.toArray (t0 :: T) = true)
    (hcov : ∀ j, j < l.toArray.size → j ∈ H ∨ j ∈ t0 :: T ∨ j ∈ F) (hdis : ∀ j ∈ H, j ∉ t0 :: T) (hlt : ∀ j ∈ H, j < l.length) :
    ∀ (K : List Nat) (listed : Array Bool) (a : Act), (∀ j ∈ K, j ∈ H) → HeadL md l.toArray F (t0 :: T) listed →
    lexL md l.toArray (t0 :: T) K listed = true → wpQuiet P l.toArray C Lq (pickO l K) a →
    wpAnyLQ P md l.toArray C H (fun listed' a' => seqL md l.toArray (t0 :: T) listed' = true ∧ Lq a') K.length listed a
  | [], listed, a, _, _, hB, h => ⟨by simpa [lexL] using hB, h⟩
  | k :: K, listed, a, hK, inv, hB, h => by
    have hkH := hK k (List.mem_cons_self ..)
    have h0 : l[k]? = some (l[k]'(hlt k hkH)) := List.getElem?_eq_getElem (hlt k hkH)
    have h0' : l.toArray[k]? = some (l[k]'(hlt k hkH)) := by rw [List.getElem?_toArray]; exact h0
    simp only [lexL, Bool.and_eq_true] at hB
    obtain ⟨⟨hr, hf⟩, hB'⟩ := hB
    simp only [pickO, h0] at h
    have hr' : k ∈ Region.ready md l.toArray listed := by simpa using hr
    have hst : qOp P l.toArray C k (wpQuiet P l.toArray C Lq (pickO l K)) a := by unfold qOp; simp only [h0']; exact h
    obtain ⟨v, hy, hQ⟩ := yieldsIn_of_qOp h0' hst
    refine wpAnyLQ_first h0' (Region.noSelect_spec hsel) hs hc hcov hdis hkH (fun listed' a' hL j hj hjH => ?_) K.length listed a inv (Region.free_spec h0' hf) hr' hy
      (wpAnyLQ_lex hsel hs hc hcov hdis hlt K _ _ (fun j hj => hK j (List.mem_cons_of_mem _ hj)) (inv.set hr' (hdis k hkH)) hB' hQ)
    have hq := hL.1
    simp only [seqL, Bool.and_eq_true, decide_eq_true_eq] at hq
    rw [hq.1] at hj
    have : j = t0 := by simpa using hj
    subst this
    exact hdis j hjH (List.mem_cons_self ..)

theorem wpAny_tail {Q : Exit → Act → World → Prop} {a : Act} {w : World} {l : List Oper} {F H : List Nat} {t0 : Nat} {T : List Nat} {listed : Array Bool} (hB : tailB .any l.toArray F H t0 T listed = true) (inv : HeadL .any l.toArray F (t0 :: T) listed)
    (hC : C w) (h : wpQuiet P l.toArray C (fun a' => ∀ w', C w' → wpList P l.toArray Q (pickO l (t0 :: T)) a' w') (pickO l H) a) : wpAny P .any l.toArray Q (H.length + (t0 :: T).length) listed a w := by
  simp only [tailB, Bool.and_eq_true] at hB
  obtain ⟨⟨⟨⟨⟨⟨⟨hsel, hlen⟩, hcov⟩, hdis⟩, htl⟩, hs⟩, hc⟩, hlex⟩ := hB
  have hcov' : ∀ j, j < l.toArray.size → j ∈ H ∨ j ∈ t0 :: T ∨ j ∈ F := fun j hj => by
    have := List.all_eq_true.1 hcov j (List.mem_range.2 hj)
    simp only [Bool.or_eq_true, List.contains_iff_mem] at this
    exact this
  have hdis' : ∀ j ∈ H, j ∉ t0 :: T := fun j hj hjt => by
    have := List.all_eq_true.1 hdis j hj
    simp only [Bool.and_eq_true, Bool.not_eq_true', decide_eq_true_eq] at this
    rw [List.contains_iff_mem.2 hjt] at this
    cases this.2
  have hlt' : ∀ j ∈ H, j < l.length := fun j hj => by
    have := List.all_eq_true.1 hdis j hj
    simp only [Bool.and_eq_true, decide_eq_true_eq] at this
    simpa using this.1
  have htl' : ∀ j ∈ t0 :: T, j < l.length := fun j hj => by
    have := List.all_eq_true.1 htl j hj
    simpa using this
  have HH := wpAnyLQ_lex (md := .any) (C := C) hsel hs hc hcov' hdis' hlt' H _ a (fun j hj => hj) inv hlex h
  exact wpAny_of_headL (C := C) (Q' := Q) (g := (t0 :: T).length) (fun listed a' w' hw' hL => wpAny_of_seqL (md := .any) (Q' := Q) (t0 :: T) listed a' w' htl' hL.1 (hL.2 w' hw')) _ _ _ _ hC HH

theorem headL_start {l : List Oper} {T : List Nat} (ht : ∀ t ∈ T, t < l.length) : HeadL .any l.toArray [] T (Array.replicate l.toArray.size false) :=
  ⟨fun f hf => (by cases hf), by simp, fun j oj _ hl => (by rw [getD_replicate_false] at hl; cases hl), fun t h => getD_in (by simpa using ht t h) (getD_replicate_false _ _)⟩

/-- **The head in an order of one's own, quiet in the class; then the rest one by one, from any world of the class.** -/
theorem wp_region_quiet_tail {id : Nat} {Q : Exit → Act → World → Prop} {a : Act} {w : World} {l : List Oper} (H : List Nat) (t0 : Nat) (T : List Nat) (hm : P.follows .mixedOrders = true) (hB : tailB .any l.toArray [] H t0 T (Array.replicate l.toArray.size false) = true)
    (hC : C { w with drawn := w.drawn + 1 }) (h : wpQuiet P l.toArray C (fun a' => ∀ w', C w' → wpList P l.toArray Q (pickO l (t0 :: T)) a' w') (pickO l H) a) : (Code.region id l.toArray true).wp P Q a w := by
  have hB' := hB
  simp only [tailB, Bool.and_eq_true] at hB'
  obtain ⟨⟨⟨⟨⟨⟨⟨hsel, hlen⟩, hcov⟩, hdis⟩, htl⟩, hs⟩, hc⟩, hlex⟩ := hB'
  have htl' : ∀ j ∈ t0 :: T, j < l.length := fun j hj => by simpa using List.all_eq_true.1 htl j hj
  refine wp_region_any hm ?_
  have key := wpAny_tail (C := C) (Q := Q) hB (headL_start htl') hC h
  have e := of_decide_eq_true hlen
  rw [List.length_nil, Nat.zero_add] at e
  rw [e] at key
  exact key

/-- .. with one operation that no world has a say in, taken ahead of all. -/
theorem wp_region_quiet_tail1 {id : Nat} {Q : Exit → Act → World → Prop} {a : Act} {w : World} {l : List Oper} (f : Nat) (o : Oper) (v : Value) (H : List Nat) (t0 : Nat) (T : List Nat) (hm : P.follows .mixedOrders = true) (hf : l[f]? = some o)
    (hB : (Region.noSelect l.toArray && (Region.free .any l.toArray (Array.replicate l.toArray.size false) f && ((Region.ready .any l.toArray (Array.replicate l.toArray.size false)).contains f && (!(t0 :: T).contains f && tailB .any l.toArray [f] H t0 T ((Array.replicate l.toArray.size false).setIfInBounds f true))))) = true)
    (hC : C { w with drawn := w.drawn + 1 }) (hQ : ∀ c a w, Q (.panic c) (a.put o.dst v) w → Q (.panic c) a w) (hy : Yields P l.toArray o v a) (h : wpQuiet P l.toArray C (fun a' => ∀ w', C w' → wpList P l.toArray Q (pickO l (t0 :: T)) a' w') (pickO l H) (a.put o.dst v)) : (Code.region id l.toArray true).wp P Q a w := by
  simp only [Bool.and_eq_true] at hB
  obtain ⟨hsel0, hfree, hready, hnot, hB⟩ := hB
  have hB' := hB
  simp only [tailB, Bool.and_eq_true] at hB'
  obtain ⟨⟨⟨⟨⟨⟨⟨hsel, hlen⟩, hcov⟩, hdis⟩, htl⟩, hs⟩, hc⟩, hlex⟩ := hB'
  have htl' : ∀ j ∈ t0 :: T, j < l.length := fun j hj => by simpa using List.all_eq_true.1 htl j hj
  have hfT : f ∉ t0 :: T := fun hm => by
    rw [List.contains_iff_mem.2 hm] at hnot
    cases hnot
  have hf' : l.toArray[f]? = some o := by rw [List.getElem?_toArray]; exact hf
  have hr' : f ∈ Region.ready .any l.toArray (Array.replicate l.toArray.size false) := by simpa using hready
  have inv0 := (headL_start (l := l) htl').set hr' hfT
  have inv : HeadL .any l.toArray [f] (t0 :: T) ((Array.replicate l.toArray.size false).setIfInBounds f true) :=
    ⟨fun g hg => by
      have e : g = f := by simpa using hg
      subst e
      have hlt : g < l.length := (List.getElem?_eq_some_iff.1 hf).1
      simp [hlt], inv0.size, inv0.closed, inv0.tail⟩
  refine wp_region_any hm ?_
  have key := wpAny_tail (C := C) (Q := Q) hB inv hC h
  have e := of_decide_eq_true hlen
  rw [List.length_cons, List.length_nil] at e
  have e' : l.toArray.size = (H.length + (t0 :: T).length) + 1 := by omega
  rw [e']
  have hsz : Array.replicate ((H.length + (t0 :: T).length) + 1) false = Array.replicate l.toArray.size false := by rw [e']
  rw [hsz]
  exact wpAny_take hf' hsel0 hfree hready hQ hy key

/-- .. at the class of the later worlds. -/
theorem wp_region_later_tail {P : Program} {id : Nat} {Q : Exit → Act → World → Prop} {a : Act} {W : World} {l : List Oper} (H : List Nat) (t0 : Nat) (T : List Nat) (hm : P.follows .mixedOrders = true) (hB : tailB .any l.toArray [] H t0 T (Array.replicate l.toArray.size false) = true)
    (h : wpQuiet P l.toArray (fun w' => ∃ t : Later W, w' = t.w) (fun a' => ∀ w', (∃ t : Later W, w' = t.w) → wpList P l.toArray Q (pickO l (t0 :: T)) a' w') (pickO l H) a) : (Code.region id l.toArray true).wp P Q a W :=
  wp_region_quiet_tail (C := fun w' => ∃ t : Later W, w' = t.w) H t0 T hm hB ⟨⟨W.drew, (New.same W).drew_⟩, rfl⟩ h
theorem wp_region_later_tail1 {P : Program} {id : Nat} {Q : Exit → Act → World → Prop} {a : Act} {W : World} {l : List Oper} (f : Nat) (o : Oper) (v : Value) (H : List Nat) (t0 : Nat) (T : List Nat) (hm : P.follows .mixedOrders = true) (hf : l[f]? = some o)
    (hB : (Region.noSelect l.toArray && (Region.free .any l.toArray (Array.replicate l.toArray.size false) f && ((Region.ready .any l.toArray (Array.replicate l.toArray.size false)).contains f && (!(t0 :: T).contains f && tailB .any l.toArray [f] H t0 T ((Array.replicate l.toArray.size false).setIfInBounds f true))))) = true)
    (hQ : ∀ c a w, Q (.panic c) (a.put o.dst v) w → Q (.panic c) a w) (hy : Yields P l.toArray o v a) (h : wpQuiet P l.toArray (fun w' => ∃ t : Later W, w' = t.w) (fun a' => ∀ w', (∃ t : Later W, w' = t.w) → wpList P l.toArray Q (pickO l (t0 :: T)) a' w') (pickO l H) (a.put o.dst v)) : (Code.region id l.toArray true).wp P Q a W :=
  wp_region_quiet_tail1 (C := fun w' => ∃ t : Later W, w' = t.w) f o v H t0 T hm hf hB ⟨⟨W.drew, (New.same W).drew_⟩, rfl⟩ hQ hy h
end

end Go.Proofs.YtcbifdfcllaaaaaGreatDoor

/- A region that draws its order and appends: some operations (F, reads that leave the world alone) are waited for by the append alone and may come up as late as behind the making of the appended row; the others (H) as in QTail; then the row is made (m), then the rest (t1 :: T) one by one. Plain law over the model's own words; no program. -/
namespace Go.Proofs.YtcbifdfcllaaaaaGreatDoor
open Go.RowKit Go.Deep
set_option linter.unusedVariables false
set_option linter.unusedSimpArgs false
set_option linter.unnecessarySimpa false

section
variable {P : Program} {ops : Array Oper} {md : Region.Mode} {C : World → Prop} {D : Nat → Bool} {Q : Exit → Act → World → Prop}

/-- Whatever order is picked from here on, and the class holds behind every operation of D. -/
def wpAnyC (P : Program) (md : Region.Mode) (ops : Array Oper) (Q : Exit → Act → World → Prop) (C : World → Prop) (D : Nat → Bool) : Nat → Array Bool → Act → World → Prop
  | 0, listed, a, w => Region.ready md ops listed = [] ∧ Q .normal a w
  | fuel + 1, listed, a, w =>
    (Region.ready md ops listed = [] → Q .normal a w) ∧
    ∀ i ∈ Region.ready md ops listed, wpOp P ops Q i (fun a' w' => (D i = true → C w') ∧ wpAnyC P md ops Q C D fuel (listed.setIfInBounds i true) a' w') a w

theorem wpAny_of_C : ∀ (fuel : Nat) (listed : Array Bool) (a : Act) (w : World), wpAnyC P md ops Q C D fuel listed a w → wpAny P md ops Q fuel listed a w
  | 0, _, _, _, h => h
  | fuel + 1, _, _, _, h => ⟨h.1, fun i hi => wpOp_mono (fun a' w' h' => wpAny_of_C fuel _ a' w' h'.2) (h.2 i hi)⟩

/-- **A read may be taken first, if the class holds as long as it has not come up.** -/
theorem wpAnyC_first {G : Array Bool → Prop} {i : Nat} {oi : Oper} {v : Value} (hi : ops[i]? = some oi) (hsel : ∀ (j : Nat) (o : Oper) cs b, ops[j]? = some o → o.op ≠ .select cs b)
    (hQ : ∀ c a w, Q (.panic c) (a.put oi.dst v) w → Q (.panic c) a w) (hDi : D i = true)
    (hG : ∀ listed j, G listed → j ∈ Region.ready md ops listed → j ≠ i → listed.getD i true = false → D j = true ∧ G (listed.setIfInBounds j true)) :
    ∀ (fuel : Nat) (listed : Array Bool) (a : Act) (w : World), G listed →
      (∀ j oj, ops[j]? = some oj → j ≠ i → listed.getD j true = false → (∀ e ∈ oj.after, Region.binds md e = true → e.on ≠ i) → oi.apart ops oj = true) →
      i ∈ Region.ready md ops listed → YieldsIf P ops C oi v a → C w →
      wpAnyC P md ops Q C D fuel (listed.setIfInBounds i true) (a.put oi.dst v) w → wpAnyC P md ops Q C D (fuel + 1) listed a w := by
  intro fuel
  induction fuel with
  | zero =>
    intro listed a w hg _ hr hy hS H
    refine ⟨fun h => (by rw [h] at hr; cases hr), fun j hj => ?_⟩
    by_cases hji : j = i
    · subst hji; exact hy.wpOp hi hS ⟨fun _ => hS, H⟩
    · have := ready_mono hj hji
      rw [H.1] at this
      cases this
  | succ fuel ih =>
    intro listed a w hg hfree hr hy hS H
    refine ⟨fun h => (by rw [h] at hr; cases hr), fun j hj => ?_⟩
    by_cases hji : j = i
    · subst hji; exact hy.wpOp hi hS ⟨fun _ => hS, H⟩
    · have h1 := H.2 j (ready_mono hj hji)
      obtain ⟨hjun, oj, hoj, hall⟩ := mem_ready.1 hj
      have hun := (mem_ready.1 hr).1
      have hnot : ∀ e ∈ oj.after, Region.binds md e = true → e.on ≠ i := fun e he hb heq => by
        have h1 := hall e he hb
        rw [heq, getD_both hun] at h1
        cases h1
      obtain ⟨hDj, hg'⟩ := hG listed j hg hj hji hun
      have h2 := wpOp_putIf hoj (hfree j oj hoj hji hjun hnot) (fun cs b => hsel i oi cs b hi) (fun cs b => hsel j oj cs b hoj) hQ hy h1
      have hfree' : ∀ k ok, ops[k]? = some ok → k ≠ i → (listed.setIfInBounds j true).getD k true = false →
          (∀ e ∈ ok.after, Region.binds md e = true → e.on ≠ i) → oi.apart ops ok = true := fun k ok hk hki hun hno => by
        refine hfree k ok hk hki ?_ hno
        by_cases hjk : j = k
        · subst hjk; exact hjun
        · rw [getD_set_ne true hjk] at hun; exact hun
      refine wpOp_mono (fun a' w' h3 => ⟨fun _ => h3.2.1 hDj, ih (listed.setIfInBounds j true) a' w' hg' hfree' (ready_mono hr (Ne.symm hji)) h3.1 (h3.2.1 hDj) ?_⟩) h2
      rw [Array.setIfInBounds_comm _ _ hji]
      exact h3.2.2

theorem wpAnyC_of_headL {H : List Nat} {g : Nat} {L : Array Bool → Act → Prop} (hL : ∀ listed a w, C w → L listed a → wpAnyC P md ops Q C D g listed a w) :
    ∀ (f : Nat) (listed : Array Bool) (a : Act) (w : World), C w → wpAnyLQ P md ops C H L f listed a → wpAnyC P md ops Q C D (f + g) listed a w
  | 0, listed, a, w, hw, h => by rw [Nat.zero_add]; exact hL _ _ _ hw h
  | f + 1, listed, a, w, hw, h => by
    rw [show f + 1 + g = (f + g) + 1 by omega]
    exact ⟨fun h0 => absurd h0 h.1, fun i hi => wpOp_of_qOp hw (fun a' w' hw' h' => ⟨fun _ => hw', wpAnyC_of_headL hL f _ a' w' hw' h'⟩) (h.2 i hi).2⟩

theorem late_seq {l : List Oper} : ∀ (T : List Nat) (listed : Array Bool) (a : Act) (w : World), (∀ t ∈ T, D t = false) → (∀ t ∈ T, t < l.length) →
    seqL md l.toArray T listed = true → wpList P l.toArray Q (pickO l T) a w → wpAnyC P md l.toArray Q C D T.length listed a w
  | [], _, _, _, _, _, hB, h => ⟨by simpa [seqL] using hB, h⟩
  | t :: T, listed, a, w, hd, hl, hB, h => by
    have ht := hl t (List.mem_cons_self ..)
    have h0 : l[t]? = some l[t] := List.getElem?_eq_getElem ht
    simp only [seqL, Bool.and_eq_true, decide_eq_true_eq] at hB
    simp only [pickO, h0] at h
    refine ⟨fun h1 => (by rw [hB.1] at h1; cases h1), fun i hi => ?_⟩
    rw [hB.1] at hi
    have hik : i = t := by simpa using hi
    subst hik
    have hw : wpOp P l.toArray Q i (wpList P l.toArray Q (pickO l T)) a w := by unfold wpOp; simp only [List.getElem?_toArray, h0]; exact h
    exact wpOp_mono (fun a' w' h' => ⟨fun hx => (by rw [hd i (List.mem_cons_self ..)] at hx; cases hx), late_seq T _ a' w' (fun j hj => hd j (List.mem_cons_of_mem _ hj)) (fun j hj => hl j (List.mem_cons_of_mem _ hj)) hB.2 h'⟩) hw

theorem HeadL.less {F T : List Nat} {m : Nat} {listed : Array Bool} (h : HeadL md ops F (m :: T) listed) : HeadL md ops F T listed := ⟨h.done, h.size, h.closed, fun t ht => h.tail t (List.mem_cons_of_mem _ ht)⟩

/-- the maker keeps the class -/
def KeepsC (P : Program) (ops : Array Oper) (C : World → Prop) (Q : Exit → Act → World → Prop) (m : Nat) : Prop :=
  ∀ (K : Act → World → Prop) (a : Act) (w : World), C w → wpOp P ops Q m K a w → wpOp P ops Q m (fun a' w' => C w' ∧ K a' w') a w

def lateD (F H : List Nat) (m : Nat) (j : Nat) : Bool := F.contains j || (H.contains j || decide (j = m))

/-- the reads taken ahead, one by one -/
def readsL (md : Region.Mode) (ops : Array Oper) (rest : Array Bool → Bool) : List Nat → Array Bool → Bool
  | [], listed => rest listed
  | f :: F, listed => (Region.ready md ops listed).contains f && Region.free md ops listed f && readsL md ops rest F (listed.setIfInBounds f true)
/-- each of these reads yields its value in every world of the class, and leaves it alone -/
def wpReads (P : Program) (ops : Array Oper) (C : World → Prop) (K : Act → Prop) : List Oper → Act → Prop
  | [], a => K a
  | o :: rest, a => ∃ v, YieldsIf P ops C o v a ∧ wpReads P ops C K rest (a.put o.dst v)

theorem wpAnyC_reads {l : List Oper} {F0 H T : List Nat} {m t1 : Nat} {Kq : Act → Prop} {n : Nat} (hsel : Region.noSelect l.toArray = true) (hQ : ∀ c a d v w, Q (.panic c) (Act.put a d v) w → Q (.panic c) a w)
    (hs : sinkL md l.toArray t1 F0 = true) (hc : chainL md l.toArray (t1 :: T) = true)
    (hcov : ∀ j, j < l.toArray.size → j ∈ F0 ∨ j ∈ H ∨ j = m ∨ j ∈ t1 :: T) (hdis : ∀ j, j ∈ F0 ∨ j ∈ H ∨ j = m → j ∉ t1 :: T) (hlt : ∀ j ∈ F0, j < l.length) (hmF : m ∉ F0) {rest : Array Bool → Bool}
    (hrest : ∀ listed a w, HeadL md l.toArray [] (m :: t1 :: T) listed → (∀ f ∈ F0, listed.getD f true = true) → rest listed = true → C w → Kq a → wpAnyC P md l.toArray Q C (lateD F0 H m) n listed a w) :
    ∀ (F : List Nat) (listed : Array Bool) (a : Act) (w : World), (∀ f ∈ F0, f ∈ F ∨ listed.getD f true = true) → (∀ f ∈ F, f ∈ F0) → HeadL md l.toArray [] (m :: t1 :: T) listed → readsL md l.toArray rest F listed = true → C w →
    wpReads P l.toArray C Kq (pickO l F) a → wpAnyC P md l.toArray Q C (lateD F0 H m) (n + F.length) listed a w
  | [], listed, a, w, hF, _, inv, hB, hw, h => hrest listed a w inv (fun f hf => (hF f hf).resolve_left (by simp)) hB hw h
  | f :: F, listed, a, w, hF, hsub, inv, hB, hw, h => by
    have hfF := hsub f (List.mem_cons_self ..)
    have h0 : l[f]? = some (l[f]'(hlt f hfF)) := List.getElem?_eq_getElem (hlt f hfF)
    have h0' : l.toArray[f]? = some (l[f]'(hlt f hfF)) := by rw [List.getElem?_toArray]; exact h0
    simp only [readsL, Bool.and_eq_true] at hB
    obtain ⟨⟨hr, hf⟩, hB'⟩ := hB
    have hr' : f ∈ Region.ready md l.toArray listed := by simpa using hr
    simp only [pickO, h0, wpReads] at h
    obtain ⟨v, hy, hk⟩ := h
    have hset : HeadL md l.toArray [] (m :: t1 :: T) (listed.setIfInBounds f true) := inv.set hr' (fun hx => by
      rcases List.mem_cons.1 hx with e | hx
      · exact hmF (e ▸ hfF)
      · exact hdis f (.inl hfF) hx)
    refine wpAnyC_first (G := HeadL md l.toArray [] (t1 :: T)) h0' (Region.noSelect_spec hsel) (fun c a w => hQ c a _ _ w) (by simp [lateD, hfF]) (fun listed' j hg hj hji hun => ?_)
      (n + F.length) listed a w inv.less (Region.free_spec h0' hf) hr' hy hw
      (wpAnyC_reads hsel hQ hs hc hcov hdis hlt hmF hrest F _ _ w (fun g hg => ?_) (fun g hg => hsub g (List.mem_cons_of_mem _ hg)) hset hB' hw hk)
    · obtain ⟨_, oj, hoj, _⟩ := mem_ready.1 hj
      have hnt : j ∉ t1 :: T := fun hjt => tail_waitsL hg hs hc hfF hun j hjt hj
      refine ⟨?_, hg.set hj hnt⟩
      rcases hcov j (Array.getElem?_eq_some_iff.1 hoj).1 with h | h | h | h
      · simp [lateD, h]
      · simp [lateD, h]
      · simp [lateD, h]
      · exact absurd h hnt
    · rcases hF g hg with h | h
      · rcases List.mem_cons.1 h with e | h
        · subst e
          right
          rcases Nat.lt_or_ge g listed.size with h | h
          · simp [h]
          · simp
        · exact .inl h
      · right
        by_cases hfg : f = g
        · subst hfg
          rcases Nat.lt_or_ge f listed.size with h | h
          · simp [h]
          · simp
        · rw [getD_set_ne true hfg]; exact h

/-- the Bool of the law -/
def lateB (md : Region.Mode) (ops : Array Oper) (F H : List Nat) (m t1 : Nat) (T : List Nat) : Bool :=
  Region.noSelect ops && (decide (F.length + (H.length + (m :: t1 :: T).length) = ops.size) && ((List.range ops.size).all (fun i => F.contains i || (H.contains i || (m :: t1 :: T).contains i)) &&
    ((F ++ H).all (fun i => decide (i < ops.size) && !(m :: t1 :: T).contains i) && ((m :: t1 :: T).all (fun i => decide (i < ops.size)) && (!(t1 :: T).contains m && (sinkL md ops t1 F && (sinkL md ops m H && (chainL md ops (m :: t1 :: T) &&
      readsL md ops (lexL md ops (m :: t1 :: T) H) F (Array.replicate ops.size false)))))))))

theorem wpAny_late {a : Act} {w : World} {l : List Oper} (F H : List Nat) (m t1 : Nat) (T : List Nat) (hQ : ∀ c a d v w, Q (.panic c) (Act.put a d v) w → Q (.panic c) a w) (hkm : KeepsC P l.toArray C Q m) (hB : lateB .any l.toArray F H m t1 T = true)
    (hC : C w) (h : wpReads P l.toArray C (fun a => wpQuiet P l.toArray C (fun a' => ∀ w', C w' → wpList P l.toArray Q (pickO l (m :: t1 :: T)) a' w') (pickO l H) a) (pickO l F) a) :
    wpAny P .any l.toArray Q l.toArray.size (Array.replicate l.toArray.size false) a w := by
  simp only [lateB, Bool.and_eq_true] at hB
  obtain ⟨hsel, hlen, hcov, hdis, htl, hm, hsF, hs, hc, hrd⟩ := hB
  have hcov' : ∀ j, j < l.toArray.size → j ∈ F ∨ j ∈ H ∨ j ∈ m :: t1 :: T := fun j hj => by
    have := List.all_eq_true.1 hcov j (List.mem_range.2 hj)
    simp only [Bool.or_eq_true, List.contains_iff_mem] at this
    exact this
  have hdis' : ∀ j ∈ F ++ H, j < l.length ∧ j ∉ m :: t1 :: T := fun j hj => by
    have := List.all_eq_true.1 hdis j hj
    simp only [Bool.and_eq_true, Bool.not_eq_true', decide_eq_true_eq] at this
    refine ⟨by simpa using this.1, fun hjt => ?_⟩
    rw [List.contains_iff_mem.2 hjt] at this
    cases this.2
  have htl' : ∀ j ∈ m :: t1 :: T, j < l.length := fun j hj => by
    have := List.all_eq_true.1 htl j hj
    simpa using this
  have hm' : m ∉ t1 :: T := fun h => by
    rw [List.contains_iff_mem.2 h] at hm
    cases hm
  have hcT : chainL .any l.toArray (t1 :: T) = true := by simp only [chainL, Bool.and_eq_true] at hc; exact hc.2
  have hmH : m ∉ H := fun h => (hdis' m (List.mem_append_right _ h)).2 (List.mem_cons_self ..)
  have key := wpAnyC_reads (P := P) (md := .any) (C := C) (Q := Q) (l := l) (F0 := F) (H := H) (m := m) (t1 := t1) (T := T) (n := H.length + (m :: t1 :: T).length)
    (Kq := fun a => wpQuiet P l.toArray C (fun a' => ∀ w', C w' → wpList P l.toArray Q (pickO l (m :: t1 :: T)) a' w') (pickO l H) a) (rest := lexL .any l.toArray (m :: t1 :: T) H) hsel hQ hsF hcT
    (fun j hj => by
      rcases hcov' j hj with h | h | h
      · exact .inl h
      · exact .inr (.inl h)
      · rcases List.mem_cons.1 h with h | h
        · exact .inr (.inr (.inl h))
        · exact .inr (.inr (.inr h)))
    (fun j hj hjt => by
      rcases hj with h | h | h
      · exact (hdis' j (List.mem_append_left _ h)).2 (List.mem_cons_of_mem _ hjt)
      · exact (hdis' j (List.mem_append_right _ h)).2 (List.mem_cons_of_mem _ hjt)
      · subst h; exact hm' hjt)
    (fun j hj => (hdis' j (List.mem_append_left _ hj)).1) (fun hx => (hdis' m (List.mem_append_left _ hx)).2 (List.mem_cons_self ..))
    (fun listed a w inv hdone hB hw hq => ?_) F (Array.replicate l.toArray.size false) a w (fun f hf => .inl hf) (fun f hf => hf) (headL_start fun t ht => htl' t ht) hrd hC h
  · have e := of_decide_eq_true hlen
    have key' := wpAny_of_C _ _ _ _ key
    rw [show H.length + (m :: t1 :: T).length + F.length = l.toArray.size by omega] at key'
    exact key'
  · -- behind the reads: the head in its order, then the tail
    have inv' : HeadL .any l.toArray F (m :: t1 :: T) listed := ⟨hdone, inv.size, inv.closed, inv.tail⟩
    have HH := wpAnyLQ_lex (md := .any) (C := C) hsel hs hc (fun j hj => by
        rcases hcov' j hj with h | h | h
        · exact .inr (.inr h)
        · exact .inl h
        · exact .inr (.inl h)) (fun j hj => (hdis' j (List.mem_append_right _ hj)).2) (fun j hj => (hdis' j (List.mem_append_right _ hj)).1) H _ a (fun j hj => hj) inv' hB hq
    refine wpAnyC_of_headL (C := C) (Q := Q) (g := (m :: t1 :: T).length) (fun listed a' w' hw' hL => ?_) _ _ _ _ hw HH
    obtain ⟨hseq, hl⟩ := hL
    have h := hl w' hw'
    have hml := htl' m (List.mem_cons_self ..)
    have h0 : l[m]? = some l[m] := List.getElem?_eq_getElem hml
    simp only [seqL, Bool.and_eq_true, decide_eq_true_eq] at hseq
    simp only [pickO, h0] at h
    refine ⟨fun h1 => (by rw [hseq.1] at h1; cases h1), fun i hi => ?_⟩
    rw [hseq.1] at hi
    have hik : i = m := by simpa using hi
    subst hik
    have hwo : wpOp P l.toArray Q i (wpList P l.toArray Q (pickO l (t1 :: T))) a' w' := by unfold wpOp; simp only [List.getElem?_toArray, h0]; exact h
    refine wpOp_mono (fun a2 w2 h2 => ⟨fun _ => h2.1, ?_⟩) (hkm _ _ _ hw' hwo)
    have hDf : ∀ t ∈ t1 :: T, lateD F H i t = false := fun t ht => by
      have h1 : t ∉ F := fun hf => (hdis' t (List.mem_append_left _ hf)).2 (List.mem_cons_of_mem _ ht)
      have h2 : t ∉ H := fun hf => (hdis' t (List.mem_append_right _ hf)).2 (List.mem_cons_of_mem _ ht)
      have h3 : t ≠ i := fun e => hm' (e ▸ ht)
      simp [lateD, h1, h2, h3]
    have hseq2 : seqL .any l.toArray (t1 :: T) (Array.setIfInBounds listed i true) = true := by
      simp only [seqL, Bool.and_eq_true, decide_eq_true_eq]
      exact hseq.2
    exact late_seq (t1 :: T) _ a2 w2 hDf (fun j hj => htl' j (List.mem_cons_of_mem _ hj)) hseq2 h2.2

/-- **Reads that only the append waits for (F), the head in an order of one's own (H), the making of the row (m), the rest one by one.** -/
theorem wp_region_late {id : Nat} {a : Act} {w : World} {l : List Oper} (F H : List Nat) (m t1 : Nat) (T : List Nat) (hm : P.follows .mixedOrders = true) (hB : lateB .any l.toArray F H m t1 T = true) (hQ : ∀ c a d v w, Q (.panic c) (Act.put a d v) w → Q (.panic c) a w) (hkm : KeepsC P l.toArray C Q m)
    (hC : C { w with drawn := w.drawn + 1 }) (h : wpReads P l.toArray C (fun a => wpQuiet P l.toArray C (fun a' => ∀ w', C w' → wpList P l.toArray Q (pickO l (m :: t1 :: T)) a' w') (pickO l H) a) (pickO l F) a) : (Code.region id l.toArray true).wp P Q a w :=
  wp_region_any hm (wpAny_late F H m t1 T hQ hkm hB hC h)

theorem run_buildSlice_world (t : TypeId) (len : Nat) (parts : Array (Nat × Value)) (w w' : World) (v : Value) (h : (Instr.buildSlice t len parts).run P w = .ok v w') : w' = w ∨ ∃ ob, w' = w.alloc ob := by
  unfold Instr.buildSlice at h
  cases hu : P.underlying t with
  | none => simp [underlying, hu, stuck] at h
  | some d =>
    cases d <;> simp [underlying, hu, stuck] at h
    rename_i e
    cases hi : P.info? e with
    | none => simp [sizeOf, typeInfo, hi, stuck] at h
    | some ie =>
      simp [sizeOf, typeInfo, hi] at h
      split at h
      · simp at h
      · split at h
        · split at h
          · simp [newRow] at h; exact .inr ⟨_, h.2.symm⟩
          · simp at h
        · cases hz : ie.zero with
          | none => simp [zeroValue, typeInfo, hi, hz] at h
          | some z =>
            simp [zeroValue, typeInfo, hi, hz] at h
            split at h
            · simp [newRow] at h; exact .inr ⟨_, h.2.symm⟩
            · simp at h

theorem keepsC_buildSlice {m : Nat} {o : Oper} {t : TypeId} {len : Nat} {parts : Array (Nat × Operand)} (hm : ops[m]? = some o) (ho : o.op = .buildSlice t len parts) (hC : ∀ w ob, C w → C (w.alloc ob)) : KeepsC P ops C Q m := by
  intro K a w hw h
  unfold wpOp at *
  simp only [hm] at *
  split at h
  · rename_i hwt
    simp only [hwt, if_true]
    rcases h with h | h
    · left
      unfold Oper.wp execOp at *
      simp only [ho, Sem.run_bind] at *
      cases hr : (Instr.buildSlice t len (parts.map fun (i, x) => (i, a.eval x))).run P w with
      | ok v w' =>
        simp only [hr, Result.andThen_ok, Sem.run_pure, Oper.upon] at h ⊢
        refine ⟨?_, h⟩
        rcases run_buildSlice_world t len _ w w' v hr with e | ⟨ob, e⟩
        · rw [e]; exact hw
        · rw [e]; exact hC _ _ hw
      | halt x w' =>
        simp only [hr] at h ⊢
        cases x <;> first | exact h | (simp [Result.andThen, Oper.upon] at h)
    · exact .inr h
  · rename_i hwt
    simp only [hwt]
    exact ⟨hw, h⟩

/-- .. at the class of the later worlds, the row made by a slice literal; it is shown not to panic. -/
theorem wp_region_later_late {id : Nat} {a : Act} {W : World} {l : List Oper} {o : Oper} {ty : TypeId} {len : Nat} {parts : Array (Nat × Operand)} (F H : List Nat) (m t1 : Nat) (T : List Nat) (hm : P.follows .mixedOrders = true) (hom : l[m]? = some o) (ho : o.op = .buildSlice ty len parts) (hB : lateB .any l.toArray F H m t1 T = true)
    (h : wpReads P l.toArray (fun w' => ∃ t : Later W, w' = t.w) (fun a => wpQuiet P l.toArray (fun w' => ∃ t : Later W, w' = t.w) (fun a' => ∀ w', (∃ t : Later W, w' = t.w) → wpList P l.toArray (NoPanic Q) (pickO l (m :: t1 :: T)) a' w') (pickO l H) a) (pickO l F) a) : (Code.region id l.toArray true).wp P Q a W :=
  wp_region_noPanic (wp_region_late (C := fun w' => ∃ t : Later W, w' = t.w) F H m t1 T hm hB (fun _ _ _ _ _ h => h) (keepsC_buildSlice (o := o) (by rw [List.getElem?_toArray]; exact hom) ho (fun w ob ⟨t, e⟩ => ⟨⟨w.alloc ob, by subst e; exact t.new.box ob⟩, rfl⟩))
    ⟨⟨W.drew, (New.same W).drew_⟩, rfl⟩ h)
/-- a read of the list, at a later world -/
theorem wpReads_cons {K : Act → Prop} {o : Oper} {rest : List Oper} {a : Act} (v : Value) (hw : Region.wanted o (yielded ops a.tmps) = true) (hy : ∀ w, C w → (execOp a.eval o).run P w = .ok (.value v) w) (h : wpReads P ops C K rest (a.put o.dst v)) : wpReads P ops C K (o :: rest) a :=
  ⟨v, .inl ⟨hw, hy⟩, h⟩
end

end Go.Proofs.YtcbifdfcllaaaaaGreatDoor

/- A region that draws its order and appends (as in Late), with one operation besides that no world has a say in and that may come up at any time: it is taken ahead of all. Plain law over the model's own words; no program. -/
namespace Go.Proofs.YtcbifdfcllaaaaaGreatDoor
open Go.RowKit Go.Deep
set_option linter.unusedVariables false
set_option linter.unusedSimpArgs false
set_option linter.unnecessarySimpa false

section
variable {P : Program} {ops : Array Oper} {md : Region.Mode} {C : World → Prop} {D : Nat → Bool} {Q : Exit → Act → World → Prop}

theorem wpAnyC_reads1 {l : List Oper} {Z F0 H T : List Nat} {m t1 : Nat} {Kq : Act → Prop} {n : Nat} (hsel : Region.noSelect l.toArray = true) (hQ : ∀ c a d v w, Q (.panic c) (Act.put a d v) w → Q (.panic c) a w)
    (hs : sinkL md l.toArray t1 F0 = true) (hc : chainL md l.toArray (t1 :: T) = true)
    (hcov : ∀ j, j < l.toArray.size → j ∈ F0 ∨ j ∈ H ∨ j = m ∨ j ∈ t1 :: T ∨ j ∈ Z) (hdis : ∀ j, j ∈ F0 ∨ j ∈ H ∨ j = m → j ∉ t1 :: T) (hlt : ∀ j ∈ F0, j < l.length) (hmF : m ∉ F0) {rest : Array Bool → Bool}
    (hrest : ∀ listed a w, HeadL md l.toArray Z (m :: t1 :: T) listed → (∀ f ∈ F0, listed.getD f true = true) → rest listed = true → C w → Kq a → wpAnyC P md l.toArray Q C (lateD F0 H m) n listed a w) :
    ∀ (F : List Nat) (listed : Array Bool) (a : Act) (w : World), (∀ f ∈ F0, f ∈ F ∨ listed.getD f true = true) → (∀ f ∈ F, f ∈ F0) → HeadL md l.toArray Z (m :: t1 :: T) listed → readsL md l.toArray rest F listed = true → C w →
    wpReads P l.toArray C Kq (pickO l F) a → wpAnyC P md l.toArray Q C (lateD F0 H m) (n + F.length) listed a w
  | [], listed, a, w, hF, _, inv, hB, hw, h => hrest listed a w inv (fun f hf => (hF f hf).resolve_left (by simp)) hB hw h
  | f :: F, listed, a, w, hF, hsub, inv, hB, hw, h => by
    have hfF := hsub f (List.mem_cons_self ..)
    have h0 : l[f]? = some (l[f]'(hlt f hfF)) := List.getElem?_eq_getElem (hlt f hfF)
    have h0' : l.toArray[f]? = some (l[f]'(hlt f hfF)) := by rw [List.getElem?_toArray]; exact h0
    simp only [readsL, Bool.and_eq_true] at hB
    obtain ⟨⟨hr, hf⟩, hB'⟩ := hB
    have hr' : f ∈ Region.ready md l.toArray listed := by simpa using hr
    simp only [pickO, h0, wpReads] at h
    obtain ⟨v, hy, hk⟩ := h
    have hset : HeadL md l.toArray Z (m :: t1 :: T) (listed.setIfInBounds f true) := inv.set hr' (fun hx => by
      rcases List.mem_cons.1 hx with e | hx
      · exact hmF (e ▸ hfF)
      · exact hdis f (.inl hfF) hx)
    refine wpAnyC_first (G := HeadL md l.toArray Z (t1 :: T)) h0' (Region.noSelect_spec hsel) (fun c a w => hQ c a _ _ w) (by simp [lateD, hfF]) (fun listed' j hg hj hji hun => ?_)
      (n + F.length) listed a w inv.less (Region.free_spec h0' hf) hr' hy hw
      (wpAnyC_reads1 hsel hQ hs hc hcov hdis hlt hmF hrest F _ _ w (fun g hg => ?_) (fun g hg => hsub g (List.mem_cons_of_mem _ hg)) hset hB' hw hk)
    · obtain ⟨_, oj, hoj, _⟩ := mem_ready.1 hj
      have hnt : j ∉ t1 :: T := fun hjt => tail_waitsL hg hs hc hfF hun j hjt hj
      refine ⟨?_, hg.set hj hnt⟩
      rcases hcov j (Array.getElem?_eq_some_iff.1 hoj).1 with h | h | h | h | h
      · simp [lateD, h]
      · simp [lateD, h]
      · simp [lateD, h]
      · exact absurd h hnt
      · have hu := (mem_ready.1 hj).1
        rw [hg.done j h] at hu
        cases hu
    · rcases hF g hg with h | h
      · rcases List.mem_cons.1 h with e | h
        · subst e
          right
          rcases Nat.lt_or_ge g listed.size with h | h
          · simp [h]
          · simp
        · exact .inl h
      · right
        by_cases hfg : f = g
        · subst hfg
          rcases Nat.lt_or_ge f listed.size with h | h
          · simp [h]
          · simp
        · rw [getD_set_ne true hfg]; exact h

/-- the Bool of the law -/
def lateB1 (md : Region.Mode) (ops : Array Oper) (z : Nat) (L0 : Array Bool) (F H : List Nat) (m t1 : Nat) (T : List Nat) : Bool :=
  Region.noSelect ops && (decide (F.length + (H.length + (m :: t1 :: T).length) + 1 = ops.size) && ((List.range ops.size).all (fun i => F.contains i || (H.contains i || ((m :: t1 :: T).contains i || decide (i = z)))) &&
    ((F ++ H).all (fun i => decide (i < ops.size) && !(m :: t1 :: T).contains i) && ((m :: t1 :: T).all (fun i => decide (i < ops.size)) && (!(t1 :: T).contains m && (sinkL md ops t1 F && (sinkL md ops m H && (chainL md ops (m :: t1 :: T) &&
      readsL md ops (lexL md ops (m :: t1 :: T) H) F L0))))))))

theorem wpAny_late1 {a : Act} {w : World} {l : List Oper} (z : Nat) (L0 : Array Bool) (F H : List Nat) (m t1 : Nat) (T : List Nat) (hQ : ∀ c a d v w, Q (.panic c) (Act.put a d v) w → Q (.panic c) a w) (hkm : KeepsC P l.toArray C Q m) (hB : lateB1 .any l.toArray z L0 F H m t1 T = true) (inv0 : HeadL .any l.toArray [z] (m :: t1 :: T) L0)
    (hC : C w) (h : wpReads P l.toArray C (fun a => wpQuiet P l.toArray C (fun a' => ∀ w', C w' → wpList P l.toArray Q (pickO l (m :: t1 :: T)) a' w') (pickO l H) a) (pickO l F) a) :
    wpAny P .any l.toArray Q (F.length + (H.length + (m :: t1 :: T).length)) L0 a w := by
  simp only [lateB1, Bool.and_eq_true] at hB
  obtain ⟨hsel, hlen, hcov, hdis, htl, hm, hsF, hs, hc, hrd⟩ := hB
  have hcov' : ∀ j, j < l.toArray.size → j ∈ F ∨ j ∈ H ∨ j ∈ m :: t1 :: T ∨ j = z := fun j hj => by
    have := List.all_eq_true.1 hcov j (List.mem_range.2 hj)
    simp only [Bool.or_eq_true, List.contains_iff_mem, decide_eq_true_eq] at this
    exact this
  have hdis' : ∀ j ∈ F ++ H, j < l.length ∧ j ∉ m :: t1 :: T := fun j hj => by
    have := List.all_eq_true.1 hdis j hj
    simp only [Bool.and_eq_true, Bool.not_eq_true', decide_eq_true_eq] at this
    refine ⟨by simpa using this.1, fun hjt => ?_⟩
    rw [List.contains_iff_mem.2 hjt] at this
    cases this.2
  have htl' : ∀ j ∈ m :: t1 :: T, j < l.length := fun j hj => by
    have := List.all_eq_true.1 htl j hj
    simpa using this
  have hm' : m ∉ t1 :: T := fun h => by
    rw [List.contains_iff_mem.2 h] at hm
    cases hm
  have hcT : chainL .any l.toArray (t1 :: T) = true := by simp only [chainL, Bool.and_eq_true] at hc; exact hc.2
  have hmH : m ∉ H := fun h => (hdis' m (List.mem_append_right _ h)).2 (List.mem_cons_self ..)
  have key := wpAnyC_reads1 (P := P) (Z := [z]) (md := .any) (C := C) (Q := Q) (l := l) (F0 := F) (H := H) (m := m) (t1 := t1) (T := T) (n := H.length + (m :: t1 :: T).length)
    (Kq := fun a => wpQuiet P l.toArray C (fun a' => ∀ w', C w' → wpList P l.toArray Q (pickO l (m :: t1 :: T)) a' w') (pickO l H) a) (rest := lexL .any l.toArray (m :: t1 :: T) H) hsel hQ hsF hcT
    (fun j hj => by
      rcases hcov' j hj with h | h | h | h
      · exact .inl h
      · exact .inr (.inl h)
      · rcases List.mem_cons.1 h with h | h
        · exact .inr (.inr (.inl h))
        · exact .inr (.inr (.inr (.inl h)))
      · exact .inr (.inr (.inr (.inr (by simp [h])))))
    (fun j hj hjt => by
      rcases hj with h | h | h
      · exact (hdis' j (List.mem_append_left _ h)).2 (List.mem_cons_of_mem _ hjt)
      · exact (hdis' j (List.mem_append_right _ h)).2 (List.mem_cons_of_mem _ hjt)
      · subst h; exact hm' hjt)
    (fun j hj => (hdis' j (List.mem_append_left _ hj)).1) (fun hx => (hdis' m (List.mem_append_left _ hx)).2 (List.mem_cons_self ..))
    (fun listed a w inv hdone hB hw hq => ?_) F L0 a w (fun f hf => .inl hf) (fun f hf => hf) inv0 hrd hC h
  · have key' := wpAny_of_C _ _ _ _ key
    rw [show H.length + (m :: t1 :: T).length + F.length = F.length + (H.length + (m :: t1 :: T).length) by omega] at key'
    exact key'
  · -- behind the reads: the head in its order, then the tail
    have inv' : HeadL .any l.toArray (z :: F) (m :: t1 :: T) listed := ⟨fun f hf => by
      rcases List.mem_cons.1 hf with e | hf
      · exact inv.done f (by simp [e])
      · exact hdone f hf, inv.size, inv.closed, inv.tail⟩
    have HH := wpAnyLQ_lex (md := .any) (C := C) hsel hs hc (fun j hj => by
        rcases hcov' j hj with h | h | h | h
        · exact .inr (.inr (List.mem_cons_of_mem _ h))
        · exact .inl h
        · exact .inr (.inl h)
        · exact .inr (.inr (by simp [h]))) (fun j hj => (hdis' j (List.mem_append_right _ hj)).2) (fun j hj => (hdis' j (List.mem_append_right _ hj)).1) H _ a (fun j hj => hj) inv' hB hq
    refine wpAnyC_of_headL (C := C) (Q := Q) (g := (m :: t1 :: T).length) (fun listed a' w' hw' hL => ?_) _ _ _ _ hw HH
    obtain ⟨hseq, hl⟩ := hL
    have h := hl w' hw'
    have hml := htl' m (List.mem_cons_self ..)
    have h0 : l[m]? = some l[m] := List.getElem?_eq_getElem hml
    simp only [seqL, Bool.and_eq_true, decide_eq_true_eq] at hseq
    simp only [pickO, h0] at h
    refine ⟨fun h1 => (by rw [hseq.1] at h1; cases h1), fun i hi => ?_⟩
    rw [hseq.1] at hi
    have hik : i = m := by simpa using hi
    subst hik
    have hwo : wpOp P l.toArray Q i (wpList P l.toArray Q (pickO l (t1 :: T))) a' w' := by unfold wpOp; simp only [List.getElem?_toArray, h0]; exact h
    refine wpOp_mono (fun a2 w2 h2 => ⟨fun _ => h2.1, ?_⟩) (hkm _ _ _ hw' hwo)
    have hDf : ∀ t ∈ t1 :: T, lateD F H i t = false := fun t ht => by
      have h1 : t ∉ F := fun hf => (hdis' t (List.mem_append_left _ hf)).2 (List.mem_cons_of_mem _ ht)
      have h2 : t ∉ H := fun hf => (hdis' t (List.mem_append_right _ hf)).2 (List.mem_cons_of_mem _ ht)
      have h3 : t ≠ i := fun e => hm' (e ▸ ht)
      simp [lateD, h1, h2, h3]
    have hseq2 : seqL .any l.toArray (t1 :: T) (Array.setIfInBounds listed i true) = true := by
      simp only [seqL, Bool.and_eq_true, decide_eq_true_eq]
      exact hseq.2
    exact late_seq (t1 :: T) _ a2 w2 hDf (fun j hj => htl' j (List.mem_cons_of_mem _ hj)) hseq2 h2.2

/-- .. at the class of the later worlds, the row made by a slice literal; the operation z is taken ahead of all; the region is shown not to panic. -/
theorem wp_region_later_late1 {id : Nat} {a : Act} {W : World} {l : List Oper} {o oz : Oper} {vz : Value} {ty : TypeId} {len : Nat} {parts : Array (Nat × Operand)} (z : Nat) (F H : List Nat) (m t1 : Nat) (T : List Nat) (hm : P.follows .mixedOrders = true) (hoz : l[z]? = some oz) (hom : l[m]? = some o) (ho : o.op = .buildSlice ty len parts)
    (hB : (Region.noSelect l.toArray && (Region.free .any l.toArray (Array.replicate l.toArray.size false) z && ((Region.ready .any l.toArray (Array.replicate l.toArray.size false)).contains z && (!(m :: t1 :: T).contains z && lateB1 .any l.toArray z ((Array.replicate l.toArray.size false).setIfInBounds z true) F H m t1 T)))) = true)
    (hy : Yields P l.toArray oz vz a)
    (h : wpReads P l.toArray (fun w' => ∃ t : Later W, w' = t.w) (fun a => wpQuiet P l.toArray (fun w' => ∃ t : Later W, w' = t.w) (fun a' => ∀ w', (∃ t : Later W, w' = t.w) → wpList P l.toArray (NoPanic Q) (pickO l (m :: t1 :: T)) a' w') (pickO l H) a) (pickO l F) (a.put oz.dst vz)) : (Code.region id l.toArray true).wp P Q a W := by
  simp only [Bool.and_eq_true] at hB
  obtain ⟨hsel0, hfree, hready, hnot, hB⟩ := hB
  have hB' := hB
  simp only [lateB1, Bool.and_eq_true] at hB'
  obtain ⟨hsel, hlen, hcov, hdis, htl, hmm, hsF, hs, hc, hrd⟩ := hB'
  have htl' : ∀ t ∈ m :: t1 :: T, t < l.length := fun t ht => by simpa using List.all_eq_true.1 htl t ht
  have hzT : z ∉ m :: t1 :: T := fun hmem => by
    rw [List.contains_iff_mem.2 hmem] at hnot
    cases hnot
  have hz' : l.toArray[z]? = some oz := by rw [List.getElem?_toArray]; exact hoz
  have hr' : z ∈ Region.ready .any l.toArray (Array.replicate l.toArray.size false) := by simpa using hready
  have inv0 := (headL_start (l := l) htl').set hr' hzT
  have inv : HeadL .any l.toArray [z] (m :: t1 :: T) ((Array.replicate l.toArray.size false).setIfInBounds z true) :=
    ⟨fun g hg => by
      have e : g = z := by simpa using hg
      subst e
      have hlt : g < l.length := (List.getElem?_eq_some_iff.1 hoz).1
      simp [hlt], inv0.size, inv0.closed, inv0.tail⟩
  refine wp_region_noPanic (wp_region_any hm ?_)
  have key := wpAny_late1 (P := P) (C := fun w' => ∃ t : Later W, w' = t.w) (Q := NoPanic Q) (a := a.put oz.dst vz) (w := { W with drawn := W.drawn + 1 }) z _ F H m t1 T (fun _ _ _ _ _ h => h)
    (keepsC_buildSlice (o := o) (by rw [List.getElem?_toArray]; exact hom) ho (fun w ob ⟨t, e⟩ => ⟨⟨w.alloc ob, by subst e; exact t.new.box ob⟩, rfl⟩)) hB inv ⟨⟨W.drew, (New.same W).drew_⟩, rfl⟩ h
  have e := of_decide_eq_true hlen
  have e' : l.toArray.size = (F.length + (H.length + (m :: t1 :: T).length)) + 1 := by omega
  have hsz : Array.replicate ((F.length + (H.length + (m :: t1 :: T).length)) + 1) false = Array.replicate l.toArray.size false := by rw [e']
  rw [e', hsz]
  exact wpAny_take hz' hsel0 hfree hready (fun _ _ _ h => h) hy key
end
end Go.Proofs.YtcbifdfcllaaaaaGreatDoor
