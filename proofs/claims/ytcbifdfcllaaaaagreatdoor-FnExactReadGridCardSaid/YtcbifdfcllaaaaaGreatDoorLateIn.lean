/- A range over a function whose iterator turns cells of its own between the rounds: the law, for whatever steps T the iterator makes by itself. After the kit's law for iterators that turn nothing. -/
import Derived.RangeFuncNested
import Derived.RangeFuncBound
import Derived.RangeFuncCalls
import Derived.RangeFuncLeaves
import Derived.RangeFuncBox
import Derived.Shelf.Abstract
import Derived.Shelf.RegionOpen
import Derived.WalkKit
import Derived.OwnWalkIn
import Derived.TacticsInMore
import Derived.LoopNIn
import Derived.LoopIn
import Derived.Test.YtcbifdfcllaaaaaGreatDoorMem
import Derived.Test.YtcbifdfcllaaaaaGreatDoorLate1
namespace Go.Proofs.YtcbifdfcllaaaaaGreatDoor
open Go.RowKit Go.Deep
set_option linter.unusedVariables false

/-- the iterator's contract: it hands the values of a list to the rounds, one by one; between them it makes steps T of its own; what J says abides these; a round keeps Kp -/
def SeqT {α : Type} (F : Fence) (n : Nat) (P : Program) (g : Nat) (lb : Array Value) (encs : α → Array Value) (T Kp : World → World → Prop) (S : List α → Prop) (N : Nat) (w : World) : Prop :=
  ∀ (l : Nat) (J : List α → World → Prop) (W : World), Below w.heap.size w W → (∀ s A B, J s A → T A B → J s B) →
    (∀ pre x W1, J pre W1 → pre.length < N → YieldAt F (n - 1) P l (encs x) W1 fun e W' => e = .returned (.bool true) ∧ J (pre ++ [x]) W' ∧ Kp W1 W') →
    J [] W → CallsIn F n P g (#[.func (.yield l) #[] #[]] ++ lb) W fun e W' => (∃ v, e = .returned v) ∧ ∃ xs, S xs ∧ J xs W'

/-- how a round is left: always at its end -/
def roundT {α : Type} (Kp : World → World → Prop) (I : List α → World → Prop) (xs : List α) (W : World) : Exit → Act → World → Prop
  | .normal, _, W' => KeepsOthers W W' ∧ Kp W W' ∧ I xs W'
  | _, _, _ => False

variable {F : Fence} {n : Nat} {P : Program}
theorem wpIn_rangeT {α : Type} {g : Operand} {ps : Array Tmp} {assign body : Code} {Q : Exit → Act → World → Prop} {a : Act} {w : World}
    (hro : F.round = none) (h1 : 1 ≤ n) {gf : Nat} {lb : Array Value} (hg : a.eval g = .func (.func gf) #[] lb) (hFg : F.fn gf) (eg : ∀ args w, (callFunc gf args).run P w = .ok (.enter gf args) w)
    {encs : α → Array Value} {T Kp : World → World → Prop} {S : List α → Prop} {N : Nat} (hseq : SeqT F (n - 1) P gf lb encs T Kp S N w)
    (hT : ∀ A B, T A B → KeepsOthers A B) (hKt : ∀ {A B C : World}, Kp A B → Kp B C → Kp A C) (hKb : ∀ (W : World) (l : Nat) (o o' : Obj), W.heap[l]? = some o → o.isCells = false → Kp W (W.putObj l o')) (hps : ∀ x, (encs x).size = ps.size)
    (I : List α → World → Prop) (hI : OwnFrom w.heap.size I) (hIT : ∀ s A B, I s A → T A B → I s B) (h0 : I [] w) (a₁ : α → Act)
    (hassign : ∀ (l : Nat) (x : α) (W : World) (K : Act → World → Prop), K (a₁ x) W →
      assign.wpIn (F.inRound l) (n - 1 - 1) P (Exit.then K (fun _ _ _ => False)) { tmps := (ps.zip (encs x)).foldl (fun t (p, v) => t.setIfInBounds p v) a.tmps, defers := [] } W)
    (hbody : ∀ (l : Nat) (pre : List α) (x : α) (W : World), I pre W → pre.length < N → body.wpIn (F.inRound l) (n - 1 - 1) P (roundT Kp I (pre ++ [x]) W) (a₁ x) W)
    (hdone : ∀ (D : Nat) (xs : List α) (W : World), w.heap.size ≤ D → S xs → I xs W → W.heap[D]? = some (.deferred (some [])) → Q .normal { a with defers := { target := .collected D, args := #[] } :: a.defers } W) :
    (Code.rangeFunc g ps assign body).wpIn F n P Q a w := by
  refine wpIn_rangeFunc fun fn hfn => ?_
  rw [hro]
  -- the two blocks that the statement lays: the rounds' deferred calls (D) and the loop's record (L)
  let rec_ : LoopState → Option Code → Loop := fun st pe => { state := st, pending := pe, fn, tmps := a.tmps, params := ps, assign, body, defers := w.heap.size }
  obtain ⟨R, hR⟩ : ∃ R, R = rec_ := ⟨_, rfl⟩
  obtain ⟨W1, hW1⟩ : ∃ W1, (w.alloc (.deferred (some []))).alloc (.loop (R .ready none)) = W1 := ⟨_, rfl⟩
  have hD : W1.heap[w.heap.size]? = some (.deferred (some [])) := hW1 ▸ (Below.heap_alloc _ _ _ (by simp)).trans (World.alloc_heap_new w _)
  have hL : W1.heap[w.heap.size + 1]? = some (.loop (R .ready none)) := by
    have := World.alloc_heap_new (w.alloc (.deferred (some []))) (.loop (R .ready none))
    rw [World.size_alloc] at this
    exact hW1 ▸ this
  have hb : Below w.heap.size w W1 := hW1 ▸ ((Below.refl _ w).alloc (Nat.le_refl _) _).alloc (by simp) _
  have hI1 : I [] W1 := hW1 ▸ hI.alloc _ (hI.alloc _ h0)
  refine ⟨w.heap.size + 1, [{ target := .collected w.heap.size, args := #[] }], W1, { target := .fn (.func gf) lb, args := #[.func (.yield (w.heap.size + 1)) #[] #[]] }, W1, gf,
    #[.func (.yield (w.heap.size + 1)) #[] #[]] ++ lb, W1, ?_, ?_, fun f' hf' => ?_, ?_, fun _ => h1, ?_⟩
  · rw [← hW1, hR]; exact run_enterLoop_outer _ _ _ _ _
  · simp only [resolve, hg]; simp [go_sem]
  · simp [Target.leads] at hf'; subst hf'; exact hFg
  · simp [invoke, go_sem, eg]
  refine (hseq (w.heap.size + 1) (fun pre W => (I pre W ∧ W.heap[w.heap.size + 1]? = some (.loop (R .ready none))) ∧ W.heap[w.heap.size]? = some (.deferred (some []))) W1 hb
    (fun s A B hs t => ⟨⟨hIT s A B hs.1.1 t, (hT A B t).same _ _ hs.1.2 rfl⟩, (hT A B t).same _ _ hs.2 rfl⟩) ?_ ⟨⟨hI1, hL⟩, hD⟩).mono ?_
  · rintro pre x W ⟨⟨hi, hl⟩, hd⟩ hlen
    have hy := run_yield (P := P) (args := encs x) hl (by rw [hR]; exact hps x)
    rw [hR] at hy
    have hb1 : (W.putObj (w.heap.size + 1) (.loop { R .ready none with state := .busy })).heap[w.heap.size + 1]? = some (.loop { R .ready none with state := .busy }) := World.putObj_heap_same (Array.getElem?_eq_some_iff.1 hl).1
    have hb2 : (W.putObj (w.heap.size + 1) (.loop { R .ready none with state := .busy })).heap[w.heap.size]? = some (.deferred (some [])) := (World.putObj_heap_other (by omega)).trans hd
    refine ⟨fn, _, assign, body, hy, roundIn_of_wpIn hfn (hassign _ x W _ ⟨_, run_beginRound hl (by rw [hR]), wpIn_mono (hbody _ pre x _ (hI.putObj _ hi (by omega) hl rfl) hlen) ?_⟩)⟩
    rintro e a3 W3 hp
    match e, hp with
    | .normal, ⟨k3, p3, i3⟩ =>
      have hl3 := k3.same _ _ hb1 rfl
      have hd3 := k3.same _ _ hb2 rfl
      have he := run_endRound (P := P) none hl3
      rw [hR] at he hl3
      refine ⟨_, _, he, rfl, ⟨⟨hI.putObj _ i3 (by omega) hl3 rfl, ?_⟩, (World.putObj_heap_other (by omega)).trans hd3⟩, hKt (hKt (hKb _ _ _ _ hl rfl) p3) (hKb _ _ _ _ hl3 rfl)⟩
      rw [hR]
      exact World.putObj_heap_same (Array.getElem?_eq_some_iff.1 hl3).1
  · rintro e W2 ⟨⟨v, rfl⟩, xs, hS, ⟨hi, hl⟩, hd⟩
    have he := run_endLoop (P := P) hl (by rw [hR]; simp [rec_])
    rw [hR] at he
    exact ⟨none, _, he, hdone _ xs _ (Nat.le_refl _) hS (hI.putObj _ hi (by omega) hl rfl) ((World.putObj_heap_other (by omega)).trans hd)⟩

/-! A region in a round's body: walked as everywhere (no fence; no operation of it defers). -/
theorem uponIn_of_upon {l m : Nat} {P : Program} {o : Oper} {a : Act} {K : Act → World → Prop} {Q : Exit → Act → World → Prop} {r : Result Next} (h : o.upon P a K Q r) : o.uponIn (Fence.wide.inRound l) m P a K Q r := by
  cases r with
  | ok x w' =>
    cases x with
    | value v => exact h
    | skip => exact h
    | defer d => exact h
    | enter f args =>
      refine ⟨fun e => by simp [Fence.wide] at e, CallsIn.inRound l (callsIn_wide.2 (Calls.mono h fun e w' h => ?_))⟩
      cases e <;> exact h
    | row row args =>
      refine ⟨fun e => by simp [Fence.wide] at e, fun c cs _ => ?_⟩
      obtain ⟨v, w'', r, s⟩ := h c cs
      exact ⟨v, w'', r, stepsIn_wide.2 s⟩
    | round l f t a b => exact h.elim
    | _ => exact h.elim
  | halt x w' =>
    cases x with
    | panic v => exact h
    | _ => exact h.elim
def isDef (o : Oper) : Bool := match o.op with
  | .defer _ => true
  | _ => false
def noDef (ops : Array Oper) : Bool := ops.toList.all fun o => !isDef o
theorem noDef_at {ops : Array Oper} (h : noDef ops = true) {i : Nat} {o : Oper} (ho : ops[i]? = some o) (c : Call) : o.op ≠ Op.defer c := by
  intro e
  have := List.all_eq_true.1 h o (List.mem_iff_getElem?.2 ⟨i, by rw [Array.getElem?_toList]; exact ho⟩)
  simp [isDef, e] at this
theorem wpOpIn_of_wpOp {l m : Nat} {P : Program} {ops : Array Oper} {Q : Exit → Act → World → Prop} (hd : noDef ops = true) (hQ : ¬ LetsOut Q) {i : Nat} {K : Act → World → Prop} {a : Act} {w : World} (h : wpOp P ops Q i K a w) : wpOpIn (Fence.wide.inRound l) m P ops Q i K a w := by
  unfold wpOp at h
  unfold wpOpIn
  cases ho : ops[i]? with
  | none => simpa only [ho] using h
  | some o =>
    simp only [ho] at h ⊢
    by_cases hw : Region.wanted o (yielded ops a.tmps) = true
    · rw [if_pos hw] at h ⊢
      rcases h with h | h
      · refine ⟨fun _ _ => trivial, ?_⟩
        rw [Oper.semAt_eq _ _ _ (noDef_at hd ho)]
        exact uponIn_of_upon h
      · exact absurd h.2 hQ
    · rw [if_neg hw] at h ⊢
      exact ⟨fun _ _ => trivial, h⟩
theorem wpAnyIn_of_wpAny {l m : Nat} {P : Program} {md : Region.Mode} {ops : Array Oper} {Q : Exit → Act → World → Prop} (hd : noDef ops = true) (hQ : ¬ LetsOut Q) : ∀ (fuel : Nat) (listed : Array Bool) (a : Act) (w : World), wpAny P md ops Q fuel listed a w → wpAnyIn (Fence.wide.inRound l) m P md ops Q fuel listed a w
  | 0, _, _, _, h => h
  | fuel + 1, listed, a, w, h => ⟨h.1, fun i hi => wpOpIn_of_wpOp hd hQ (wpOp_mono (fun a w h' => wpAnyIn_of_wpAny hd hQ fuel _ a w h') (h.2 i hi))⟩
theorem region_round {l m id : Nat} {P : Program} {ops : Array Oper} {Q : Exit → Act → World → Prop} {a : Act} {w : World} (hm : P.follows .mixedOrders = true) (hd : noDef ops = true) (hQ : ¬ LetsOut Q)
    (h : wpAny P .any ops Q ops.size (Array.replicate ops.size false) a { w with drawn := w.drawn + 1 }) : (Code.region id ops true).wpIn (Fence.wide.inRound l) m P Q a w :=
  wpIn_region_any hm (wpAnyIn_of_wpAny hd hQ _ _ _ _ h)
end Go.Proofs.YtcbifdfcllaaaaaGreatDoor

/- A region of a round's body that draws its order and appends: the law for it. -/
namespace Go.Proofs.YtcbifdfcllaaaaaGreatDoor
open Go.RowKit Go.Deep
set_option linter.unusedVariables false

theorem wpIn_round_late {P : Program} {Q : Exit → Act → World → Prop} {l0 m0 id : Nat} {a : Act} {W : World} {l : List Oper} {o : Oper} {ty : TypeId} {len : Nat} {parts : Array (Nat × Operand)} (F H : List Nat) (m t1 : Nat) (T : List Nat) (hm : P.follows .mixedOrders = true) (hom : l[m]? = some o) (ho : o.op = .buildSlice ty len parts) (hB : lateB .any l.toArray F H m t1 T = true)
    (hd : noDef l.toArray = true) (hQo : ¬ LetsOut Q)
    (h : wpReads P l.toArray (fun w' => ∃ t : Later W, w' = t.w) (fun a => wpQuiet P l.toArray (fun w' => ∃ t : Later W, w' = t.w) (fun a' => ∀ w', (∃ t : Later W, w' = t.w) → wpList P l.toArray (NoPanic Q) (pickO l (m :: t1 :: T)) a' w') (pickO l H) a) (pickO l F) a) : (Code.region id l.toArray true).wpIn (Fence.wide.inRound l0) m0 P Q a W := by
  have hq : ∀ e a w, NoPanic Q e a w → Q e a w := fun e a w h => by cases e <;> first | exact h | exact h.elim
  refine wpIn_mono (region_round hm hd (fun ⟨a, w, h⟩ => hQo ⟨a, w, hq _ _ _ h⟩) (wpAny_late (C := fun w' => ∃ t : Later W, w' = t.w) F H m t1 T (fun _ _ _ _ _ h => h)
    (keepsC_buildSlice (o := o) (by rw [List.getElem?_toArray]; exact hom) ho (fun w ob ⟨t, e⟩ => ⟨⟨w.alloc ob, by subst e; exact t.new.box ob⟩, rfl⟩)) hB ⟨⟨W.drew, (New.same W).drew_⟩, rfl⟩ h)) hq
end Go.Proofs.YtcbifdfcllaaaaaGreatDoor
