/- A region of a round's body that draws its order and appends: the law for it. -/
import Derived.Test.YthafdlfhkcbjhaaRange
import Derived.Test.YthafdlfhkcbjhaaLate
namespace Go.Proofs.Ythafdlfhkcbjhaa
open Go.RowKit Go.Deep
set_option linter.unusedVariables false

theorem wpIn_round_late {P : Program} {Q : Exit → Act → World → Prop} {l0 m0 id : Nat} {a : Act} {W : World} {l : List Oper} {o : Oper} {ty : TypeId} {len : Nat} {parts : Array (Nat × Operand)} (F H : List Nat) (m t1 : Nat) (T : List Nat) (hm : P.follows .mixedOrders = true) (hom : l[m]? = some o) (ho : o.op = .buildSlice ty len parts) (hB : lateB .any l.toArray F H m t1 T = true)
    (hd : noDef l.toArray = true) (hQo : ¬ LetsOut Q)
    (h : wpReads P l.toArray (fun w' => ∃ t : Later W, w' = t.w) (fun a => wpQuiet P l.toArray (fun w' => ∃ t : Later W, w' = t.w) (fun a' => ∀ w', (∃ t : Later W, w' = t.w) → wpList P l.toArray (NoPanic Q) (pickO l (m :: t1 :: T)) a' w') (pickO l H) a) (pickO l F) a) : (Code.region id l.toArray true).wpIn (Fence.wide.inRound l0) m0 P Q a W := by
  have hq : ∀ e a w, NoPanic Q e a w → Q e a w := fun e a w h => by cases e <;> first | exact h | exact h.elim
  refine wpIn_mono (region_round hm hd (fun ⟨a, w, h⟩ => hQo ⟨a, w, hq _ _ _ h⟩) (wpAny_late (C := fun w' => ∃ t : Later W, w' = t.w) F H m t1 T (fun _ _ _ _ _ h => h)
    (keepsC_buildSlice (o := o) (by rw [List.getElem?_toArray]; exact hom) ho (fun w ob ⟨t, e⟩ => ⟨⟨w.alloc ob, by subst e; exact t.new.box ob⟩, rfl⟩)) hB ⟨⟨W.drew, (New.same W).drew_⟩, rfl⟩ h)) hq
end Go.Proofs.Ythafdlfhkcbjhaa
