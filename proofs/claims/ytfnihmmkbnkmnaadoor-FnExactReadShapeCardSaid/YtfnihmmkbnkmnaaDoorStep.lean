/- append of one element in a region that draws its order: a law for go_region_held3. -/
import Derived.Test.YtfnihmmkbnkmnaaDoorInts
import Derived.Deep.RegionHeld3
import Derived.Deep.DeepCutAuto
namespace Go.Proofs.YtfnihmmkbnkmnaaDoor
open Go.RowKit Go.Deep

/-- append of one element, which lies whole in a block of its own, to a row of the call's own. -/
theorem step_app1 {P : Program} {w : World} {ops : Array Oper} {o : Oper} {a : Act} {K : Act → World → Prop} {Q : Exit → Act → World → Prop} {E : Prop} (hgd : o.guard = none) (s x : Operand) {t e : TypeId} {size bytes : Nat}
    (ho : o.op = .call { callee := .builtin .append, args := #[s, x], argTypes := #[t, t] }) (hr : ElemRow P t e size bytes) (base : Nat) {v : Value} {n : Nat} {xs : List Value}
    (hown : w.ownsRow base e size v n xs) (hs : a.eval s = v) (news : List Value) (B : Nat) {fr : Nat × Nat} (hx : a.eval x = .slice (some ⟨B, 0, none⟩) 1 1) (hB : w.heap[B]? = some (.cells news.toArray e fr)) (hl : news.length = size) (h1 : ∀ u ∈ news, u.oneCell' = true)
    (h63 : n + 1 ≤ maxLen) (hb : (n + 1) * bytes ≤ 140737488355328) (hbase : base ≤ w.heap.size)
    (h : ∀ v' w', w'.ownsRow base e size v' (n + 1) (xs ++ news) → Below base w w' → K (a.put o.dst v') w') :
    if Region.wanted o (yielded ops a.tmps) = true then Oper.wp P o a w K Q else E := by
  obtain ⟨ht, i, z, hi, hz, hsize, hby, hzs, hsz⟩ := hr
  exact step_append_lies w hgd s x t ho base e i z size bytes ht hi hz hsize hby hzs hsz v n xs hs hown ⟨B, 0, none⟩ 1 1 news hx (by simpa using hl) (World.news_of_block (cs := news.toArray) (t := e) (fr := fr) hB) h1 (by omega) h63 hb hbase w.heap.size rfl
    fun g cap w' h2 h3 _ _ => h _ _ h2 ((Below.refl _ _).grown h3 hbase (fun k hk => (hown.lt k hk).1))

end Go.Proofs.YtfnihmmkbnkmnaaDoor
