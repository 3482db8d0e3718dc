/- A map from names to true, as a word: which names it holds. -/
import Derived.Test.YtcbifdfcllaaaaaSetOk
import Derived.Maps.OwnOps
import Derived.Maps.OwnSet
import Derived.Maps.Views
namespace Go.Proofs.Ytcbifdfcllaaaaa
open Go.RowKit Go.Deep
set_option linter.unusedVariables false
set_option linter.unusedSimpArgs false

section
variable {H : Type}
theorem atKey_fold (u z : DataW H) (k : Lit) : ∀ (acc : List Lit) (m : DataW H), Maps.IsMap m → (∀ x ∈ acc, WideAt.IsKeyLit x) → (acc.foldl (fun m x => m.put x u) m).atKey k z = if acc.any (fun x => x.sameKey k) then u else m.atKey k z
  | [], m, _, _ => by simp
  | x :: r, m, hm, h => by
    rw [List.foldl_cons, atKey_fold u z k r (m.put x u) (hm.put x u) (fun y hy => h y (by simp [hy])), List.any_cons]
    by_cases e : k = x
    · subst e
      rw [Maps.atKey_put_same hm (h k (by simp)), WideAt.sameKey_self (h k (by simp))]
      simp
    · rw [Maps.atKey_put_other e, Maps.sameKey_ne (fun e' => e e'.symm)]
      simp
theorem atKey_setOf (u z : DataW H) (k : Lit) (acc : List Lit) (h : ∀ x ∈ acc, WideAt.IsKeyLit x) : (Maps.setOf u acc).atKey k z = if acc.any (fun x => x.sameKey k) then u else z := by
  rw [Maps.setOf, atKey_fold u z k acc _ Maps.isMap_empty h]
  rfl
theorem plainElem_bool_inv {P : Program} {e : TypeId} (he : P.underlying e = some .bool) {v : Value} {z : DataW H × List MemPlace} (h : plainElem P e v = some z) : ∃ x, v = .bool x ∧ z = (.lit (.bool x), []) := by
  unfold plainElem at h
  rw [he] at h
  cases v <;> simp at h
  exact ⟨_, rfl, h.symm⟩
end

/-- the name as a key -/
def keyL (s : ByteArray) : Lit := .string s.data.toList
/-- has a name come -/
def seenB (ns : List ByteArray) (s : ByteArray) : Bool := ns.any fun n => decide (n = s)
theorem keyL_any (ns : List ByteArray) (s : ByteArray) : (ns.map keyL).any (fun x => x.sameKey (keyL s)) = seenB ns s := by
  rw [List.any_map]
  unfold seenB
  congr 1
  funext n
  by_cases e : n = s
  · subst e
    simp only [Function.comp, decide_true]
    exact WideAt.sameKey_self (by simp [keyL, WideAt.IsKeyLit])
  · simp only [Function.comp, decide_eq_false e]
    exact Maps.sameKey_ne (fun h => e (Go.WideShapes.bytes_inj (by simpa [keyL] using h)))
theorem newAt_seen {α : Type} (xs : List (ByteArray × α)) (k : Nat) (s : ByteArray) : newAt xs k s = !seenB ((xs.take k).map Prod.fst) s := by
  unfold newAt seenB
  rw [List.any_map]
  rfl

/-- block b is a map that holds the names ns, each with true -/
def Seen (w : World) (b : Nat) (ns : List ByteArray) : Prop :=
  w.ownsMap (H := Unit) Try.prog 9 (plainElem Try.prog 4) b ns.length (Maps.setOf (.lit (.bool true)) (ns.map keyL))
theorem Seen.lt {w : World} {b : Nat} {ns : List ByteArray} (h : Seen w b ns) : b < w.heap.size := World.ownsMap.lt h
theorem Seen.new {w w' : World} {b : Nat} {ns : List ByteArray} (h : Seen w b ns) (n : New w w') : Seen w' b ns := by
  have hl := h.lt
  obtain ⟨es, clock, hb, r⟩ := h
  exact ⟨es, clock, (n.block b hl).trans hb, r⟩
theorem Seen.below {w w' : World} {b B : Nat} {ns : List ByteArray} (h : Seen w b ns) (n : Below B w w') (hb : b < B) : Seen w' b ns := by
  have hl := h.lt
  obtain ⟨es, clock, hb', r⟩ := h
  exact ⟨es, clock, (n.block b hb).trans hb', r⟩
theorem Seen.made (w : World) : Seen (w.alloc (.map #[] 0)) w.heap.size [] := World.ownsMap_made w _ _ _
theorem zero_bool (w : World) : (zeroValue 4).run Try.prog w = .ok (.bool false) w := by kernel_rfl
theorem und_seen : Try.prog.underlying 70 = some (.map 9 4) := Try.underlying70
theorem keys_seen : Maps.Keyed Try.prog 9 := Maps.string_keyed Try.underlying9
theorem key_seen {s : ByteArray} (hs : s.size ≤ maxLen) : Go.keyOf Try.prog 9 (.string s) = some (keyL s) := WideMaps.keyOf_string_mk (P := Try.prog) Try.underlying9 hs
/-- a look-up -/
theorem Seen.look {w : World} {b : Nat} {ns : List ByteArray} (h : Seen w b ns) {s : ByteArray} (hs : s.size ≤ maxLen) : (Instr.lookup 70 (.map (some b)) (.string s) false).run Try.prog w = .ok (.bool (seenB ns s)) w := by
  obtain ⟨v, ps, hrun, hv⟩ := World.ownsMap.lookup h keys_seen und_seen (zero_bool w) (plainElem_bool Try.underlying4 false) (key_seen hs)
  obtain ⟨x, rfl, hx⟩ := plainElem_bool_inv Try.underlying4 hv
  rw [atKey_setOf _ _ _ _ (by intro x hx; obtain ⟨s, _, rfl⟩ := List.mem_map.1 hx; simp [keyL, WideAt.IsKeyLit]), keyL_any] at hx
  rw [hrun]
  cases hq : seenB ns s
  · rw [hq] at hx
    simp at hx
    rw [hx.1]
  · rw [hq] at hx
    simp at hx
    rw [hx.1]
/-- a name is put in -/
theorem Seen.put {w' : World} {b : Nat} {ns : List ByteArray} {s : ByteArray} (h : w'.ownsMap (H := Unit) Try.prog 9 (plainElem Try.prog 4) b (ns.length + 1) ((Maps.setOf (.lit (.bool true)) (ns.map keyL)).put (keyL s) (.lit (.bool true)))) : Seen w' b (ns ++ [s]) := by
  unfold Seen
  rw [List.map_append, List.map_cons, List.map_nil, Maps.setOf_snoc, List.length_append]
  exact h
end Go.Proofs.Ytcbifdfcllaaaaa
