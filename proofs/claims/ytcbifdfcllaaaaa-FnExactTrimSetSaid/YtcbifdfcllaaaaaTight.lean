/- A trimmed set and its numbers that a call owns, block by block, no block twice: as it grows, and as it is marked. Plain lemmas; no program. -/
import Derived.Test.YtcbifdfcllaaaaaSet
import Derived.Test.YtcbifdfcllaaaaaMarkSet
import Derived.Test.YtcbifdfcllaaaaaSameSet
import Derived.Test.YtcbifdfcllaaaaaBox
namespace Go.Proofs.Ytcbifdfcllaaaaa
open Go.RowKit Go.Deep
set_option linter.unusedVariables false
set_option linter.unusedSimpArgs false

theorem ownsRow_gb {w w' : World} {base C n : Nat} {e : TypeId} {v : Value} {xs : List Value} {r : Option Nat} (h : w.ownsRow base e C v n xs) (f : w.grownBy w' r) (hne : ∀ g, v.ownBlock = some g → r ≠ some g) : w'.ownsRow base e C v n xs := by
  refine ⟨h.1, ?_⟩
  have hl := h.lt
  rcases h.2 with hn | ⟨g, cap, cur, rfl, hb, hg, hr⟩
  · exact .inl hn
  · have hlt := (hl g rfl).2
    exact .inr ⟨g, cap, cur, rfl, hb, (f.block g hlt (fun e => hne g rfl e.symm)).trans hg, hr⟩
theorem ownsRow_fr {w w' : World} {base C n lo hi : Nat} {e : TypeId} {v : Value} {xs : List Value} (h : w.ownsRow base e C v n xs) (f : Fr lo hi w w') (hne : ∀ g, v.ownBlock = some g → g < lo ∨ hi ≤ g) : w'.ownsRow base e C v n xs := by
  refine ⟨h.1, ?_⟩
  have hl := h.lt
  rcases h.2 with hn | ⟨g, cap, cur, rfl, hb, hg, hr⟩
  · exact .inl hn
  · exact .inr ⟨g, cap, cur, rfl, hb, (f.block g (hl g rfl).2 (hne g rfl)).trans hg, hr⟩
theorem ownsRow_wide {w : World} {base base' C n : Nat} {e : TypeId} {v : Value} {xs : List Value} (h : w.ownsRow base e C v n xs) (hb : base' ≤ base) : w.ownsRow base' e C v n xs := by
  refine ⟨h.1, ?_⟩
  rcases h.2 with hn | ⟨g, cap, cur, hv, h1, hr⟩
  · exact .inl hn
  · exact .inr ⟨g, cap, cur, hv, Nat.le_trans hb h1, hr⟩
/-- no two of them lie in one block -/
def Dst (l : List Value) : Prop := l.Pairwise fun a b => ∀ g, a.ownBlock = some g → b.ownBlock ≠ some g

structure OwnTrim (w : World) (base : Nat) (gv tv av : Value) (G : List (ByteArray × Int)) (T : List (ByteArray × List Int)) (A : List Int) (sv : List Value) : Prop where
  gl : w.ownsRow base 46 2 gv G.length (G.flatMap glC)
  row : w.ownsRow base 48 2 tv T.length (nestC tlM T sv)
  at_ : w.ownsRow base 2 1 av A.length (A.map (Value.int .i64))
  len : sv.length = T.length
  each : ∀ k (hk : k < T.length) (hk' : k < sv.length), w.ownsRow base 2 1 sv[k] T[k].2.length (T[k].2.map (Value.int .i64))
  dst : Dst (gv :: tv :: av :: sv)

section
variable {w w' : World} {base : Nat} {gv tv av : Value} {G : List (ByteArray × Int)} {T : List (ByteArray × List Int)} {A : List Int} {sv : List Value}
theorem OwnTrim.new (h : OwnTrim w base gv tv av G T A sv) (n : New w w') : OwnTrim w' base gv tv av G T A sv :=
  ⟨ownsRow_new h.gl n, ownsRow_new h.row n, ownsRow_new h.at_ n, h.len, fun k hk hk' => ownsRow_new (h.each k hk hk') n, h.dst⟩
theorem OwnTrim.wide {base' : Nat} (h : OwnTrim w base gv tv av G T A sv) (hb : base' ≤ base) : OwnTrim w base' gv tv av G T A sv :=
  ⟨ownsRow_wide h.gl hb, ownsRow_wide h.row hb, ownsRow_wide h.at_ hb, h.len, fun k hk hk' => ownsRow_wide (h.each k hk hk') hb, h.dst⟩
/-- a block that is written lies before all of it -/
theorem OwnTrim.fr {lo hi : Nat} (h : OwnTrim w base gv tv av G T A sv) (f : Fr lo hi w w') (hb : hi ≤ base) : OwnTrim w' base gv tv av G T A sv := by
  have key : ∀ {e C v n xs}, w.ownsRow base e C v n xs → w'.ownsRow base e C v n xs := fun h => ownsRow_fr h f fun g hg => .inr (Nat.le_trans hb (h.lt g hg).1)
  exact ⟨key h.gl, key h.row, key h.at_, h.len, fun k hk hk' => key (h.each k hk hk'), h.dst⟩
theorem OwnTrim.blk (h : OwnTrim w base gv tv av G T A sv) : ∀ v ∈ gv :: tv :: av :: sv, ∀ g, v.ownBlock = some g → base ≤ g ∧ g < w.heap.size := by
  intro v hv g hg
  simp only [List.mem_cons] at hv
  rcases hv with rfl | rfl | rfl | hv
  · exact h.gl.lt g hg
  · exact h.row.lt g hg
  · exact h.at_.lt g hg
  · obtain ⟨k, hk, rfl⟩ := List.getElem_of_mem hv
    exact (h.each k (by have := h.len; omega) hk).lt g hg
theorem OwnTrim.rdS (h : OwnTrim w base gv tv av G T A sv) : RdS w base w.heap.size gv tv G T sv :=
  ⟨(Own.of h.gl).rd, h.len, (Own.of h.row).rd, fun k hk hk' => (Own.of (h.each k hk hk')).rd⟩
theorem OwnTrim.rdA (h : OwnTrim w base gv tv av G T A sv) : RdI w base w.heap.size av A := (Own.of h.at_).rd
theorem OwnTrim.start (hg : w.ownsRow base 46 2 gv G.length (G.flatMap glC)) (ha : w.ownsRow base 2 1 av 0 []) (hd : ∀ g, gv.ownBlock = some g → av.ownBlock ≠ some g) : OwnTrim w base gv (.slice none 0 0) av G [] [] [] := by
  refine ⟨hg, World.ownsRow_nil _ _ _ _, ha, rfl, fun k hk => absurd hk (Nat.not_lt_zero _), ?_⟩
  refine List.Pairwise.cons ?_ (List.Pairwise.cons ?_ (List.Pairwise.cons ?_ List.Pairwise.nil))
  · intro a ha g hq
    rcases (by simpa using ha : a = .slice none 0 0 ∨ a = av) with rfl | rfl
    · intro q; cases q
    · exact hd g hq
  · intro a _ g hq
    cases hq
  · intro a ha
    simp at ha
/-- one tile more, its sides in a block of its own -/
theorem OwnTrim.tile {tv' u : Value} {H : Nat} {s : ByteArray} {x : List Int} (h : OwnTrim w base gv tv av G T A sv) (hu : w.ownsRow base 2 1 u x.length (x.map (Value.int .i64))) (hud : ∀ g, u.ownBlock = some g → ∀ v ∈ gv :: tv :: av :: sv, v.ownBlock ≠ some g)
    (ho : w'.ownsRow base 48 2 tv' (T.length + 1) (nestC tlM T sv ++ [.string s, u])) (hg : w.grownBy w' tv.ownBlock) (hb : tv'.ownBlock = tv.ownBlock ∨ tv'.ownBlock = some H) (hH : w.heap.size ≤ H) :
    OwnTrim w' base gv tv' av G (T ++ [(s, x)]) A (sv ++ [u]) := by
  have hd := h.dst
  unfold Dst at hd
  simp only [List.pairwise_cons, List.mem_cons, forall_eq_or_imp] at hd
  obtain ⟨⟨g1, g2, g3⟩, ⟨t1, t2⟩, a1, d1⟩ := hd
  have hbl := h.blk
  simp only [List.mem_cons, forall_eq_or_imp] at hbl
  obtain ⟨b1, b2, b3, b4⟩ := hbl
  simp only [List.mem_cons, forall_eq_or_imp] at hud
  have hul := hu.lt
  have far : ∀ (v : Value) (g : Nat), v.ownBlock = some g → g < w.heap.size → tv.ownBlock ≠ some g → tv'.ownBlock ≠ some g := by
    intro v g hv hl hn
    rcases hb with e | e
    · rw [e]; exact hn
    · rw [e]; intro q; cases q; omega
  refine ⟨ownsRow_gb h.gl hg g1, ?_, ownsRow_gb h.at_ hg (fun g hq q => t1 g q hq), by simp [h.len], ?_, ?_⟩
  · rw [List.length_append, nestC_snoc T sv h.len]
    exact ho
  · intro k hk hk'
    by_cases e : k < T.length
    · rw [List.getElem_append_left (by have := h.len; omega), List.getElem_append_left e]
      exact ownsRow_gb (h.each k e (by have := h.len; omega)) hg (fun g hq q => t2 _ (List.getElem_mem _) g q hq)
    · have ek : k = T.length := by simp at hk; omega
      subst ek
      rw [List.getElem_append_right (by have := h.len; omega), List.getElem_append_right (Nat.le_refl _)]
      simp only [h.len, Nat.sub_self, List.getElem_cons_zero]
      exact ownsRow_gb hu hg (fun g hq q => (hud g hq).2.1 q)
  · unfold Dst
    simp only [List.pairwise_cons, List.mem_cons, forall_eq_or_imp, List.mem_append, List.not_mem_nil, or_false]
    refine ⟨⟨fun g hq => far _ g hq (b1 g hq).2 (g1 g hq), g2, fun v hv => ?_⟩, ⟨fun g hq q => ?_, fun v hv g hq q => ?_⟩, fun v hv => ?_, ?_⟩
    · rcases hv with hv | rfl
      · exact g3 v hv
      · exact fun g hq q => (hud g q).1 hq
    · exact far _ g q (b3 g q).2 (fun q2 => t1 g q2 q) hq
    · rcases hv with hv | rfl
      · exact far _ g q (b4 v hv g q).2 (fun q2 => t2 v hv g q2 q) hq
      · exact far _ g q (hul g q).2 (fun q2 => (hud g q).2.1 q2) hq
    · rcases hv with hv | rfl
      · exact a1 v hv
      · exact fun g hq q => (hud g q).2.2.1 hq
    · rw [List.pairwise_append]
      exact ⟨d1, List.pairwise_singleton _ _, fun a ha b hb' => by simp only [List.mem_singleton] at hb'; subst hb'; exact fun g hq q => (hud g q).2.2.2 a ha hq⟩
/-- one number more -/
theorem OwnTrim.num {av' : Value} {H : Nat} {x : Int} (h : OwnTrim w base gv tv av G T A sv)
    (ho : w'.ownsRow base 2 1 av' (A.length + 1) (A.map (Value.int .i64) ++ [.int .i64 x])) (hg : w.grownBy w' av.ownBlock) (hb : av'.ownBlock = av.ownBlock ∨ av'.ownBlock = some H) (hH : w.heap.size ≤ H) :
    OwnTrim w' base gv tv av' G T (A ++ [x]) sv := by
  have hd := h.dst
  unfold Dst at hd
  simp only [List.pairwise_cons, List.mem_cons, forall_eq_or_imp] at hd
  obtain ⟨⟨g1, g2, g3⟩, ⟨t1, t2⟩, a1, d1⟩ := hd
  have hbl := h.blk
  simp only [List.mem_cons, forall_eq_or_imp] at hbl
  obtain ⟨b1, b2, b3, b4⟩ := hbl
  have far : ∀ (v : Value) (g : Nat), v.ownBlock = some g → g < w.heap.size → av.ownBlock ≠ some g → av'.ownBlock ≠ some g := by
    intro v g hv hl hn
    rcases hb with e | e
    · rw [e]; exact hn
    · rw [e]; intro q; cases q; omega
  refine ⟨ownsRow_gb h.gl hg g2, ownsRow_gb h.row hg t1, by simpa using ho, h.len, fun k hk hk' => ownsRow_gb (h.each k hk hk') hg (fun g hq q => a1 _ (List.getElem_mem _) g q hq), ?_⟩
  unfold Dst
  simp only [List.pairwise_cons, List.mem_cons, forall_eq_or_imp]
  exact ⟨⟨g1, fun g hq => far _ g hq (b1 g hq).2 (g2 g hq), g3⟩, ⟨fun g hq => far _ g hq (b2 g hq).2 (t1 g hq), t2⟩, fun v hv g hq q => far _ g q (b4 v hv g q).2 (fun q2 => a1 v hv g q2 q) hq, d1⟩
end
end Go.Proofs.Ytcbifdfcllaaaaa
