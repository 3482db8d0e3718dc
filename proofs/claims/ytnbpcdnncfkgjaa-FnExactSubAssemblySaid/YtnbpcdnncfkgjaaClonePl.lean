/- Contracts of the functions that copy an assembly and move the copy. -/
import Derived.Test.YtnbpcdnncfkgjaaMove
import Derived.Test.YtnbpcdnncfkgjaaHome
namespace Go.Proofs.Ytnbpcdnncfkgjaa
open Go.RowKit Go.Deep Go.Lib
set_option linter.unusedVariables false
set_option linter.unusedSimpArgs false

/-- append of a whole slice to a row of the call's own -/
theorem wpList_appN3 {P : Program} {ops : Array Oper} {rest : List Oper} {o : Oper} {a : Act} {Q : Exit → Act → World → Prop} (hgd : o.guard = none) (s x : Operand) {t e : TypeId} {size bytes : Nat}
    (ho : o.op = .call { callee := .builtin .append, args := #[s, x], argTypes := #[t, t] }) (hr : ElemRow P t e size bytes) (w0 : World) (base : Nat) {v : Value} {n : Nat} {xs : List Value}
    (hown : w0.ownsRow base e size v n xs) (hs : a.eval s = v) (b off m c : Nat) (news : List Value) (hx : a.eval x = .slice (some ⟨b, off, none⟩) m c) (hl : news.length = m * size) (hnews : ∀ j u, news[j]? = some u → w0.cell? ⟨b, off + j, none⟩ = some u) (h1 : ∀ u ∈ news, u.oneCell' = true)
    (h63 : n + m ≤ maxLen) (hb : (n + m) * bytes ≤ 140737488355328) (hbase : base ≤ w0.heap.size)
    (h : ∀ v' w', w'.ownsRow base e size v' (n + m) (xs ++ news) → Below base w0 w' → wpList P ops Q rest (a.put o.dst v') w') : wpList P ops Q (o :: rest) a w0 := by
  obtain ⟨ht, i, z, hi, hz, hsize, hby, hzs, hsz⟩ := hr
  refine wpList_plain hgd fun _ hK => ?_
  obtain ⟨v', w', hrun, h2, h3, _, h5⟩ := run_append_own_at (P := P) w0 base t o.type e i z size bytes ht hi hz hsize hby hzs hsz v n xs hown ⟨b, off, none⟩ m c news hl
    (fun j u hj => by rw [addr_add_plain]; exact hnews j u hj) h1 h63 hb hbase
  unfold Oper.wp execOp
  simp only [ho, resolve, invoke, builtin, Sem.run_bind, Sem.run_pure, Result.andThen_ok, List.map_toArray, List.map_cons, List.map_nil, hs, hx, hrun]
  exact hK _ _ (h v' w' h2 ((Below.refl _ _).grown h3 hbase (fun k hk => (hown.lt k hk).1)))

theorem pls_one (zs : List ((Int × Int) × Int)) : ∀ u ∈ zs.flatMap plCells, u.oneCell' = true := by
  intro u hu
  obtain ⟨z, _, hz⟩ := List.mem_flatMap.1 hu
  simp only [plCells, List.mem_cons, List.not_mem_nil, or_false] at hz
  rcases hz with rfl | rfl | rfl <;> rfl

set_option maxHeartbeats 1000000 in
theorem c_clone_Placed (lo hi : Nat) (v : Value) (zs : List ((Int × Int) × Int)) (w : World) (h : Own w lo hi 71 3 v zs.length (zs.flatMap plCells)) (hl : zs.length ≤ 1000000) :
    Calls Try.prog 85 #[v] w (GivesRow w 71 3 zs.length (zs.flatMap plCells)) := by
  have hr := h.rd
  rcases h.1.2 with ⟨rfl, h0⟩ | ⟨g, c, cur, rfl, _⟩
  · have hz : zs = [] := List.eq_nil_of_length_eq_zero h0
    subst hz
    have hnil := fun wx => Lib.run_eql_slice_nil (P := Try.prog) wx 27 71 none 0 0 0 0 Try.underlying27
    clear hr h
    go_enter Try.func85, Try.ntmps85
    go_wp2
    go_ret
    exact ⟨_, rfl, own_nil _ _ (Nat.le_refl _) _ _ _, New.same _⟩
  · obtain ⟨hxl, hm, hh, A, c', hv, hrd'⟩ := hr
    have hcell : ∀ j u, (zs.flatMap plCells)[j]? = some u → w.cell? ⟨g, 0 + j, none⟩ = some u := fun j u hj => by
      have hpos : 0 < zs.length := by
        rcases Nat.eq_zero_or_pos zs.length with e | e
        · rw [List.eq_nil_of_length_eq_zero e] at hj; simp at hj
        · exact e
      obtain ⟨b, off, e, _, _, hc⟩ := hrd' hpos
      have : A = some ⟨g, 0, none⟩ := by cases hv; rfl
      rw [this] at e
      obtain ⟨rfl, rfl⟩ : g = b ∧ 0 = off := by simpa using e
      exact hc j u hj
    have hg : g < w.heap.size := by have := h.2.2 g rfl; have := h.2.1; omega
    have n0 : New w (w.alloc (.cells #[] 71)) := (New.same w).box _
    have HC : Hid (∀ j u, (zs.flatMap plCells)[j]? = some u → (w.alloc (.cells #[] 71)).cell? ⟨g, 0 + j, none⟩ = some u) := Lib.hid (fun j u hj => (n0.cell (p := ⟨g, 0 + j, none⟩) (by simp; omega)).trans (hcell j u hj))
    clear hcell hrd' hv h hh hm
    have hnil := fun wx => Lib.run_eql_slice_nil (P := Try.prog) wx 27 71 (some ⟨g, 0, none⟩) zs.length c 0 0 Try.underlying27
    go_enter Try.func85, Try.ntmps85
    go_wp2_with (at_builtin; refine wpList_appN3 rfl _ _ rfl row_Placed _ w.heap.size (World.ownsRow_made w #[] 0 (Nat.le_refl _) (by unfold maxLen; omega) rfl) rfl g 0 zs.length c (zs.flatMap plCells) rfl hxl HC.out (pls_one zs) (by unfold maxLen; omega) (by omega) (by simp) ?_; intro v1 w1 hown1 hb1)
    go_ret
    exact ⟨_, rfl, by simpa using Own.of hown1, n0.trans hb1⟩

set_option maxHeartbeats 1000000 in
theorem c_cloneAssembly (lo hi : Nat) (v : Value) (zs : List ((Int × Int) × Int)) (w : World) (h : Own w lo hi 71 3 v zs.length (zs.flatMap plCells)) (hl : zs.length ≤ 1000000) :
    Calls Try.prog 79 #[.agg #[v]] w (GivesAsm w 71 zs) := by
  have HO := Lib.hid h
  obtain ⟨_, _, _, A, c, rfl, _⟩ := h.rd
  clear h
  have n0 : New w ((w.alloc (.cells #[.slice A zs.length c] 29)).alloc (.cells #[.slice none 0 0] 29)) := ((New.same w).box _).box _
  have B1 : BoxV ((w.alloc (.cells #[.slice A zs.length c] 29)).alloc (.cells #[.slice none 0 0] 29)) (w.heap.size + 1) [.slice none 0 0] := .one (by go_simp) (by go_simp) (by simp <;> omega)
  have hz : w.heap.size + 2 ≤ ((w.alloc (.cells #[.slice A zs.length c] 29)).alloc (.cells #[.slice none 0 0] 29)).heap.size := by simp
  go_enter Try.func79, Try.ntmps79
  go_wp2_with fail
  generalize ((w.alloc (.cells #[.slice A zs.length c] 29)).alloc (.cells #[.slice none 0 0] 29)) = W0 at *
  refine (c_clone_Placed _ _ _ zs _ (HO.out.new n0) hl).mono ?_
  rintro e w1 ⟨u, rfl, hO, n1⟩
  obtain ⟨A1, c1, rfl⟩ := own_slice3 hO.1
  have ⟨f1, f2, f3⟩ := (B1.new n1).at1
  have F := (Fr.refl (w.heap.size + 1) (w.heap.size + 2) w1).setCell (p := ⟨w.heap.size + 1, 0, none⟩) (by simp) (by simp) (.slice A1 zs.length c1)
  have HW := Lib.hid ((hO.fr F (.inr (by omega))).wide (by omega : w.heap.size ≤ _) F.size (Nat.le_refl _))
  have NN := (n0.step n1).fr F (by omega)
  clear F hO n1
  go_wp2
  exact bodyPost_ret (v := .agg #[.slice A1 zs.length c1]) (by simp [results, Try.results79, go_sem, *]) rfl ⟨_, rfl, HW.out, NN⟩

end Go.Proofs.Ytnbpcdnncfkgjaa
