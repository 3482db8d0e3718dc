/- Contracts of the library's functions that copy and sort a slice of placed tiles, and of the program's function over them. -/
import Derived.Test.YtcbifdfcllaaaaaGreatDoorOwnPt
import Derived.Test.YtcbifdfcllaaaaaGreatDoorLater
import Derived.Test.YtcbifdfcllaaaaaGreatDoorAsm
import Derived.Test.YtcbifdfcllaaaaaGreatDoorLaySort
import Derived.Deep.DeepCutAuto
import Derived.Lib.SliceRun
import Derived.Shelf.SlSortCmp.NoneTotal
import Derived.Test.YtcbifdfcllaaaaaGreatDoorGridP
namespace Go.Proofs.YtcbifdfcllaaaaaGreatDoor
open Go.RowKit Go.Deep Go.Sort Go.Lib
set_option linter.unusedVariables false
set_option linter.unusedSimpArgs false

/-- append of a whole slice to a row of the call's own -/
theorem wpList_appN3 {P : Program} {ops : Array Oper} {rest : List Oper} {o : Oper} {a : Act} {Q : Exit → Act → World → Prop} (hgd : o.guard = none) (s x : Operand) {t e : TypeId} {size bytes : Nat}
    (ho : o.op = .call { callee := .builtin .append, args := #[s, x], argTypes := #[t, t] }) (hr : ElemRow P t e size bytes) (w0 : World) (base : Nat) {v : Value} {n : Nat} {xs : List Value}
    (hown : w0.ownsRow base e size v n xs) (hs : a.eval s = v) (b off m c : Nat) (news : List Value) (hx : a.eval x = .slice (some ⟨b, off, none⟩) m c) (hl : news.length = m * size) (hnews : ∀ j u, news[j]? = some u → w0.cell? ⟨b, off + j, none⟩ = some u) (h1 : ∀ u ∈ news, u.oneCell' = true)
    (h63 : n + m ≤ maxLen) (hb : (n + m) * bytes ≤ 140737488355328) (hbase : base ≤ w0.heap.size)
    (h : ∀ v' w', w'.ownsRow base e size v' (n + m) (xs ++ news) → Below base w0 w' → wpList P ops Q rest (a.put o.dst v') w') : wpList P ops Q (o :: rest) a w0 := by
  obtain ⟨ht, i, z, hi, hz, hsize, hby, hzs, hsz⟩ := hr
  refine wpList_plain hgd fun _ hK => ?_
  obtain ⟨v', w', hrun, h2, h3, _, h5⟩ := run_append_own_at (P := P) w0 base t o.type e i z size bytes ht hi hz hsize hby hzs hsz v n xs hown ⟨b, off, none⟩ m c news hl
    (fun j u hj => by rw [addr_add_plain]; exact hnews j u hj) h1 h63 hb hbase
  unfold Oper.wp execOp
  simp only [ho, resolve, invoke, builtin, Sem.run_bind, Sem.run_pure, Result.andThen_ok, List.map_toArray, List.map_cons, List.map_nil, hs, hx, hrun]
  exact hK _ _ (h v' w' h2 ((Below.refl _ _).grown h3 hbase (fun k hk => (hown.lt k hk).1)))

theorem own_nil (w : World) (k : Nat) (hk : k ≤ w.heap.size) (lo : Nat) (e : TypeId) (C : Nat) : Own w lo k e C (.slice none 0 0) 0 [] :=
  ⟨World.ownsRow_nil _ _ _ _, hk, fun g hg => by cases hg⟩
theorem pls_one (zs : List ((Int × Int) × Int)) : ∀ u ∈ zs.flatMap plCells, u.oneCell' = true := by
  intro u hu
  obtain ⟨z, _, hz⟩ := List.mem_flatMap.1 hu
  simp only [plCells, List.mem_cons, List.not_mem_nil, or_false] at hz
  rcases hz with rfl | rfl | rfl <;> rfl

set_option maxHeartbeats 1000000 in
theorem c_clone_Placed (lo hi : Nat) (v : Value) (zs : List ((Int × Int) × Int)) (w : World) (h : Own w lo hi 85 3 v zs.length (zs.flatMap plCells)) (hl : zs.length ≤ 1000000) :
    Calls Tryz.prog 53 #[v] w (GivesRow w 85 3 zs.length (zs.flatMap plCells)) := by
  have hr := h.rd
  rcases h.1.2 with ⟨rfl, h0⟩ | ⟨g, c, cur, rfl, _⟩
  · have hz : zs = [] := List.eq_nil_of_length_eq_zero h0
    subst hz
    have hnil := fun wx => Lib.run_eql_slice_nil (P := Tryz.prog) wx 27 85 none 0 0 0 0 Tryz.underlying27
    clear hr h
    go_enter Tryz.func53, Tryz.ntmps53
    go_wp2
    go_ret
    exact ⟨_, rfl, own_nil _ _ (Nat.le_refl _) _ _ _, New.same _⟩
  · obtain ⟨hxl, hm, hh, A, c', hv, hrd'⟩ := hr
    have hcell : ∀ j u, (zs.flatMap plCells)[j]? = some u → w.cell? ⟨g, 0 + j, none⟩ = some u := fun j u hj => by
      have hpos : 0 < zs.length := by
        rcases Nat.eq_zero_or_pos zs.length with e | e
        · rw [List.eq_nil_of_length_eq_zero e] at hj; simp at hj
        · exact e
      obtain ⟨b, off, e, _, _, hc⟩ := hrd' hpos
      have : A = some ⟨g, 0, none⟩ := by cases hv; rfl
      rw [this] at e
      obtain ⟨rfl, rfl⟩ : g = b ∧ 0 = off := by simpa using e
      exact hc j u hj
    have hg : g < w.heap.size := by have := h.2.2 g rfl; have := h.2.1; omega
    have n0 : New w (w.alloc (.cells #[] 85)) := (New.same w).box _
    have HC : Hid (∀ j u, (zs.flatMap plCells)[j]? = some u → (w.alloc (.cells #[] 85)).cell? ⟨g, 0 + j, none⟩ = some u) := Lib.hid (fun j u hj => (n0.cell (p := ⟨g, 0 + j, none⟩) (by simp; omega)).trans (hcell j u hj))
    clear hcell hrd' hv h hh hm
    have hnil := fun wx => Lib.run_eql_slice_nil (P := Tryz.prog) wx 27 85 (some ⟨g, 0, none⟩) zs.length c 0 0 Tryz.underlying27
    go_enter Tryz.func53, Tryz.ntmps53
    go_wp2_with (at_builtin; refine wpList_appN3 rfl _ _ rfl row_Placed _ w.heap.size (World.ownsRow_made w #[] 0 (Nat.le_refl _) (by unfold maxLen; omega) rfl) rfl g 0 zs.length c (zs.flatMap plCells) rfl hxl HC.out (pls_one zs) (by unfold maxLen; omega) (by omega) (by simp) ?_; intro v1 w1 hown1 hb1)
    go_ret
    exact ⟨_, rfl, by simpa using Own.of hown1, n0.trans hb1⟩


set_option maxRecDepth 20000 in
set_option maxHeartbeats 1000000 in
theorem c_cmpGrow (x y : Int × Int) (w : World) : Calls Tryz.prog 56 #[.agg #[.int .i64 x.1, .int .i64 x.2], .agg #[.int .i64 y.1, .int .i64 y.2]] w fun e w' => e = .returned (.int .i64 (cmpP x.1 x.2 y.1 y.2)) ∧ ∃ q os', w' = grow (w.drewN q) os' := by
  go_enter Tryz.func56, Tryz.ntmps56
  go_wp2_with fail
  refine region_still_tail 10 (by kernel_rfl) (by kernel_rfl) ?_
  simp only [List.take_succ_cons, List.take_zero, List.drop_succ_cons, List.drop_zero]
  repeat still_step
  still_call (still_of (c_cmp _ _ _))
  repeat still_step
  still_call (still_of (c_cmp _ _ _))
  refine wpStill_nil ?_
  go_wp2_with fail
  refine (c_or (cmpI x.2 y.2) (cmpI x.1 y.1) _ _ (by go_simp) (by go_simp)).mono ?_
  rintro e w' ⟨rfl, rfl⟩
  go_wp2
  go_ret
  exact ⟨rfl, 1, _, by simp only [alloc_eq_grow, grow_grow, drew_grow]; rfl⟩


def cfPl (x y : (Int × Int) × Int) : Int := cmpP x.1.1 x.1.2 y.1.1 y.1.2
theorem ltOf_cfPl (x y : (Int × Int) × Int) : ltOf cfPl x y = ltQ x.1 y.1 := by
  unfold ltOf cfPl ltQ
  exact cmpP_neg
theorem swo_cfPl : SWO (ltOf cfPl) where
  irrefl x := by rw [ltOf_cfPl]; exact ltQ_irr x.1
  trans x y z h1 h2 := by rw [ltOf_cfPl] at *; exact ltQ_trans h1 h2
  ntrans x y z h1 h2 := by
    rw [ltOf_cfPl] at *
    cases h : ltQ x.1 z.1
    · rfl
    · have a := ltQ_iff.1 h
      have b : ¬ (x.1.2 < y.1.2 ∨ x.1.2 = y.1.2 ∧ x.1.1 < y.1.1) := fun k => by rw [ltQ_iff.2 k] at h1; cases h1
      have c : ¬ (y.1.2 < z.1.2 ∨ y.1.2 = z.1.2 ∧ y.1.1 < z.1.1) := fun k => by rw [ltQ_iff.2 k] at h2; cases h2
      omega
theorem growN (w : World) (os : Array Obj) (q : Nat) : (grow w os).drewN q = grow (w.drewN q) os := rfl
/-- the program's test on placed tiles -/
theorem c_cmpPl (x y : (Int × Int) × Int) (w : World) : Calls Tryz.prog 55 #[.agg #[.int .i64 x.1.1, .int .i64 x.1.2, .int .i64 x.2], .agg #[.int .i64 y.1.1, .int .i64 y.1.2, .int .i64 y.2]] w fun e w' => e = .returned (.int .i64 (cfPl x y)) ∧ ∃ q os', w' = grow (w.drewN q) os' := by
  go_enter Tryz.func55, Tryz.ntmps55
  go_wp2_with (go_at_call 56; refine (c_cmpGrow x.1 y.1 _).mono ?_; rintro e w1 ⟨rfl, q, os', rfl⟩)
  go_ret
  exact ⟨rfl, q, _, by simp only [alloc_eq_grow, grow_grow, drew_grow, growN]; rfl⟩

theorem flatK_pls (d : Array ((Int × Int) × Int)) : flatK plCells 3 d = (d.toList.flatMap plCells).toArray := by
  apply ext_get!
  · have := pl_len d.toList
    simp only [size_flatK, List.size_toArray, this, Array.length_toList]
  · intro t ht
    rw [size_flatK] at ht
    rw [get_flatK _ _ _ _ ht]
    have h1 : t / 3 < d.toList.length := by simp; omega
    have h2 := flat_get plCells 3 (fun _ => rfl) d.toList (t / 3) (t % 3) h1 (by omega)
    rw [show t / 3 * 3 + t % 3 = t by omega] at h2
    have h3 : t / 3 < d.size := by simpa using h1
    rw [getElem!_pos d _ h3]
    have e : ∀ (L : List Value), L.toArray[t]! = L[t]! := by intro L; simp
    have h4 : (d.toList.flatMap plCells)[t]! = (plCells d[t / 3])[t % 3]! := by
      rw [List.getElem!_eq_getElem?_getD, h2, List.getElem!_eq_getElem?_getD]
      simp
    rw [e, h4]

theorem holds_of_blockV {w : World} {g : Nat} {cur : Array Value} {e : TypeId} {ss : List Value} (hb : w.heap[g]? = some (.cells cur e (0, 0))) (ht : cur.toList.take ss.length = ss) : Holds id w g 0 ss.toArray := by
  intro j hj
  have hj' : j < ss.length := by simpa using hj
  refine ⟨?_, by simp [World.frozen?, hb]⟩
  have h1 : (cur.toList.take ss.length)[j]? = ss[j]? := by rw [ht]
  rw [List.getElem?_take_of_lt hj'] at h1
  simp only [World.cell?, hb, Nat.zero_add]
  simp only [Option.isSome_none, Bool.false_eq_true, if_false]
  rw [← Array.getElem?_toList, h1]
  simp [hj']
theorem heap_sortedV {w : World} {g n : Nat} {os : Array Obj} {cur : Array Value} {e : TypeId} {fr : Nat × Nat} (d : Array Value) (hb : w.heap[g]? = some (.cells cur e fr)) :
    (grow (putRow id (Sort.ahead w n) g 0 d) os).heap[g]? = some (.cells (putCells id 0 d cur) e fr) := by
  have hg : g < w.heap.size := (Array.getElem?_eq_some_iff.1 hb).1
  rw [heap_grow_old _ _ (by simpa using hg)]
  simp [putRow, mapBlock, Sort.ahead, Array.getElem?_modify, hb, onCells]
theorem grownBy_sortedV {w : World} {g n : Nat} {os : Array Obj} (d : Array Value) : w.grownBy (grow (putRow id (Sort.ahead w n) g 0 d) os) (some g) := by
  refine ⟨rfl, rfl, rfl, by simp, fun k hk hne => ?_⟩
  rw [heap_grow_old _ _ (by simpa using hk)]
  have : g ≠ k := fun e => hne (by rw [e])
  simp [putRow, mapBlock, Sort.ahead, Array.getElem?_modify, this]
theorem take_putCellsV (cur : Array Value) (ts : List Value) (h : ts.length ≤ cur.size) : (putCells id 0 ts.toArray cur).toList.take ts.length = ts := by
  apply List.ext_getElem?
  intro j
  by_cases hj : j < ts.length
  · rw [List.getElem?_take_of_lt hj, Array.getElem?_toList]
    simp [putCells, hj, show j < cur.size by omega]
  · rw [List.getElem?_take_eq_none (by omega), List.getElem?_eq_none (by omega)]


/-- A call sorts a row of placed tiles. -/
def SortsPl (w : World) (base : Nat) (e : TypeId) (v : Value) (zs : List ((Int × Int) × Int)) (E : Ending) (w' : World) : Prop :=
  E = .returned (.tuple #[]) ∧ ∃ ys : List ((Int × Int) × Int), ys.Perm zs ∧ ys.Pairwise (fun p q => ltQ q.1 p.1 = false) ∧ w'.ownsRow base e 3 v zs.length (ys.flatMap plCells) ∧ Below base w w'

theorem c_sortFuncPl (base : Nat) (v : Value) (zs : List ((Int × Int) × Int)) (w : World) (h : w.ownsRow base 85 3 v zs.length (zs.flatMap plCells)) (hbase : base ≤ w.heap.size) (hn : 0 < zs.length) (hl : zs.length ≤ 1000000) :
    Calls Tryz.prog 54 #[v, .func (.func 55) #[] #[]] w (SortsPl w base 85 v zs) := by
  obtain ⟨hxl, h2⟩ := h
  rcases h2 with ⟨_, h0⟩ | ⟨g, cap, cur, rfl, hb, hg, hnc, hcm, hcs, htake⟩
  · omega
  have hgl : g < w.heap.size := (Array.getElem?_eq_some_iff.1 hg).1
  have hH : HoldsK plCells 3 w g 0 zs.toArray := by
    unfold HoldsK
    rw [flatK_pls]
    exact holds_of_blockV hg (by rw [pl_len]; exact htake)
  have hc := AnyQ.slices_SortFunc Tryz.sortPl 3 Tryz.isAgg85 Tryz.sizeOf85 plCells (fun _ => rfl) (fun x u hu => by simp [plCells] at hu; rcases hu with rfl | rfl | rfl <;> rfl) cfPl swo_cfPl 55 #[] g 0 cap zs.toArray w
    (enters_of Tryz.func55 (by kernel_rfl) rfl) (fun _ _ _ _ x y => c_cmpPl x y _) hH hgl (by simp; omega)
  have hc' := hc
  rw [show zs.toArray.size = zs.length from List.size_toArray] at hc'
  change Calls Tryz.prog 54 _ _ _ at hc'
  refine hc'.mono ?_
  rintro e w' ⟨rfl, d', n, os, hp, hs, rfl⟩
  have hsz : d'.size = zs.length := by simpa using hp.1
  refine ⟨rfl, d'.toList, ?_, ?_, ?_, ?_⟩
  · have := hp.2.2
    have e1 : d'.extract 0 zs.length = d' := by
      apply Array.ext
      · simp [hsz]
      · intro i h1 h2; simp
    rw [e1] at this
    simpa using this
  · rw [List.pairwise_iff_getElem]
    intro i j hi hj hij
    have := hs i j (Nat.zero_le _) hij (by simpa [hsz] using hj)
    rw [ltOf_cfPl] at this
    rw [getElem!_pos d' j (by simpa using hj), getElem!_pos d' i (by simpa using hi)] at this
    simpa using this
  · unfold sortWorldK putRowK
    rw [flatK_pls]
    have hl2 : (d'.toList.flatMap plCells).length = zs.length * 3 := by rw [pl_len]; simp [hsz]
    refine ⟨hl2, .inr ⟨g, cap, _, rfl, hb, heap_sortedV _ hg, hnc, hcm, by simp [putCells, hcs], ?_⟩⟩
    rw [← hl2]
    exact take_putCellsV cur _ (by rw [hl2, hcs]; exact Nat.mul_le_mul_right _ hnc)
  · unfold sortWorldK putRowK
    exact (Below.refl _ _).grown (grownBy_sortedV _) hbase (fun k hk => by cases hk; exact hb)
theorem c_sortNone (p : Option Addr) (cap : Nat) (fv : Value) (w : World) : Calls Tryz.prog 54 #[.slice p 0 cap, fv] w fun e w' => e = .returned (.tuple #[]) ∧ w' = w := by
  have h := AnyF.slices_SortFunc_none Tryz.sortPl p cap fv w
  change Calls Tryz.prog 54 _ _ _ at h
  exact h
set_option maxHeartbeats 1000000 in
theorem c_assemblyOf (lo hi : Nat) (v : Value) (zs : List Pl3) (w : World) (h : Own w lo hi 85 3 v zs.length (zs.flatMap plCells)) (hl : zs.length ≤ 1000000) (hz : AscP zs) :
    Calls Tryz.prog 25 #[v] w (GivesAsm w 85 zs) := by
  have HO := Lib.hid h
  have HZ := Lib.hid hz
  clear h hz
  have n0 : New w (w.alloc (.cells #[.slice none 0 0] 29)) := (New.same w).box _
  have B0 : BoxV (w.alloc (.cells #[.slice none 0 0] 29)) w.heap.size [.slice none 0 0] := .one (by go_simp) (by go_simp) (by simp <;> omega)
  have hz0 : w.heap.size + 1 ≤ (w.alloc (.cells #[.slice none 0 0] 29)).heap.size := by simp
  go_enter Tryz.func25, Tryz.ntmps25
  go_wp2_with fail
  generalize (w.alloc (.cells #[.slice none 0 0] 29)) = W0 at *
  refine (c_clone_Placed _ _ _ zs _ (HO.out.new n0) hl).mono ?_
  rintro e w1 ⟨u, rfl, hO, n1⟩
  have B1 := B0.new n1
  have N1 := n0.step n1
  have hz1 := n1.size
  obtain ⟨_, _, _, A, c, rfl, _⟩ := hO.rd
  by_cases hn : 0 < zs.length
  · have HS := Lib.hid hO.1
    clear hO
    go_wp2_with fail
    refine (c_sortFuncPl W0.heap.size _ zs _ HS.out hz1 hn hl).mono ?_
    rintro e w2 ⟨rfl, ys, hp, hs, hown, hb2⟩
    obtain rfl := sorted_same hp hs HZ.out
    have HS2 := Lib.hid hown
    have B2 := B1.below hb2 (by omega)
    have N2 := N1.trans (hb2.mono (by omega))
    have ⟨c1, f1, l1⟩ := B2.at1
    have F3 := Lib.hid ((Fr.refl w.heap.size (w.heap.size + 1) w2).setCell (p := ⟨w.heap.size, 0, none⟩) (by simp) (by simp) (.slice A ys.length c))
    clear hown hp hs
    go_wp2
    refine bodyPost_ret (v := .agg #[.slice A ys.length c]) (by simp [results, Tryz.results25, go_sem, *]) rfl ⟨_, rfl, ?_, New.fr N2 F3.out (Nat.le_refl _)⟩
    exact ((Own.of HS2.out).fr F3.out (.inr (by omega))).wide (by omega) F3.out.size (Nat.le_refl _)
  · have e0 : zs = [] := List.eq_nil_of_length_eq_zero (by omega)
    subst e0
    have HS := Lib.hid hO
    have ⟨c1, f1, l1⟩ := B1.at1
    have F3 := Lib.hid ((Fr.refl w.heap.size (w.heap.size + 1) w1).setCell (p := ⟨w.heap.size, 0, none⟩) (by simp) (by simp) (.slice A 0 c))
    clear hO
    simp only [List.length_nil] at *
    go_wp2_with (go_at_call 54; refine (c_sortNone _ _ _ _).mono ?_; rintro e w' ⟨rfl, rfl⟩)
    refine bodyPost_ret (v := .agg #[.slice A 0 c]) (by simp [results, Tryz.results25, go_sem, *]) rfl ⟨_, rfl, ?_, New.fr N1 F3.out (Nat.le_refl _)⟩
    exact (HS.out.fr F3.out (.inr (by omega))).wide (by omega) F3.out.size (Nat.le_refl _)
end Go.Proofs.YtcbifdfcllaaaaaGreatDoor
