/- Contracts of the library's functions that copy, sort and thin out a slice of points, and of the program's function over them. -/
import Derived.Test.YthafdlfhkcbjhaaOwnPt
import Derived.Test.YthafdlfhkcbjhaaLater
import Derived.Test.YthafdlfhkcbjhaaHome
import Derived.Test.YthafdlfhkcbjhaaLaySort
import Derived.Deep.DeepCutAuto
namespace Go.Proofs.Ythafdlfhkcbjhaa
open Go.RowKit Go.Deep Go.Sort Go.Lib
set_option linter.unusedVariables false
set_option linter.unusedSimpArgs false

/-- append of a whole slice to a row of the call's own -/
theorem wpList_appN {P : Program} {ops : Array Oper} {rest : List Oper} {o : Oper} {a : Act} {Q : Exit → Act → World → Prop} (hgd : o.guard = none) (s x : Operand) {t e : TypeId} {size bytes : Nat}
    (ho : o.op = .call { callee := .builtin .append, args := #[s, x], argTypes := #[t, t] }) (hr : ElemRow P t e size bytes) (w0 : World) (base : Nat) {v : Value} {n : Nat} {xs : List Value}
    (hown : w0.ownsRow base e size v n xs) (hs : a.eval s = v) (b off m c : Nat) (news : List Value) (hx : a.eval x = .slice (some ⟨b, off, none⟩) m c) (hl : news.length = m * size) (hnews : ∀ j u, news[j]? = some u → w0.cell? ⟨b, off + j, none⟩ = some u) (h1 : ∀ u ∈ news, u.oneCell' = true)
    (h63 : n + m ≤ maxLen) (hb : (n + m) * bytes ≤ 140737488355328) (hbase : base ≤ w0.heap.size)
    (h : ∀ v' w', w'.ownsRow base e size v' (n + m) (xs ++ news) → Below base w0 w' → wpList P ops Q rest (a.put o.dst v') w') : wpList P ops Q (o :: rest) a w0 := by
  obtain ⟨ht, i, z, hi, hz, hsize, hby, hzs, hsz⟩ := hr
  refine wpList_plain hgd fun _ hK => ?_
  obtain ⟨v', w', hrun, h2, h3, _, h5⟩ := run_append_own_at (P := P) w0 base t o.type e i z size bytes ht hi hz hsize hby hzs hsz v n xs hown ⟨b, off, none⟩ m c news hl
    (fun j u hj => by rw [addr_add_plain]; exact hnews j u hj) h1 h63 hb hbase
  unfold Oper.wp execOp
  simp only [ho, resolve, invoke, builtin, Sem.run_bind, Sem.run_pure, Result.andThen_ok, List.map_toArray, List.map_cons, List.map_nil, hs, hx, hrun]
  exact hK _ _ (h v' w' h2 ((Below.refl _ _).grown h3 hbase (fun k hk => (hown.lt k hk).1)))

theorem pts_one (zs : List (Int × Int)) : ∀ u ∈ zs.flatMap ptCells, u.oneCell' = true := by
  intro u hu
  obtain ⟨z, _, hz⟩ := List.mem_flatMap.1 hu
  simp only [ptCells, List.mem_cons, List.not_mem_nil, or_false] at hz
  rcases hz with rfl | rfl <;> rfl

set_option maxHeartbeats 1000000 in
theorem c_clone_point (lo hi : Nat) (v : Value) (zs : List (Int × Int)) (w : World) (h : Rd w lo hi 2 v zs.length (zs.flatMap ptCells)) (hn : 0 < zs.length) (hl : zs.length ≤ 1000000) :
    Calls Try.prog 78 #[v] w (GivesRow w 66 2 zs.length (zs.flatMap ptCells)) := by
  have HR := Lib.hid h
  obtain ⟨hxl, hm, hh, A, c, rfl, hrd⟩ := h
  obtain ⟨b, off, rfl, _, hb1, hc⟩ := hrd hn
  have n0 : New w (w.alloc (.cells #[] 66)) := (New.same w).box _
  have HC : Hid (∀ j u, (zs.flatMap ptCells)[j]? = some u → (w.alloc (.cells #[] 66)).cell? ⟨b, off + j, none⟩ = some u) := Lib.hid (fun j u hj => (n0.cell (p := ⟨b, off + j, none⟩) (by simp; omega)).trans (hc j u hj))
  clear hc hrd
  have hnil := fun wx => Lib.run_eql_slice_nil (P := Try.prog) wx 46 66 (some ⟨b, off, none⟩) zs.length c 0 0 Try.underlying46
  go_enter Try.func78, Try.ntmps78
  go_wp2_with (at_builtin; refine wpList_appN rfl _ _ rfl row_point _ w.heap.size (World.ownsRow_made w #[] 0 (Nat.le_refl _) (by unfold maxLen; omega) rfl) rfl b off zs.length c (zs.flatMap ptCells) rfl hxl HC.out (pts_one zs) (by unfold maxLen; omega) (by omega) (by simp) ?_; intro v1 w1 hown1 hb1)
  go_ret
  exact ⟨_, rfl, by simpa using Own.of hown1, n0.trans hb1⟩

set_option maxRecDepth 20000 in
set_option maxHeartbeats 1000000 in
theorem c_cmpGrow (x y : Int × Int) (w : World) : Calls Try.prog 80 #[.agg #[.int .i64 x.1, .int .i64 x.2], .agg #[.int .i64 y.1, .int .i64 y.2]] w fun e w' => e = .returned (.int .i64 (cmpP x.1 x.2 y.1 y.2)) ∧ ∃ q os', w' = grow (w.drewN q) os' := by
  go_enter Try.func80, Try.ntmps80
  go_wp2_with fail
  refine region_still_tail 10 (by kernel_rfl) (by kernel_rfl) ?_
  simp only [List.take_succ_cons, List.take_zero, List.drop_succ_cons, List.drop_zero]
  repeat still_step
  still_call (still_of (c_cmp _ _ _))
  repeat still_step
  still_call (still_of (c_cmp _ _ _))
  refine wpStill_nil ?_
  go_wp2_with fail
  refine (c_or (cmpI x.2 y.2) (cmpI x.1 y.1) _ _ (by go_simp) (by go_simp)).mono ?_
  rintro e w' ⟨rfl, rfl⟩
  go_wp2
  go_ret
  exact ⟨rfl, 1, _, by simp only [alloc_eq_grow, grow_grow, drew_grow]; rfl⟩

def cfP (x y : Int × Int) : Int := cmpP x.1 x.2 y.1 y.2
theorem ltOf_cfP (x y : Int × Int) : ltOf cfP x y = ltQ x y := by
  unfold ltOf cfP ltQ
  exact cmpP_neg
theorem swo_cfP : SWO (ltOf cfP) where
  irrefl x := by rw [ltOf_cfP]; exact ltQ_irr x
  trans x y z h1 h2 := by rw [ltOf_cfP] at *; exact ltQ_trans h1 h2
  ntrans x y z h1 h2 := by
    rw [ltOf_cfP] at *
    cases h : ltQ x z
    · rfl
    · have a := ltQ_iff.1 h
      have b : ¬ (x.2 < y.2 ∨ x.2 = y.2 ∧ x.1 < y.1) := fun k => by rw [ltQ_iff.2 k] at h1; cases h1
      have c : ¬ (y.2 < z.2 ∨ y.2 = z.2 ∧ y.1 < z.1) := fun k => by rw [ltQ_iff.2 k] at h2; cases h2
      omega

theorem flatK_pts (d : Array (Int × Int)) : flatK ptCells 2 d = (d.toList.flatMap ptCells).toArray := by
  apply ext_get!
  · have := pts_len d.toList
    simp only [size_flatK, List.size_toArray, this, Array.length_toList]
  · intro t ht
    rw [size_flatK] at ht
    rw [get_flatK _ _ _ _ ht]
    have h1 : t / 2 < d.toList.length := by simp; omega
    have h2 := flat_get ptCells 2 (fun _ => rfl) d.toList (t / 2) (t % 2) h1 (by omega)
    rw [show t / 2 * 2 + t % 2 = t by omega] at h2
    have h3 : t / 2 < d.size := by simpa using h1
    rw [getElem!_pos d _ h3]
    have e : ∀ (L : List Value), L.toArray[t]! = L[t]! := by intro L; simp
    have h4 : (d.toList.flatMap ptCells)[t]! = (ptCells d[t / 2])[t % 2]! := by
      rw [List.getElem!_eq_getElem?_getD, h2, List.getElem!_eq_getElem?_getD]
      simp
    rw [e, h4]

theorem holds_of_blockV {w : World} {g : Nat} {cur : Array Value} {e : TypeId} {ss : List Value} (hb : w.heap[g]? = some (.cells cur e (0, 0))) (ht : cur.toList.take ss.length = ss) : Holds id w g 0 ss.toArray := by
  intro j hj
  have hj' : j < ss.length := by simpa using hj
  refine ⟨?_, by simp [World.frozen?, hb]⟩
  have h1 : (cur.toList.take ss.length)[j]? = ss[j]? := by rw [ht]
  rw [List.getElem?_take_of_lt hj'] at h1
  simp only [World.cell?, hb, Nat.zero_add]
  simp only [Option.isSome_none, Bool.false_eq_true, if_false]
  rw [← Array.getElem?_toList, h1]
  simp [hj']
theorem heap_sortedV {w : World} {g n : Nat} {os : Array Obj} {cur : Array Value} {e : TypeId} {fr : Nat × Nat} (d : Array Value) (hb : w.heap[g]? = some (.cells cur e fr)) :
    (grow (putRow id (Sort.ahead w n) g 0 d) os).heap[g]? = some (.cells (putCells id 0 d cur) e fr) := by
  have hg : g < w.heap.size := (Array.getElem?_eq_some_iff.1 hb).1
  rw [heap_grow_old _ _ (by simpa using hg)]
  simp [putRow, mapBlock, Sort.ahead, Array.getElem?_modify, hb, onCells]
theorem grownBy_sortedV {w : World} {g n : Nat} {os : Array Obj} (d : Array Value) : w.grownBy (grow (putRow id (Sort.ahead w n) g 0 d) os) (some g) := by
  refine ⟨rfl, rfl, rfl, by simp, fun k hk hne => ?_⟩
  rw [heap_grow_old _ _ (by simpa using hk)]
  have : g ≠ k := fun e => hne (by rw [e])
  simp [putRow, mapBlock, Sort.ahead, Array.getElem?_modify, this]
theorem take_putCellsV (cur : Array Value) (ts : List Value) (h : ts.length ≤ cur.size) : (putCells id 0 ts.toArray cur).toList.take ts.length = ts := by
  apply List.ext_getElem?
  intro j
  by_cases hj : j < ts.length
  · rw [List.getElem?_take_of_lt hj, Array.getElem?_toList]
    simp [putCells, hj, show j < cur.size by omega]
  · rw [List.getElem?_take_eq_none (by omega), List.getElem?_eq_none (by omega)]

/-- A call sorts a row of points. -/
def Sorts (w : World) (base : Nat) (e : TypeId) (v : Value) (zs : List (Int × Int)) (E : Ending) (w' : World) : Prop :=
  E = .returned (.tuple #[]) ∧ ∃ ys : List (Int × Int), ys.Perm zs ∧ ys.Pairwise (fun p q => ltQ q p = false) ∧ w'.ownsRow base e 2 v zs.length (ys.flatMap ptCells) ∧ Below base w w'

theorem c_sortFunc (base : Nat) (v : Value) (zs : List (Int × Int)) (w : World) (h : w.ownsRow base 66 2 v zs.length (zs.flatMap ptCells)) (hbase : base ≤ w.heap.size) (hn : 0 < zs.length) (hl : zs.length ≤ 1000000) :
    Calls Try.prog 79 #[v, .func (.func 80) #[] #[]] w (Sorts w base 66 v zs) := by
  obtain ⟨hxl, h2⟩ := h
  rcases h2 with ⟨_, h0⟩ | ⟨g, cap, cur, rfl, hb, hg, hnc, hcm, hcs, htake⟩
  · omega
  have hgl : g < w.heap.size := (Array.getElem?_eq_some_iff.1 hg).1
  have hH : HoldsK ptCells 2 w g 0 zs.toArray := by
    unfold HoldsK
    rw [flatK_pts]
    exact holds_of_blockV hg (by rw [pts_len]; exact htake)
  have hc := AnyQ.slices_SortFunc Try.sortPt 2 Try.isAgg66 Try.sizeOf66 ptCells (fun _ => rfl) (fun x u hu => by simp [ptCells] at hu; rcases hu with rfl | rfl <;> rfl) cfP swo_cfP 80 #[] g 0 cap zs.toArray w
    (enters_of Try.func80 (by kernel_rfl) rfl) (fun _ _ _ _ x y => c_cmpGrow x y _) hH hgl (by simp; omega)
  have hc' := hc
  rw [show zs.toArray.size = zs.length from List.size_toArray] at hc'
  change Calls Try.prog 79 _ _ _ at hc'
  refine hc'.mono ?_
  rintro e w' ⟨rfl, d', n, os, hp, hs, rfl⟩
  have hsz : d'.size = zs.length := by simpa using hp.1
  refine ⟨rfl, d'.toList, ?_, ?_, ?_, ?_⟩
  · have := hp.2.2
    have e1 : d'.extract 0 zs.length = d' := by
      apply Array.ext
      · simp [hsz]
      · intro i h1 h2; simp
    rw [e1] at this
    simpa using this
  · rw [List.pairwise_iff_getElem]
    intro i j hi hj hij
    have := hs i j (Nat.zero_le _) hij (by simpa [hsz] using hj)
    rw [ltOf_cfP] at this
    rw [getElem!_pos d' j (by simpa using hj), getElem!_pos d' i (by simpa using hi)] at this
    simpa using this
  · unfold sortWorldK putRowK
    rw [flatK_pts]
    have hl2 : (d'.toList.flatMap ptCells).length = zs.length * 2 := by rw [pts_len]; simp [hsz]
    refine ⟨hl2, .inr ⟨g, cap, _, rfl, hb, heap_sortedV _ hg, hnc, hcm, by simp [putCells, hcs], ?_⟩⟩
    rw [← hl2]
    exact take_putCellsV cur _ (by rw [hl2, hcs]; exact Nat.mul_le_mul_right _ hnc)
  · unfold sortWorldK putRowK
    exact (Below.refl _ _).grown (grownBy_sortedV _) hbase (fun k hk => by cases hk; exact hb)

theorem asc_of_sorted {zs ys : List (Int × Int)} (hp : ys.Perm zs) (hs : ys.Pairwise fun p q => ltQ q p = false) (hd : zs.Nodup) : ys = sortR zs := by
  have hd' : ys.Nodup := hp.nodup_iff.2 hd
  refine sortR_eq ?_ fun q => hp.mem_iff
  have := List.pairwise_and_iff.2 ⟨hs, hd'⟩
  exact this.imp fun {p q} ⟨h1, h2⟩ => by
    rcases ltQ_tri p q with k | k | k
    · exact k
    · exact absurd k h2
    · rw [h1] at k; cases k

set_option maxHeartbeats 4000000 in
theorem c_compact_asc (lo hi : Nat) (v : Value) (zs : List (Int × Int)) (w : World) (h : Rd w lo hi 2 v zs.length (zs.flatMap ptCells)) (hd : ∀ j k (hj : j < zs.length) (hk : k < zs.length), k = j + 1 → zs[k] ≠ zs[j]) :
    Calls Try.prog 81 #[v] w fun e w' => e = .returned v ∧ New w w' := by
  have HR := Lib.hid h
  have HD := Lib.hid hd
  obtain ⟨_, hm, hh, A, c, rfl, hrd⟩ := h
  have ha : 0 < zs.length → ∃ b off, A = some ⟨b, off, none⟩ := fun h => by obtain ⟨b, off, e, _⟩ := hrd h; exact ⟨b, off, e⟩
  have HA := Lib.hid ha
  clear hrd ha hd
  by_cases hl2 : zs.length < 2
  · go_enter Try.func81, Try.ntmps81
    go_wp2
    go_ret
    exact ⟨rfl, New.same _⟩
  · obtain ⟨b, off, hAe⟩ := HA.out (by omega)
    subst hAe
    go_enter Try.func81, Try.ntmps81
    go_wp2
    go_loopw [3] (fun i wr => ∃ k : Nat, 1 ≤ k ∧ k ≤ zs.length ∧ i = .int .i64 k ∧ New w wr) (fun i _ => zs.length - (intOf i).toNat)
    case atStart => exact ⟨1, Nat.le_refl _, by omega, rfl, New.same _⟩
    case round =>
      obtain ⟨k, hk1, hk, rfl, hN⟩ := hrel
      by_cases hlt : k < zs.length
      · obtain ⟨j, hj⟩ : ∃ j, k = j + 1 := ⟨k - 1, by omega⟩
        have hjl : j < zs.length := by omega
        have hne := HD.out j k hjl hlt hj
        obtain ⟨x0, x1, bw⟩ := rd_pt HR.out hN rfl hlt
        obtain ⟨y0, y1, _⟩ := rd_pt HR.out hN rfl hjl
        have E1 : Hid (IntKind.i64.wrap ((k : Int) - 1) = (j : Int)) := Lib.hid (by rw [IntWalk.i64_in _ (by omega)]; omega)
        have p0 : (0 : Int) ≤ (k : Int) := by omega
        have p1 : (k : Int) < (zs.length : Int) := by omega
        have q0 : (0 : Int) ≤ (j : Int) := by omega
        have q1 : (j : Int) < (zs.length : Int) := by omega
        clear hj
        by_cases h0 : zs[k].1 = zs[j].1
        · have h1 : zs[k].2 ≠ zs[j].2 := fun h1 => hne (Prod.ext h0 h1)
          have g0 : (zs[k].1 == zs[j].1) = true := by simp [h0]
          have g1 : (zs[k].2 == zs[j].2) = false := by simpa using h1
          clear h0 h1 hne
          go_upto_region 6 with fail
          have e1 := E1.out
          have lx0 := Later.cell x0 bw
          have lx1 := Later.cell x1 bw
          have ly0 := Later.cell y0 bw
          have ly1 := Later.cell y1 bw
          (refine wp_region_later (by kernel_rfl) (by kernel_rfl) ?_; (repeat (go_big_quiet_step (fail))); refine wpQuiet_nil ?_; intro wq hw'; obtain ⟨⟨wz, nq⟩, hwz⟩ := hw'; have hwz' : wq = wz := hwz; subst hwz'; clear hwz)
          clear e1 lx0 lx1 ly0 ly1
          go_wp2
          go_roundw
          case rel => exact ⟨k + 1, by omega, by omega, by go_num, hN.step nq⟩
          case measure => simp [intOf]; omega
        · have g0 : (zs[k].1 == zs[j].1) = false := by simpa using h0
          clear h0 hne
          go_upto_region 6 with fail
          have e1 := E1.out
          have lx0 := Later.cell x0 bw
          have lx1 := Later.cell x1 bw
          have ly0 := Later.cell y0 bw
          have ly1 := Later.cell y1 bw
          (refine wp_region_later (by kernel_rfl) (by kernel_rfl) ?_; (repeat (go_big_quiet_step (fail))); refine wpQuiet_nil ?_; intro wq hw'; obtain ⟨⟨wz, nq⟩, hwz⟩ := hw'; have hwz' : wq = wz := hwz; subst hwz'; clear hwz)
          clear e1 lx0 lx1 ly0 ly1
          go_wp2
          go_roundw
          case rel => exact ⟨k + 1, by omega, by omega, by go_num, hN.step nq⟩
          case measure => simp [intOf]; omega
      · have ek : k = zs.length := by omega
        subst ek
        go_wp2
        go_ret
        exact ⟨rfl, hN⟩

set_option maxHeartbeats 2000000 in
theorem c_sortedShape (lo hi : Nat) (v : Value) (zs : List (Int × Int)) (w : World) (h : Rd w lo hi 2 v zs.length (zs.flatMap ptCells)) (hn : 0 < zs.length) (hl : zs.length ≤ 1000000) (hd : zs.Nodup) :
    Calls Try.prog 60 #[v] w (GivesRow w 66 2 (sortR zs).length ((sortR zs).flatMap ptCells)) := by
  have HR := Lib.hid h
  have HD := Lib.hid hd
  have HN : Hid (∀ j k (hj : j < (sortR zs).length) (hk : k < (sortR zs).length), k = j + 1 → (sortR zs)[k] ≠ (sortR zs)[j]) := Lib.hid (fun j k hj hk e hne => by
    have := List.pairwise_iff_getElem.1 (sortR_spec zs).1 j k hj hk (by omega)
    rw [hne, ltQ_irr] at this
    cases this)
  clear hd h
  go_enter Try.func60, Try.ntmps60
  go_wp2_with fail
  refine (c_clone_point lo hi v zs _ HR.out hn hl).mono ?_
  rintro e w1 ⟨u, rfl, hO, n1⟩
  have hz := n1.size
  have HO := Lib.hid hO
  clear hO
  go_wp2_with fail
  refine (c_sortFunc w.heap.size u zs _ HO.out.1 hz hn hl).mono ?_
  rintro e w2 ⟨rfl, ys, hp, hs, hown, hb2⟩
  obtain rfl := asc_of_sorted hp hs HD.out
  have HL := Lib.hid hp.length_eq
  have HO2 := Lib.hid (by rw [← hp.length_eq] at hown; exact hown : w2.ownsRow w.heap.size 66 2 u (sortR zs).length ((sortR zs).flatMap ptCells))
  clear hp hs hown
  go_wp2_with fail
  refine (c_compact_asc _ _ u (sortR zs) _ (Own.of HO2.out).rd HN.out).mono ?_
  rintro e w3 ⟨rfl, n3⟩
  go_wp2
  go_ret
  exact ⟨_, rfl, ((Own.of HO2.out).new n3).wide (Nat.le_refl _) n3.size (Nat.le_refl _), New.step (n1.trans hb2) n3⟩

end Go.Proofs.Ythafdlfhkcbjhaa
