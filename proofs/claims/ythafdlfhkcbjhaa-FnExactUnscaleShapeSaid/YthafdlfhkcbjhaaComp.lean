/- slices.Compact at points, with doubles and without; a shape sorted out of any points. -/
import Derived.Test.YthafdlfhkcbjhaaSorted
import Derived.Lib.SliceRun
namespace Go.Proofs.Ythafdlfhkcbjhaa
open Go.RowKit Go.Deep
set_option linter.unusedVariables false
set_option linter.unusedSimpArgs false

/-- of the first j elements those that differ from the one before -/
def ddT (xs : List (Int × Int)) : Nat → List (Int × Int)
  | 0 => []
  | j + 1 => ddT xs j ++ (if h : j < xs.length then (if j = 0 ∨ xs[j - 1]? ≠ some xs[j] then [xs[j]] else []) else [])
theorem ddT_one {xs : List (Int × Int)} (h : 0 < xs.length) : ddT xs 1 = xs.take 1 := by
  rw [ddT, ddT, dif_pos h, if_pos (.inl rfl), List.take_succ_eq_append_getElem h]
  rfl
theorem ddT_keep {xs : List (Int × Int)} {i j : Nat} (hj : j < xs.length) (hi : i < xs.length) (e : j = i + 1) (h : xs[j] ≠ xs[i]) : ddT xs (j + 1) = ddT xs j ++ [xs[j]] := by
  subst e
  have hc : i + 1 = 0 ∨ xs[i + 1 - 1]? ≠ some xs[i + 1] := .inr (by
    show xs[i]? ≠ some xs[i + 1]
    rw [List.getElem?_eq_getElem hi]
    exact fun e => h (Option.some.inj e).symm)
  rw [ddT, dif_pos hj, if_pos hc]
theorem ddT_drop {xs : List (Int × Int)} {i j : Nat} (hj : j < xs.length) (hi : i < xs.length) (e : j = i + 1) (h : xs[j] = xs[i]) : ddT xs (j + 1) = ddT xs j := by
  subst e
  rw [ddT, dif_pos hj, if_neg, List.append_nil]
  rw [Nat.add_sub_cancel, List.getElem?_eq_getElem hi]
  rintro (h0 | h0)
  · omega
  · exact h0 (by rw [h])
theorem ddT_len (xs : List (Int × Int)) : ∀ j, (ddT xs j).length ≤ j
  | 0 => Nat.le_refl _
  | j + 1 => by
    have := ddT_len xs j
    rw [ddT, List.length_append]
    split
    · split
      · simp; omega
      · simp; omega
    · simp; omega
theorem ddT_spec {xs : List (Int × Int)} (hs : xs.Pairwise fun p q => ltQ q p = false) : ∀ j, j ≤ xs.length → Asc (ddT xs j) ∧ (∀ q ∈ ddT xs j, ∃ i, ∃ h : i < xs.length, i < j ∧ xs[i] = q) ∧ ∀ i (h : i < xs.length), i < j → xs[i] ∈ ddT xs j
  | 0, _ => ⟨List.Pairwise.nil, (fun q (hq : q ∈ ([] : List (Int × Int))) => by cases hq), fun i h hi => absurd hi (Nat.not_lt_zero _)⟩
  | j + 1, hj => by
    obtain ⟨a1, a2, a3⟩ := ddT_spec hs j (by omega)
    have hjl : j < xs.length := by omega
    have hp := fun (i k : Nat) (hi : i < xs.length) (hk : k < xs.length) (h : i < k) => List.pairwise_iff_getElem.1 hs i k hi hk h
    by_cases h0 : j = 0
    · subst h0
      rw [ddT_one hjl, List.take_succ_eq_append_getElem hjl]
      refine ⟨by simp [Asc], fun q hq => ⟨0, hjl, by omega, by simp at hq; exact hq.symm⟩, fun i h hi => ?_⟩
      obtain rfl : i = 0 := by omega
      simp
    · obtain ⟨i, hi⟩ : ∃ i, j = i + 1 := ⟨j - 1, by omega⟩
      have hil : i < xs.length := by omega
      by_cases he : xs[j] = xs[i]
      · rw [ddT_drop hjl hil hi he]
        refine ⟨a1, fun q hq => ?_, fun m h hm => ?_⟩
        · obtain ⟨m, h, hm, e⟩ := a2 q hq
          exact ⟨m, h, by omega, e⟩
        · by_cases hmj : m = j
          · subst hmj; rw [he]; exact a3 i hil (by omega)
          · exact a3 m h (by omega)
      · rw [ddT_keep hjl hil hi he]
        refine ⟨List.pairwise_append.2 ⟨a1, List.pairwise_singleton _ _, fun a ha b hb => ?_⟩, fun q hq => ?_, fun m h hm => ?_⟩
        · obtain rfl : b = xs[j] := by simpa using hb
          obtain ⟨m, hm, hmj, rfl⟩ := a2 a ha
          have h1 := hp m j hm hjl hmj
          rcases ltQ_tri xs[m] xs[j] with k | k | k
          · exact k
          · exfalso
            have h2 := hp i j hil hjl (by omega)
            have h3 : ltQ xs[i] xs[m] = false := by
              by_cases hmi : m = i
              · subst hmi; exact ltQ_irr _
              · exact hp m i hm hil (by omega)
            rw [k] at h3
            rcases ltQ_tri xs[i] xs[j] with k2 | k2 | k2
            · rw [h3] at k2; cases k2
            · exact he k2.symm
            · rw [h2] at k2; cases k2
          · rw [h1] at k; cases k
        · rcases List.mem_append.1 hq with hq | hq
          · obtain ⟨m, h, hm, e⟩ := a2 q hq
            exact ⟨m, h, by omega, e⟩
          · exact ⟨j, hjl, by omega, by simp at hq; exact hq.symm⟩
        · by_cases hmj : m = j
          · subst hmj; simp
          · exact List.mem_append_left _ (a3 m h (by omega))
theorem ddT_sort {zs ys : List (Int × Int)} (hp : ys.Perm zs) (hs : ys.Pairwise fun p q => ltQ q p = false) : ddT ys ys.length = sortR zs := by
  obtain ⟨a1, a2, a3⟩ := ddT_spec hs ys.length (Nat.le_refl _)
  refine sortR_eq a1 fun q => ⟨fun h => ?_, fun h => ?_⟩
  · obtain ⟨i, hi, _, rfl⟩ := a2 q h
    exact hp.mem_iff.1 (List.getElem_mem hi)
  · obtain ⟨i, hi, rfl⟩ := List.mem_iff_getElem.1 (hp.mem_iff.2 h)
    exact a3 i hi hi

/-- the row's contents while it is being compacted: k elements are done, j are read -/
def CmpS (xs ys : List (Int × Int)) (k j : Nat) : Prop := ys.length = xs.length ∧ k = (ddT xs j).length ∧ ys.take k = ddT xs j ∧ ∀ i, j ≤ i + 1 → ys[i]? = xs[i]?
theorem CmpS.keep {xs ys : List (Int × Int)} {k i j : Nat} (h : CmpS xs ys k j) (hk : k + 1 ≤ j) (hj : j < xs.length) (hi : i < xs.length) (e : j = i + 1) (hne : xs[j] ≠ xs[i]) : CmpS xs (ys.set k xs[j]) (k + 1) (j + 1) := by
  obtain ⟨h1, h2, h3, h4⟩ := h
  refine ⟨by simpa using h1, by rw [ddT_keep hj hi e hne, List.length_append, ← h2]; rfl, ?_, fun m hm => ?_⟩
  · rw [ddT_keep hj hi e hne, List.take_succ_eq_append_getElem (by simp; omega)]
    rw [List.take_set_of_le (Nat.le_refl _), h3]
    simp
  · rw [List.getElem?_set_ne (by omega)]; exact h4 m (by omega)
theorem CmpS.drop {xs ys : List (Int × Int)} {k i j : Nat} (h : CmpS xs ys k j) (hj : j < xs.length) (hi : i < xs.length) (e : j = i + 1) (he : xs[j] = xs[i]) : CmpS xs ys k (j + 1) := by
  obtain ⟨h1, h2, h3, h4⟩ := h
  exact ⟨h1, by rw [ddT_drop hj hi e he]; exact h2, by rw [ddT_drop hj hi e he]; exact h3, fun m hm => h4 m (by omega)⟩
theorem flat_set : ∀ (ys : List (Int × Int)) (k : Nat) (p : Int × Int), ((ys.flatMap ptCells).set (k * 2) (.int .i64 p.1)).set (k * 2 + 1) (.int .i64 p.2) = (ys.set k p).flatMap ptCells
  | [], k, p => by simp
  | y :: r, 0, p => by simp [ptCells]
  | y :: r, k + 1, p => by
    have ih := flat_set r k p
    rw [show (k + 1) * 2 = k * 2 + 1 + 1 by omega]
    simp only [List.flatMap_cons, ptCells, List.cons_append, List.nil_append, List.set_cons_succ]
    rw [ih]
abbrev PtRow (w : World) (base g n c : Nat) (ys : List (Int × Int)) : Prop := w.ownsRow base 66 2 (.slice (some ⟨g, 0, none⟩) n c) n (ys.flatMap ptCells)
theorem PtRow.put {w : World} {base g n c : Nat} {ys : List (Int × Int)} (h : PtRow w base g n c ys) (k : Nat) (p : Int × Int) : PtRow ((w.setCell ⟨g, k * 2, none⟩ (.int .i64 p.1)).setCell ⟨g, k * 2 + 1, none⟩ (.int .i64 p.2)) base g n c (ys.set k p) := by
  have h1 := (h.stored (k * 2) (.int .i64 p.1)).1
  have h2 := (h1.stored (k * 2 + 1) (.int .i64 p.2)).1
  rw [flat_set] at h2
  exact h2
theorem PtRow.at_ {w : World} {base g n c : Nat} {ys : List (Int × Int)} (h : PtRow w base g n c ys) {i : Nat} {p : Int × Int} (hi : i < n) (hp : ys[i]? = some p) : w.cell? ⟨g, i * 2, none⟩ = some (.int .i64 p.1) ∧ w.cell? ⟨g, i * 2 + 1, none⟩ = some (.int .i64 p.2) := by
  obtain ⟨hl, rfl⟩ := List.getElem?_eq_some_iff.1 hp
  exact ⟨by rw [h.cellAt _ (by omega), pts_get0 hl], by rw [h.cellAt _ (by omega), pts_get1 hl]⟩
theorem row_pre {w : World} {base g n c C m : Nat} {e : TypeId} {xs : List Value} (h : w.ownsRow base e C (.slice (some ⟨g, 0, none⟩) n c) n xs) (hm : m ≤ n) : w.ownsRow base e C (.slice (some ⟨g, 0, none⟩) m c) m (xs.take (m * C)) := by
  obtain ⟨hl, h2⟩ := h
  have hmC := Nat.mul_le_mul_right C hm
  rcases h2 with ⟨h0, _⟩ | ⟨g', cap', cur, hv, hg, hh, hn, hcap, hsz, htake⟩
  · cases h0
  · cases hv
    refine ⟨by rw [List.length_take]; omega, .inr ⟨g, c, cur, rfl, hg, hh, by omega, hcap, hsz, ?_⟩⟩
    rw [← htake, List.take_take, Nat.min_eq_left hmC]
theorem row_cells {base g n c C : Nat} {e : TypeId} : ∀ (l : List Value) (o : Nat) (w : World) (xs : List Value), w.ownsRow base e C (.slice (some ⟨g, 0, none⟩) n c) n xs → ∃ xs', (w.setCells g o l).ownsRow base e C (.slice (some ⟨g, 0, none⟩) n c) n xs' ∧ ∀ m, m ≤ o → xs'.take m = xs.take m
  | [], o, w, xs, h => ⟨xs, h, fun _ _ => rfl⟩
  | v :: r, o, w, xs, h => by
    obtain ⟨xs', h1, h2⟩ := row_cells r (o + 1) _ _ (h.stored o v).1
    exact ⟨xs', h1, fun m hm => by rw [h2 m (by omega), List.take_set_of_le hm]⟩
theorem below_cells {B : Nat} {a : World} {g : Nat} (hg : B ≤ g) : ∀ (l : List Value) (o : Nat) (w : World), Below B a w → Below B a (w.setCells g o l)
  | [], _, _, h => h
  | v :: r, o, w, h => below_cells hg r (o + 1) _ (h.setCell (p := ⟨g, o, none⟩) hg v)
/-- clear of a row of points -/
theorem run_clear_pts {P : Program} (w : World) (t e ty : TypeId) (ht : P.underlying t = some (.slice e)) (hv : ∀ w, (zeroValue e).run P w = .ok (.agg #[.int .i64 0, .int .i64 0]) w) (g o n c : Nat) (hn : 0 < n)
    (hc : ∀ j, j < n * 2 → (w.cell? ⟨g, o + j, none⟩).isSome = true) (hf : ∀ j, j < n * 2 → w.frozen? ⟨g, o + j, none⟩ = false) :
    (Builtin.clear_ #[t] ty #[.slice (some ⟨g, o, none⟩) n c]).run P w = .ok (.tuple #[]) (w.setCells g o (List.replicate (n * 2) (.int .i64 0))) := by
  have hzc : (Builtin.zeroCells (Value.agg #[.int .i64 0, .int .i64 0]).cells n).toList = List.replicate (n * 2) (.int .i64 0) := by
    simp only [Builtin.zeroCells, Value.cells]
    apply List.ext_getElem
    · simp
    · intro i h1 h2
      have : i % 2 = 0 ∨ i % 2 = 1 := by omega
      rcases this with h | h <;> simp [h]
  have hst := run_storeCells_cells (P := P) g o (List.replicate (n * 2) (.int .i64 0)) 0 w (by simpa using hc) (by simpa using hf) (by intro v hv'; rw [List.eq_of_mem_replicate hv']; rfl)
  simp only [Nat.add_zero] at hst
  obtain ⟨m, rfl⟩ : ∃ m, n = m + 1 := ⟨n - 1, by omega⟩
  simp [Builtin.clear_, run_underlying ht, hv, hzc, hst]
theorem wpList_clear {P : Program} {ops : Array Oper} {rest : List Oper} {o : Oper} {a : Act} {Q : Exit → Act → World → Prop} (hgd : o.guard = none) (s : Operand) {t : TypeId} (ho : o.op = .call { callee := .builtin .clear, args := #[s], argTypes := #[t] }) (w w' : World) {v : Value} (hs : a.eval s = v)
    (hrun : ∀ ty, (Builtin.clear_ #[t] ty #[v]).run P w = .ok (.tuple #[]) w') (h : wpList P ops Q rest (a.put o.dst (.tuple #[])) w') : wpList P ops Q (o :: rest) a w := by
  refine wpList_plain hgd fun _ hK => ?_
  unfold Oper.wp execOp
  simp only [ho, resolve, invoke, builtin, Sem.run_bind, Sem.run_pure, Result.andThen_ok, List.map_toArray, List.map_cons, List.map_nil, hs, hrun]
  exact hK _ _ h
theorem zeroPt (w : World) : (zeroValue 66).run Try.prog w = .ok (.agg #[.int .i64 0, .int .i64 0]) w := Try.zeroValue66 w
set_option maxRecDepth 20000 in
set_option maxHeartbeats 8000000 in
theorem c_compact (base g n c : Nat) (xs : List (Int × Int)) (w : World) (h : PtRow w base g n c xs) (hn : 0 < n) (hl : xs.length = n) (hm : n ≤ 1000000) (hb : base ≤ w.heap.size) :
    Calls Try.prog 81 #[.slice (some ⟨g, 0, none⟩) n c] w fun e w' => ∃ m, e = .returned (.slice (some ⟨g, 0, none⟩) m c) ∧ m = (ddT xs n).length ∧ PtRow w' base g m c (ddT xs n) ∧ Below base w w' := by
  have hgl := h.lt _ rfl
  have hcap : n ≤ c := by
    rcases h.2 with ⟨h0, _⟩ | ⟨_, _, _, hv, _, _, hh, _⟩
    · cases h0
    · cases hv; exact hh
  have hcm : c ≤ maxLen := by
    rcases h.2 with ⟨h0, _⟩ | ⟨_, _, _, hv, _, _, _, hh, _⟩
    · cases h0
    · cases hv; exact hh
  unfold maxLen at hcm
  have HX := Lib.hid hl
  by_cases hl2 : n < 2
  · have e1 : n = 1 := by omega
    have HD := Lib.hid (show ddT xs n = xs by rw [e1, ddT_one (by omega), List.take_of_length_le (by omega)])
    clear e1
    go_enter Try.func81, Try.ntmps81
    go_wp2
    go_ret
    rw [HD.out]
    exact ⟨n, rfl, HX.out.symm, h, Below.refl _ _⟩
  · have HR := Lib.hid h
    clear h
    go_enter Try.func81, Try.ntmps81
    go_wp2
    go_loopw [3] (fun i wr => ∃ k : Nat, 1 ≤ k ∧ k ≤ n ∧ i = .int .i64 k ∧ Hid (ddT xs k = xs.take k) ∧ New w wr) (fun i _ => n - (intOf i).toNat)
    case atStart => exact ⟨1, Nat.le_refl _, by omega, rfl, Lib.hid (ddT_one (by omega)), New.same _⟩
    case round =>
      obtain ⟨k, hk1, hk, rfl, HT, hN⟩ := hrel
      by_cases hlt : k < n
      · obtain ⟨j, hj⟩ : ∃ j, k = j + 1 := ⟨k - 1, by omega⟩
        have HJ := Lib.hid hj
        have hjl : j < n := by omega
        have hkx : k < xs.length := by omega
        have hjx : j < xs.length := by omega
        have RW : PtRow wr base g n c xs := ((Own.of HR.out).new hN).1
        have hgr := RW.lt _ rfl
        obtain ⟨x0, x1⟩ := RW.at_ hlt (List.getElem?_eq_getElem hkx)
        obtain ⟨y0, y1⟩ := RW.at_ hjl (List.getElem?_eq_getElem hjx)
        have HW := Lib.hid RW
        clear RW
        have E1 : Hid (IntKind.i64.wrap ((k : Int) - 1) = (j : Int)) := Lib.hid (by rw [IntWalk.i64_in _ (by omega)]; omega)
        have p0 : (0 : Int) ≤ (k : Int) := by omega
        have p1 : (k : Int) < (n : Int) := by omega
        have q0 : (0 : Int) ≤ (j : Int) := by omega
        have q1 : (j : Int) < (n : Int) := by omega
        clear hj
        by_cases he : xs[k] = xs[j]
        · have CS := Lib.hid (show CmpS xs xs k (k + 1) from (show CmpS xs xs k k from ⟨rfl, by rw [HT.out, List.length_take]; omega, HT.out.symm, fun i _ => rfl⟩).drop hkx hjx HJ.out he)
          have g0 : (xs[k].1 == xs[j].1) = true := by simp [he]
          have g1 : (xs[k].2 == xs[j].2) = true := by simp [he]
          clear he
          go_upto_region 6 with fail
          have e1 := E1.out
          have lx0 := Later.cell x0 hgr.2
          have lx1 := Later.cell x1 hgr.2
          have ly0 := Later.cell y0 hgr.2
          have ly1 := Later.cell y1 hgr.2
          (refine wp_region_later (by kernel_rfl) (by kernel_rfl) ?_; (repeat (go_big_quiet_step (fail))); refine wpQuiet_nil ?_; intro wq hw'; obtain ⟨⟨wz, nq⟩, hwz⟩ := hw'; have hwz' : wq = wz := hwz; subst hwz'; clear hwz)
          clear e1 lx0 lx1 ly0 ly1 x0 x1 y0 y1
          have HQ : Hid (PtRow wq base g n c xs) := Lib.hid ((Own.of HW.out).new nq).1
          have hBq : Below base w wq := (hN.step nq).mono hb
          go_wp2_with fail
          go_loopw [3, 5] (fun i r wr => ∃ (a m : Nat) (ys : List (Int × Int)), 1 ≤ m ∧ k + m ≤ n ∧ i = .int .i64 a ∧ r = .int .i64 m ∧ Hid (CmpS xs ys a (k + m)) ∧ a < k + m ∧ Hid (PtRow wr base g n c ys) ∧ Below base w wr ∧ g < wr.heap.size) (fun _ r _ => n - k - (intOf r).toNat)
          case atStart => exact ⟨k, 1, xs, Nat.le_refl _, by omega, rfl, rfl, CS, by omega, HQ, hBq, Nat.lt_of_lt_of_le hgr.2 nq.size⟩
          case round =>
            obtain ⟨a, m, ys, hm1, hmn, rfl, rfl, HC, ham, HP, hBw, hgw⟩ := hrel
            by_cases hml : k + m < n
            · obtain ⟨i, hi⟩ : ∃ i, m = i + 1 := ⟨m - 1, by omega⟩
              have HI := Lib.hid (show k + m = (k + i) + 1 by omega)
              have hkm : k + m < xs.length := by omega
              have hki : k + i < xs.length := by omega
              have P0 := HP.out.at_ hml (by rw [HC.out.2.2.2 (k + m) (by omega), List.getElem?_eq_getElem hkm])
              have P1 := HP.out.at_ (show k + i < n by omega) (by rw [HC.out.2.2.2 (k + i) (by omega), List.getElem?_eq_getElem hki])
              rw [show (k + m) * 2 = k * 2 + m * 2 by omega] at P0
              rw [show (k + i) * 2 = k * 2 + i * 2 by omega] at P1
              obtain ⟨u0, u1⟩ := P0
              obtain ⟨v0, v1⟩ := P1
              have E2 : Hid (IntKind.i64.wrap ((m : Int) - 1) = (i : Int)) := Lib.hid (by rw [IntWalk.i64_in _ (by omega)]; omega)
              have r0 : (0 : Int) ≤ (m : Int) := by omega
              have r1 : (m : Int) < ((n - k : Nat) : Int) := by omega
              have r2 : (0 : Int) ≤ (i : Int) := by omega
              have r3 : (i : Int) < ((n - k : Nat) : Int) := by omega
              have r4 : m < n - k := by omega
              have r5 : i < n - k := by omega
              clear hi
              have lu0 := Later.cell u0 hgw
              have lu1 := Later.cell u1 hgw
              have lv0 := Later.cell v0 hgw
              have lv1 := Later.cell v1 hgw
              by_cases he : xs[k + m] = xs[k + i]
              · have CS2 := Lib.hid (HC.out.drop hkm hki HI.out he)
                have g2 : (xs[k + m].1 == xs[k + i].1) = true := by simp [he]
                have g3 : (xs[k + m].2 == xs[k + i].2) = true := by simp [he]
                have g4 : (xs[k + m].1 != xs[k + i].1) = false := by simp [he]
                have g5 : (xs[k + m].2 != xs[k + i].2) = false := by simp [he]
                clear he u0 u1 v0 v1
                go_upto_region 11 with fail
                have e2 := E2.out
                (refine wp_region_later (by kernel_rfl) (by kernel_rfl) ?_; (repeat (go_big_quiet_step (fail))); refine wpQuiet_nil ?_; intro wq hw'; obtain ⟨⟨wz, nq⟩, hwz⟩ := hw'; have hwz' : wq = wz := hwz; subst hwz'; clear hwz)
                clear e2 lu0 lu1 lv0 lv1
                go_wp2
                go_roundw
                case rel => exact ⟨a, m + 1, ys, by omega, by omega, rfl, by go_num, CS2, by omega, Lib.hid ((Own.of HP.out).new nq).1, hBw.trans (nq.mono (Nat.le_trans hb hBw.size)), Nat.lt_of_lt_of_le hgw nq.size⟩
                case measure => simp [intOf]; omega
              · have CS2 := Lib.hid (HC.out.keep (by omega) hkm hki HI.out he)
                have hya : ys.length = n := by have := HC.out.1; omega
                have han : a < n := by omega
                have hca : a < ys.length := by omega
                have hBs := Nat.le_trans hb hBw.size
                by_cases h0 : xs[k + m].1 = xs[k + i].1
                · have h1 : xs[k + m].2 ≠ xs[k + i].2 := fun h1 => he (Prod.ext h0 h1)
                  have g2 : (xs[k + m].1 == xs[k + i].1) = true := by simpa using h0
                  have g4 : (xs[k + m].1 != xs[k + i].1) = false := by simpa using h0
                  have g3 : (xs[k + m].2 == xs[k + i].2) = false := by simpa using h1
                  have g5 : (xs[k + m].2 != xs[k + i].2) = true := by simpa using h1
                  clear h0 h1 he u0 u1 v0 v1
                  go_upto_region 11 with fail
                  have e2 := E2.out
                  (refine wp_region_later (by kernel_rfl) (by kernel_rfl) ?_; (repeat (go_big_quiet_step (fail))); refine wpQuiet_nil ?_; intro wq hw'; obtain ⟨⟨wz, nq⟩, hwz⟩ := hw'; have hwz' : wq = wz := hwz; subst hwz'; clear hwz)
                  have m0 := lu0 ⟨wq, nq⟩
                  have m1 := lu1 ⟨wq, nq⟩
                  dsimp only at m0 m1
                  clear e2 lu0 lu1 lv0 lv1
                  have HPq : Hid (PtRow wq base g n c ys) := Lib.hid ((Own.of HP.out).new nq).1
                  obtain ⟨z0, z1⟩ := HPq.out.at_ han (List.getElem?_eq_getElem hca)
                  have f0 := HPq.out.frozenAt (a * 2)
                  have f1 := HPq.out.frozenAt (a * 2 + 1)
                  have hP2 := Lib.hid (HPq.out.put a xs[k + m])
                  have hB2 := Lib.hid (((hBw.trans (nq.mono hBs)).setCell (p := ⟨g, a * 2, none⟩) hgl.1 (.int .i64 xs[k + m].1)).setCell (p := ⟨g, a * 2 + 1, none⟩) hgl.1 (.int .i64 xs[k + m].2))
                  have hgq : g < wq.heap.size := Nat.lt_of_lt_of_le hgw nq.size
                  go_wp2
                  go_roundw
                  case rel => exact ⟨a + 1, m + 1, ys.set a xs[k + m], by omega, by omega, by go_num, by go_num, CS2, by omega, hP2, hB2.out, by simpa [World.setCell] using hgq⟩
                  case measure => simp [intOf]; omega
                · have g2 : (xs[k + m].1 == xs[k + i].1) = false := by simpa using h0
                  have g4 : (xs[k + m].1 != xs[k + i].1) = true := by simpa using h0
                  clear h0 he u0 u1 v0 v1
                  go_upto_region 11 with fail
                  have e2 := E2.out
                  (refine wp_region_later (by kernel_rfl) (by kernel_rfl) ?_; (repeat (go_big_quiet_step (fail))); refine wpQuiet_nil ?_; intro wq hw'; obtain ⟨⟨wz, nq⟩, hwz⟩ := hw'; have hwz' : wq = wz := hwz; subst hwz'; clear hwz)
                  have m0 := lu0 ⟨wq, nq⟩
                  have m1 := lu1 ⟨wq, nq⟩
                  dsimp only at m0 m1
                  clear e2 lu0 lu1 lv0 lv1
                  have HPq : Hid (PtRow wq base g n c ys) := Lib.hid ((Own.of HP.out).new nq).1
                  obtain ⟨z0, z1⟩ := HPq.out.at_ han (List.getElem?_eq_getElem hca)
                  have f0 := HPq.out.frozenAt (a * 2)
                  have f1 := HPq.out.frozenAt (a * 2 + 1)
                  have hP2 := Lib.hid (HPq.out.put a xs[k + m])
                  have hB2 := Lib.hid (((hBw.trans (nq.mono hBs)).setCell (p := ⟨g, a * 2, none⟩) hgl.1 (.int .i64 xs[k + m].1)).setCell (p := ⟨g, a * 2 + 1, none⟩) hgl.1 (.int .i64 xs[k + m].2))
                  have hgq : g < wq.heap.size := Nat.lt_of_lt_of_le hgw nq.size
                  go_wp2
                  go_roundw
                  case rel => exact ⟨a + 1, m + 1, ys.set a xs[k + m], by omega, by omega, by go_num, by go_num, CS2, by omega, hP2, hB2.out, by simpa [World.setCell] using hgq⟩
                  case measure => simp [intOf]; omega
            · have hml' : k + m = n := by omega
              have hya : ys.length = n := by have := HC.out.1; omega
              have han : a < n := by omega
              have HD := Lib.hid (show ddT xs n = ys.take a by rw [← hml', HC.out.2.2.1])
              have HE := Lib.hid (show a = (ddT xs n).length by rw [← hml']; exact HC.out.2.1)
              have s0 : (0 : Int) ≤ (a : Int) := by omega
              have s1 : (a : Int) ≤ (n : Int) := by omega
              have s2 : a ≤ n := by omega
              have s3 : a ≤ c := by omega
              have s4 : (a : Int) ≤ (c : Int) := by omega
              have hk0 : k < n := hlt
              have hcc : ∀ j, j < (n - a) * 2 → (wr.cell? ⟨g, a * 2 + j, none⟩).isSome = true := fun j hj => by
                have hj2 : a * 2 + j < n * 2 := by omega
                rw [HP.out.cellAt _ hj2, List.getElem?_eq_getElem (by rw [pts_len, hya]; exact hj2)]; rfl
              have HRC := Lib.hid (fun ty => run_clear_pts wr 46 66 ty Try.underlying46 zeroPt g (a * 2) (n - a) (c - a) (by omega) hcc (fun j hj => HP.out.frozenAt _))
              clear hcc
              obtain ⟨xs', hx1, hx2⟩ := row_cells (List.replicate ((n - a) * 2) (.int .i64 0)) (a * 2) wr _ HP.out
              have hx3 := row_pre hx1 (show a ≤ n by omega)
              rw [hx2 (a * 2) (Nat.le_refl _)] at hx3
              have HF := Lib.hid (show PtRow (wr.setCells g (a * 2) (List.replicate ((n - a) * 2) (.int .i64 0))) base g a c (ddT xs n) by
                unfold PtRow
                rw [HD.out]
                have : (ys.take a).flatMap ptCells = (ys.flatMap ptCells).take (a * 2) := by
                  rw [show ys.flatMap ptCells = (ys.take a).flatMap ptCells ++ (ys.drop a).flatMap ptCells by rw [← List.flatMap_append, List.take_append_drop], List.take_left' (by rw [pts_len, List.length_take]; omega)]
                rw [this]
                exact hx3)
              have HB2 := Lib.hid (below_cells hgl.1 (List.replicate ((n - a) * 2) (.int .i64 0)) (a * 2) wr hBw)
              clear hx1 hx2 hx3 hml'
              have hrun := HRC.out 0
              go_wp2
              go_ret
              exact ⟨a, rfl, HE.out, HF.out, HB2.out⟩
        · have HT2 := Lib.hid (show ddT xs (k + 1) = xs.take (k + 1) by rw [ddT_keep hkx hjx HJ.out he, HT.out, List.take_succ_eq_append_getElem hkx])
          by_cases h0 : xs[k].1 = xs[j].1
          · have h1 : xs[k].2 ≠ xs[j].2 := fun h1 => he (Prod.ext h0 h1)
            have g0 : (xs[k].1 == xs[j].1) = true := by simp [h0]
            have g1 : (xs[k].2 == xs[j].2) = false := by simpa using h1
            clear h0 h1 he
            go_upto_region 6 with fail
            have e1 := E1.out
            have lx0 := Later.cell x0 hgr.2
            have lx1 := Later.cell x1 hgr.2
            have ly0 := Later.cell y0 hgr.2
            have ly1 := Later.cell y1 hgr.2
            (refine wp_region_later (by kernel_rfl) (by kernel_rfl) ?_; (repeat (go_big_quiet_step (fail))); refine wpQuiet_nil ?_; intro wq hw'; obtain ⟨⟨wz, nq⟩, hwz⟩ := hw'; have hwz' : wq = wz := hwz; subst hwz'; clear hwz)
            clear e1 lx0 lx1 ly0 ly1 x0 x1 y0 y1
            go_wp2
            go_roundw
            case rel => exact ⟨k + 1, by omega, by omega, by go_num, HT2, hN.step nq⟩
            case measure => simp [intOf]; omega
          · have g0 : (xs[k].1 == xs[j].1) = false := by simpa using h0
            clear h0 he
            go_upto_region 6 with fail
            have e1 := E1.out
            have lx0 := Later.cell x0 hgr.2
            have lx1 := Later.cell x1 hgr.2
            have ly0 := Later.cell y0 hgr.2
            have ly1 := Later.cell y1 hgr.2
            (refine wp_region_later (by kernel_rfl) (by kernel_rfl) ?_; (repeat (go_big_quiet_step (fail))); refine wpQuiet_nil ?_; intro wq hw'; obtain ⟨⟨wz, nq⟩, hwz⟩ := hw'; have hwz' : wq = wz := hwz; subst hwz'; clear hwz)
            clear e1 lx0 lx1 ly0 ly1 x0 x1 y0 y1
            go_wp2
            go_roundw
            case rel => exact ⟨k + 1, by omega, by omega, by go_num, HT2, hN.step nq⟩
            case measure => simp [intOf]; omega
      · have ek : k = n := by omega
        have HD := Lib.hid (show ddT xs n = xs by rw [← ek, HT.out, List.take_of_length_le (by omega)])
        subst ek
        go_wp2
        go_ret
        rw [HD.out]
        exact ⟨_, rfl, HX.out.symm, ((Own.of HR.out).new hN).1, hN.mono hb⟩

set_option maxHeartbeats 2000000 in
theorem c_sortedShapeD (lo hi : Nat) (v : Value) (zs : List (Int × Int)) (w : World) (h : Rd w lo hi 2 v zs.length (zs.flatMap ptCells)) (hn : 0 < zs.length) (hl : zs.length ≤ 1000000) :
    Calls Try.prog 60 #[v] w (GivesRow w 66 2 (sortR zs).length ((sortR zs).flatMap ptCells)) := by
  have HR := Lib.hid h
  clear h
  go_enter Try.func60, Try.ntmps60
  go_wp2_with fail
  refine (c_clone_point lo hi v zs _ HR.out hn hl).mono ?_
  rintro e w1 ⟨u, rfl, hO, n1⟩
  have hz := n1.size
  have HO := Lib.hid hO
  clear hO
  go_wp2_with fail
  refine (c_sortFunc w.heap.size u zs _ HO.out.1 hz hn hl).mono ?_
  rintro e w2 ⟨rfl, ys, hp, hs, hown, hb2⟩
  have HQ := Lib.hid (ddT_sort hp hs)
  have HL := Lib.hid hp.length_eq
  obtain ⟨g, c, hu⟩ : ∃ g c, u = .slice (some ⟨g, 0, none⟩) zs.length c := by
    rcases hown.2 with ⟨_, h0⟩ | ⟨g, c, cur, hv, _⟩
    · omega
    · exact ⟨g, c, hv⟩
  subst hu
  have HP : Hid (PtRow w2 w.heap.size g zs.length c ys) := Lib.hid hown
  have hz2 : w.heap.size ≤ w2.heap.size := Nat.le_trans hz hb2.size
  clear hp hs hown
  go_wp2_with fail
  refine (c_compact w.heap.size g zs.length c ys _ HP.out hn HL.out hl hz2).mono ?_
  rintro e w3 ⟨m, rfl, hm, hrow, hb3⟩
  rw [← HL.out, HQ.out] at hm hrow
  have HF := Lib.hid (Own.of hrow)
  have HM := Lib.hid hm
  have HB := Lib.hid ((n1.trans hb2).trans hb3)
  clear hm hrow
  go_wp2
  go_ret
  rw [← HM.out]
  exact ⟨_, rfl, HF.out, HB.out⟩
end Go.Proofs.Ythafdlfhkcbjhaa
