/- Contracts of the reference's functions that put points into their order. -/
import Derived.Test.YthafdlfhkcbjhaaOwnPt
import Derived.Test.YthafdlfhkcbjhaaLater
import Derived.Test.YthafdlfhkcbjhaaStep
import Derived.Deep.DeepCutAuto
namespace Go.Proofs.Ythafdlfhkcbjhaa
open Go.RowKit Go.Deep
set_option linter.unusedVariables false
set_option linter.unusedSimpArgs false

/-- whether the search for the place stops in front of place k -/
def stpB (zs : List (Int × Int)) (p : Int × Int) (k : Nat) : Bool := decide (k = 0) || ltQ (zs.getD (k - 1) (0, 0)) p
theorem stp_zero (zs : List (Int × Int)) (p : Int × Int) (k : Nat) (h : k = 0) : stpB zs p k = true := by simp [stpB, h]
theorem stp_suc {zs : List (Int × Int)} {p : Int × Int} {j k : Nat} (hj : j < zs.length) (e : k = j + 1) : stpB zs p k = ltP zs[j].1 zs[j].2 p.1 p.2 := by
  subst e
  simp [stpB, List.getD_eq_getElem?_getD, hj, ltQ]
theorem stp_pos {zs : List (Int × Int)} {p : Int × Int} {k : Nat} (hk : k ≤ zs.length) (h1 : ∀ j (hj : j < zs.length), k ≤ j → ltQ zs[j] p = false) (h2 : stpB zs p k = true) : posR zs p = k := by
  refine posR_of hk h1 fun h => ?_
  have h3 : ¬ k = 0 := by omega
  have h4 : k - 1 < zs.length := by omega
  simpa [stpB, h3, List.getD_eq_getElem?_getD, h4] using h2
/-- whether the point is there -/
def thrB (zs : List (Int × Int)) (p : Int × Int) (k : Nat) : Bool := decide (zs[k]? = some p)

theorem thr_at {zs : List (Int × Int)} {p : Int × Int} {k : Nat} (hk : k < zs.length) : thrB zs p k = (zs[k].1 == p.1 && zs[k].2 == p.2) := by
  unfold thrB
  rw [List.getElem?_eq_getElem hk, Bool.eq_iff_iff]
  simp [Prod.ext_iff]
theorem thr_no {zs : List (Int × Int)} {p : Int × Int} {k : Nat} (hk : zs.length ≤ k) : thrB zs p k = false := by
  unfold thrB
  rw [List.getElem?_eq_none hk]
  simp

/-- the list in which the places from k on have been moved on down to place i -/
def shfL (zs : List (Int × Int)) (q : Int × Int) (i : Nat) : List (Int × Int) := zs.take i ++ q :: zs.drop i
theorem shfL_len {zs : List (Int × Int)} {q : Int × Int} {i : Nat} (h : i ≤ zs.length) : (shfL zs q i).length = zs.length + 1 := by simp [shfL]; omega
theorem shfL_at {zs : List (Int × Int)} {q : Int × Int} {i j : Nat} (h : i ≤ zs.length) (hj : j < i) : (shfL zs q i)[j]'(by rw [shfL_len h]; omega) = zs[j] := by
  simp only [shfL]
  rw [List.getElem_append_left (by simp; omega)]
  simp
theorem shfL_set {zs : List (Int × Int)} {q r : Int × Int} {i : Nat} (h : i ≤ zs.length) : (shfL zs q i).set i r = shfL zs r i := by
  simp only [shfL]
  rw [List.set_append_right _ _ (by simp; omega)]
  simp [show i - min i zs.length = 0 by omega]
theorem shfL_down {zs : List (Int × Int)} {j : Nat} (h : j < zs.length) : shfL zs zs[j] (j + 1) = shfL zs zs[j] j := by
  simp only [shfL]
  rw [List.take_succ_eq_append_getElem h, List.append_assoc]
  congr 1
  rw [List.drop_eq_getElem_cons h]
  rfl
theorem shfL_top (zs : List (Int × Int)) (q : Int × Int) : shfL zs q zs.length = zs ++ [q] := by simp [shfL]
theorem putR_new {zs : List (Int × Int)} {p : Int × Int} {k : Nat} (h : posR zs p = k) (h2 : thrB zs p k = false) : putR zs p = shfL zs p k := by
  unfold putR shfL
  rw [h, if_neg (by simpa [thrB] using h2)]
theorem putR_old {zs : List (Int × Int)} {p : Int × Int} {k : Nat} (h : posR zs p = k) (h2 : thrB zs p k = true) : putR zs p = zs := by
  unfold putR
  rw [h, if_pos (by simpa [thrB] using h2)]

/-- A call hands back the row with one point more. -/
def GivesPut (w : World) (base : Nat) (e : TypeId) (ys : List (Int × Int)) (E : Ending) (w' : World) : Prop :=
  ∃ u, E = .returned u ∧ w'.ownsRow base e 2 u ys.length (ys.flatMap ptCells) ∧ Below base w w'

set_option maxHeartbeats 8000000 in
theorem c_putPoint (base : Nat) (v : Value) (zs : List (Int × Int)) (p : Int × Int) (w : World) (h : w.ownsRow base 66 2 v zs.length (zs.flatMap ptCells)) (hbase : base ≤ w.heap.size) (hl : zs.length ≤ 1000000) :
    Calls Try.prog 52 #[v, .agg #[.int .i64 p.1, .int .i64 p.2]] w (GivesPut w base 66 (putR zs p)) := by
  have HO := Lib.hid h
  obtain ⟨A, c, rfl⟩ := own_slc h
  have hA : 0 < zs.length → ∃ g, A = some ⟨g, 0, none⟩ := fun hn => by
    obtain ⟨g, c', e⟩ := own_form h hn
    exact ⟨g, by cases e; rfl⟩
  have HA := Lib.hid hA
  clear h hA
  have N0 : New w (w.alloc (.cells #[.int .i64 p.1, .int .i64 p.2] 66)) := (New.same w).box _
  have B0 : BoxV (w.alloc (.cells #[.int .i64 p.1, .int .i64 p.2] 66)) w.heap.size [.int .i64 p.1, .int .i64 p.2] := .two (by go_simp) (by go_simp) (by go_simp) (by go_simp) (by simp)
  go_enter Try.func52, Try.ntmps52
  go_wp2
  generalize w.alloc (.cells #[.int .i64 p.1, .int .i64 p.2] 66) = W0 at *
  have hg0 : ∀ g, A = some ⟨g, 0, none⟩ → g < w.heap.size := fun g e => (HO.out.lt g (by subst e; rfl)).2
  have HG := Lib.hid hg0
  clear hg0
  go_loopw [5] (fun i wr => ∃ k : Nat, k ≤ zs.length ∧ i = .int .i64 k ∧ Hid (∀ j (hj : j < zs.length), k ≤ j → ltQ zs[j] p = false) ∧ New W0 wr) (fun i _ => (intOf i).toNat)
  case atStart => exact ⟨zs.length, Nat.le_refl _, rfl, Lib.hid (fun j hj hkj => by omega), New.same _⟩
  case round =>
    obtain ⟨k, hk, rfl, HJ, hN⟩ := hrel
    have B1 := B0.new hN
    have ⟨⟨b0, b1⟩, _, bl⟩ := B1.at2
    go_upto_region 2 with fail
    go_cut [20] (fun s20 wx => s20 = .bool (!stpB zs p k) ∧ New W0 wx)
    case first =>
      by_cases hk0 : k = 0
      · have HS := Lib.hid (stp_zero zs p k hk0)
        have d0 : decide ((0 : Int) < (k : Int)) = false := by simp; omega
        have d1 : decide (0 < k) = false := by simp; omega
        have d2 : ¬ (0 < k) := by omega
        clear hk0
        (refine wp_region_later (by kernel_rfl) (by kernel_rfl) ?_; (repeat (go_big_quiet_step (fail))); refine wpQuiet_nil ?_; intro wq hw'; obtain ⟨⟨wz, nq⟩, hwz⟩ := hw'; have hwz' : wq = wz := hwz; subst hwz'; clear hwz)
        go_wp2_with fail
        go_meet
        exact ⟨by rw [HS.out]; rfl, hN.step nq⟩
      · obtain ⟨j, hj⟩ : ∃ j, k = j + 1 := ⟨k - 1, by omega⟩
        have hjl : j < zs.length := by omega
        have HS := Lib.hid (stp_suc (p := p) hjl hj)
        obtain ⟨g, hAe⟩ := HA.out (by omega)
        subst hAe
        obtain ⟨⟨x0, x1⟩, -, gl, -⟩ := own_at (ownsRow_new (ownsRow_new HO.out N0) hN) j hjl
        have E1 : Hid (IntKind.i64.wrap ((k : Int) - 1) = (j : Int)) := Lib.hid (by rw [IntWalk.i64_in _ (by omega)]; omega)
        have d2 : 0 < k := by omega
        have d1 : decide (0 < k) = true := by simp; omega
        have q0 : (0 : Int) ≤ (j : Int) := by omega
        have q1 : (j : Int) < (zs.length : Int) := by omega
        clear hj
        have e1 := E1.out
        have lx0 := Later.cell x0 gl
        have lx1 := Later.cell x1 gl
        have ly0 := Later.cell b0 bl
        have ly1 := Later.cell b1 bl
        have C1 := Lib.hid (fun w => c_specLess zs[j].1 zs[j].2 p.1 p.2 w)
        (refine wp_region_later (by kernel_rfl) (by kernel_rfl) ?_; (repeat (go_big_quiet_step ((first | (go_at_call 75; exact later_of (C1.out _)))))); refine wpQuiet_nil ?_; intro wq hw'; obtain ⟨⟨wz, nq⟩, hwz⟩ := hw'; have hwz' : wq = wz := hwz; subst hwz'; clear hwz)
        go_wp2_with fail
        go_meet
        exact ⟨by rw [HS.out], hN.step nq⟩
    case rest =>
      obtain ⟨rfl, hN1⟩ := hcut
      clear b0 b1 bl B1 hN
      cases hst : stpB zs p k
      · have hk0 : 0 < k := by
          rcases Nat.eq_zero_or_pos k with e | e
          · rw [stp_zero zs p k e] at hst; cases hst
          · exact e
        have HJ2 : Hid (∀ j (hj : j < zs.length), k - 1 ≤ j → ltQ zs[j] p = false) := Lib.hid (fun j hj hkj => by
          by_cases e : k ≤ j
          · exact HJ.out j hj e
          · have := stp_suc (p := p) hj (show k = j + 1 by omega)
            rw [hst] at this
            exact this.symm)
        clear hst
        go_wp2
        go_roundw
        case rel => exact ⟨k - 1, by omega, by congr 1; omega, HJ2, hN1⟩
        case measure => simp [intOf]; omega
      · have HP := Lib.hid (stp_pos hk HJ.out hst)
        clear hst
        have B1 := B0.new hN1
        have ⟨⟨b0, b1⟩, _, bl⟩ := B1.at2
        go_upto_region 4 with fail
        go_cut [34] (fun s34 wx => s34 = .bool (thrB zs p k) ∧ New W0 wx)
        case first =>
          by_cases hkn : k < zs.length
          · obtain ⟨g, hAe⟩ := HA.out (by omega)
            subst hAe
            obtain ⟨⟨x0, x1⟩, -, gl, -⟩ := own_at (ownsRow_new (ownsRow_new HO.out N0) hN1) k hkn
            have HT := Lib.hid (thr_at (p := p) hkn)
            have q0 : (0 : Int) ≤ (k : Int) := by omega
            have q1 : (k : Int) < (zs.length : Int) := by omega
            have lx0 := Later.cell x0 gl
            have lx1 := Later.cell x1 gl
            have ly0 := Later.cell b0 bl
            have ly1 := Later.cell b1 bl
            by_cases h0 : zs[k].1 = p.1
            · by_cases h1 : zs[k].2 = p.2
              · have HT2 := Lib.hid (show (zs[k].1 == p.1 && zs[k].2 == p.2) = true by simp [h0, h1])
                have g0 : (zs[k].1 == p.1) = true := by simp [h0]
                have g1 : (zs[k].2 == p.2) = true := by simp [h1]
                clear h0 h1
                (refine wp_region_later (by kernel_rfl) (by kernel_rfl) ?_; (repeat (go_big_quiet_step (fail))); refine wpQuiet_nil ?_; intro wq hw'; obtain ⟨⟨wz, nq⟩, hwz⟩ := hw'; have hwz' : wq = wz := hwz; subst hwz'; clear hwz)
                go_wp2_with fail
                go_meet
                exact ⟨by rw [HT.out, HT2.out], hN1.step nq⟩
              · have HT2 := Lib.hid (show (zs[k].1 == p.1 && zs[k].2 == p.2) = false by simp [h1])
                have g0 : (zs[k].1 == p.1) = true := by simp [h0]
                have g1 : (zs[k].2 == p.2) = false := by simpa using h1
                clear h0 h1
                (refine wp_region_later (by kernel_rfl) (by kernel_rfl) ?_; (repeat (go_big_quiet_step (fail))); refine wpQuiet_nil ?_; intro wq hw'; obtain ⟨⟨wz, nq⟩, hwz⟩ := hw'; have hwz' : wq = wz := hwz; subst hwz'; clear hwz)
                go_wp2_with fail
                go_meet
                exact ⟨by rw [HT.out, HT2.out], hN1.step nq⟩
            · have HT2 := Lib.hid (show (zs[k].1 == p.1 && zs[k].2 == p.2) = false by simp [h0])
              have g0 : (zs[k].1 == p.1) = false := by simpa using h0
              clear h0
              (refine wp_region_later (by kernel_rfl) (by kernel_rfl) ?_; (repeat (go_big_quiet_step (fail))); refine wpQuiet_nil ?_; intro wq hw'; obtain ⟨⟨wz, nq⟩, hwz⟩ := hw'; have hwz' : wq = wz := hwz; subst hwz'; clear hwz)
              go_wp2_with fail
              go_meet
              exact ⟨by rw [HT.out, HT2.out], hN1.step nq⟩
          · have HT := Lib.hid (thr_no (p := p) (show zs.length ≤ k by omega))
            have d0 : decide ((k : Int) < (zs.length : Int)) = false := by simp; omega
            have d1 : decide (k < zs.length) = false := by simp; omega
            (refine wp_region_later (by kernel_rfl) (by kernel_rfl) ?_; (repeat (go_big_quiet_step (fail))); refine wpQuiet_nil ?_; intro wq hw'; obtain ⟨⟨wz, nq⟩, hwz⟩ := hw'; have hwz' : wq = wz := hwz; subst hwz'; clear hwz)
            go_wp2_with fail
            go_meet
            exact ⟨by rw [HT.out], hN1.step nq⟩
        case rest =>
          clear b0 b1 bl B1 hN1
          obtain ⟨rfl, hN2⟩ := hcut
          cases ht : thrB zs p k
          · have HQ := Lib.hid (putR_new HP.out ht)
            have HO2 := Lib.hid (ownsRow_new (ownsRow_new HO.out N0) hN2)
            have B2 := B0.new hN2
            have ⟨⟨b0, b1⟩, _, bl⟩ := B2.at2
            have hbz : base ≤ wc.heap.size := by have := N0.size; have := hN2.size; omega
            have hz2 : w.heap.size < wc.heap.size := bl
            have hBW : Below base w wc := (N0.step hN2).mono hbase
            clear ht
            go_wp2_with (at_builtin; refine wpList_app1 rfl _ _ rfl row_point _ base HO2.out rfl [.int .i64 p.1, .int .i64 p.2] rfl rfl (by simp [Value.oneCell']) (by unfold maxLen; omega) (by omega) hbz ?_; intro v1 w1 hown1 hb1 hg1 hv1; obtain ⟨g, c1, rfl⟩ := own_form hown1 (by omega))
            have hne : some w.heap.size ≠ (Value.slice A zs.length c).ownBlock := fun e => by have := (HO.out.lt _ e.symm).2; omega
            have hgP : g ≠ w.heap.size := by
              rcases hv1 with e | e
              · intro e2
                apply hne
                rw [← e, ← e2]; rfl
              · simp [Value.ownBlock] at e; omega
            have B3 := B2.grown hg1 hne
            have HB3 : Below base w w1 := hBW.trans hb1
            have hown2 : w1.ownsRow base 66 2 (.slice (some ⟨g, 0, none⟩) (zs.length + 1) c1) (zs.length + 1) ((shfL zs p zs.length).flatMap ptCells) := by
              rw [shfL_top, List.flatMap_append]; exact hown1
            clear hown1 hb1 hg1 hv1 b0 b1 bl B2 hbz hz2 hBW
            obtain ⟨n1, hn1⟩ : ∃ n1, zs.length + 1 = n1 := ⟨_, rfl⟩
            rw [hn1] at hown2
            simp only [hn1]
            have HN1 := Lib.hid hn1
            have hnl : n1 ≤ 1000001 := by omega
            clear hn1
            go_wp2
            go_loopw [6] (fun i wr => ∃ j : Nat, ∃ q : Int × Int, k ≤ j ∧ j ≤ zs.length ∧ i = .int .i64 j ∧ wr.ownsRow base 66 2 (.slice (some ⟨g, 0, none⟩) n1 c1) n1 ((shfL zs q j).flatMap ptCells) ∧ BoxV wr w.heap.size [.int .i64 p.1, .int .i64 p.2] ∧ Below base w wr) (fun i _ => (intOf i).toNat)
            case atStart => exact ⟨zs.length, p, hk, Nat.le_refl _, by have := HN1.out; go_num, hown2, B3, HB3⟩
            case round =>
              clear hown2 B3 HB3
              obtain ⟨j, q, hkj, hj, rfl, hown, B3, HB3⟩ := hrel
              by_cases hlt : k < j
              · obtain ⟨m, rfl⟩ : ∃ m, j = m + 1 := ⟨j - 1, by omega⟩
                have hml : m < zs.length := by omega
                have t1 : (k : Int) < (m : Int) + 1 := by omega
                have t2 : decide (k < m + 1) = true := by simp; omega
                have t3 : k ≤ m := by omega
                have t4 : m < n1 := by have := HN1.out; omega
                have t5 : m + 1 < n1 := by have := HN1.out; omega
                have t6 : (m : Int) + 1 < (n1 : Int) := by omega
                have t7 : (m : Int) < (n1 : Int) := by omega
                have hsl := shfL_len (q := q) hj
                have hsa := shfL_at (q := q) hj (show m < m + 1 by omega)
                have x0 : wr.cell? ⟨g, m * 2, none⟩ = some (.int .i64 zs[m].1) := by rw [← hsa]; exact (own_at hown m (by rw [hsl]; omega)).1.1
                have x1 : wr.cell? ⟨g, m * 2 + 1, none⟩ = some (.int .i64 zs[m].2) := by rw [← hsa]; exact (own_at hown m (by rw [hsl]; omega)).1.2
                obtain ⟨v0, y0⟩ : ∃ u, wr.cell? ⟨g, (m + 1) * 2, none⟩ = some u := ⟨_, (own_at hown (m + 1) (by rw [hsl]; omega)).1.1⟩
                obtain ⟨v1, y1⟩ : ∃ u, wr.cell? ⟨g, (m + 1) * 2 + 1, none⟩ = some u := ⟨_, (own_at hown (m + 1) (by rw [hsl]; omega)).1.2⟩
                obtain ⟨-, ⟨f0, f1⟩, gl, hgb⟩ := own_at hown (m + 1) (by rw [hsl]; omega)
                have HX := Lib.hid (own_put hown (m + 1) zs[m])
                clear hsl hsa hown
                go_wp2
                go_roundw
                case rel =>
                  refine ⟨m, zs[m], by omega, by omega, by go_num, ?_, (B3.off hgP _).off hgP _, (HB3.setCell hgb _).setCell hgb _⟩
                  have := HX.out
                  rw [shfL_set hj, shfL_down hml] at this
                  exact this
                case measure => simp [intOf]
              · have ej : j = k := by omega
                subst ej
                have t4 : j < n1 := by have := HN1.out; omega
                have t7 : (j : Int) < (n1 : Int) := by omega
                have hsl := shfL_len (q := q) hj
                obtain ⟨v0, y0⟩ : ∃ u, wr.cell? ⟨g, j * 2, none⟩ = some u := ⟨_, (own_at hown j (by rw [hsl]; omega)).1.1⟩
                obtain ⟨v1, y1⟩ : ∃ u, wr.cell? ⟨g, j * 2 + 1, none⟩ = some u := ⟨_, (own_at hown j (by rw [hsl]; omega)).1.2⟩
                obtain ⟨-, ⟨f0, f1⟩, gl, hgb⟩ := own_at hown j (by rw [hsl]; omega)
                have ⟨⟨b0, b1⟩, _, bl⟩ := B3.at2
                have HX := Lib.hid (own_put hown j p)
                have HL := Lib.hid (shfL_len (q := p) hj)
                clear hsl hown
                go_wp2
                go_ret
                refine ⟨_, rfl, ?_, (HB3.setCell hgb _).setCell hgb _⟩
                have := HX.out
                rw [shfL_set hj] at this
                rw [HQ.out, HL.out, HN1.out]
                exact this
          · have HQ := Lib.hid (putR_old HP.out ht)
            have HO2 := Lib.hid (ownsRow_new (ownsRow_new HO.out N0) hN2)
            go_wp2
            go_ret
            exact ⟨_, rfl, by rw [HQ.out]; exact HO2.out, (N0.step hN2).mono hbase⟩

theorem sortR_take {zs : List (Int × Int)} {k : Nat} (hk : k < zs.length) : sortR (zs.take (k + 1)) = putR (sortR (zs.take k)) zs[k] := by rw [List.take_succ_eq_append_getElem hk, sortR_snoc]
theorem sortR_tlen (zs : List (Int × Int)) (k : Nat) : (sortR (zs.take k)).length ≤ k := by
  have := (sortR_spec (zs.take k)).2.2
  simp at this; omega

set_option maxHeartbeats 2000000 in
theorem c_l04Sorted (lo hi : Nat) (v : Value) (zs : List (Int × Int)) (w : World) (h : Rd w lo hi 2 v zs.length (zs.flatMap ptCells)) (hl : zs.length ≤ 1000000) :
    Calls Try.prog 76 #[v] w (GivesRow w 66 2 (sortR zs).length ((sortR zs).flatMap ptCells)) := by
  have HR := Lib.hid h
  obtain ⟨_, hm, hh, A, c, rfl, hrd⟩ := h
  have ha : 0 < zs.length → ∃ b off, A = some ⟨b, off, none⟩ := fun h => by obtain ⟨b, off, e, _⟩ := hrd h; exact ⟨b, off, e⟩
  have HA := Lib.hid ha
  clear hrd ha
  go_enter Try.func76, Try.ntmps76
  go_wp2
  go_loopw [3, 4] (fun v i wr => ∃ k : Nat, k ≤ zs.length ∧ i = .int .i64 k ∧ wr.ownsRow w.heap.size 66 2 v (sortR (zs.take k)).length ((sortR (zs.take k)).flatMap ptCells) ∧ New w wr) (fun _ i _ => zs.length - (intOf i).toNat)
  case atStart => exact ⟨0, Nat.zero_le _, rfl, World.ownsRow_made w #[] 0 (Nat.le_refl _) (by omega) rfl, (New.same w).box _⟩
  case round =>
    obtain ⟨k, hk, rfl, hown, hN⟩ := hrel
    by_cases hlt : k < zs.length
    · obtain ⟨b, off, hAe⟩ := HA.out (by omega)
      subst hAe
      obtain ⟨x0, x1, bw⟩ := rd_pt HR.out hN rfl hlt
      have HS := Lib.hid (sortR_take hlt)
      have HL := Lib.hid (sortR_tlen zs k)
      have hz := hN.size
      have HOW := Lib.hid hown
      clear hown
      go_wp2_with (go_at_call 52; refine (c_putPoint w.heap.size _ (sortR (zs.take k)) zs[k] _ HOW.out hz (by have := HL.out; omega)).mono ?_; rintro e w1 ⟨u, rfl, hown1, hb1⟩)
      go_roundw
      case rel => exact ⟨k + 1, by omega, by go_num, by rw [HS.out]; exact hown1, hN.trans hb1⟩
      case measure => simp [intOf]; omega
    · have ek : k = zs.length := by omega
      subst ek
      rw [List.take_length] at hown
      go_wp2
      go_ret
      exact ⟨_, rfl, Own.of hown, hN⟩

end Go.Proofs.Ythafdlfhkcbjhaa
