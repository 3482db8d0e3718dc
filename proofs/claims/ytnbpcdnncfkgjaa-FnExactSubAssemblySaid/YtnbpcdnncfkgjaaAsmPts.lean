/- Contracts of the functions that hand back an assembly's points. -/
import Derived.Test.YtnbpcdnncfkgjaaForm
import Derived.Test.YtnbpcdnncfkgjaaHome
namespace Go.Proofs.Ytnbpcdnncfkgjaa
open Go.RowKit Go.Deep
set_option linter.unusedVariables false
set_option linter.unusedSimpArgs false

def fstT (zs : List ((Int × Int) × Int)) (k : Nat) : List (Int × Int) := (zs.take k).map Prod.fst
theorem fstT_all (zs : List ((Int × Int) × Int)) : fstT zs zs.length = zs.map Prod.fst := by simp [fstT]
theorem fstT_zero (zs : List ((Int × Int) × Int)) : (fstT zs 0).flatMap ptCells = [] := by simp only [fstT, List.take_zero, List.map_nil, List.flatMap_nil]
theorem fstT_step {w' : World} {base : Nat} {e : TypeId} {v : Value} {zs : List ((Int × Int) × Int)} {k : Nat} (hk : k < zs.length)
    (h : w'.ownsRow base e 2 v (k + 1) ((fstT zs k).flatMap ptCells ++ [.int .i64 zs[k].1.1, .int .i64 zs[k].1.2])) : w'.ownsRow base e 2 v (k + 1) ((fstT zs (k + 1)).flatMap ptCells) := by
  have : fstT zs (k + 1) = fstT zs k ++ [zs[k].1] := by
    unfold fstT
    rw [List.take_succ_eq_append_getElem hk, List.map_append]
    rfl
  rw [this, List.flatMap_append]
  simpa [ptCells] using h
/-- the points of an assembly that is of the form, none of another -/
def pofL (zs : List ((Int × Int) × Int)) : List (Int × Int) := if frmB zs then zs.map Prod.fst else []
theorem pofL_len (zs : List ((Int × Int) × Int)) : (pofL zs).length ≤ 500 := by
  unfold pofL
  split
  · rename_i h
    simp [frmB] at h
    simpa using h.1
  · simp

set_option maxHeartbeats 4000000 in
theorem c_l03Points (b0 lo hi : Nat) (v : Value) (zs : List ((Int × Int) × Int)) (w : World) (B0 : BoxV w b0 [v]) (h : Rd w lo hi 3 v zs.length (zs.flatMap plCells)) (hn : zs.length ≤ 1048576) :
    Calls Try.prog 44 #[.pointer (some ⟨b0, 0, none⟩)] w (GivesRow w 33 2 zs.length ((zs.map Prod.fst).flatMap ptCells)) := by
  have HR := Lib.hid h
  obtain ⟨_, hm, hh, A, c, rfl, hrd⟩ := h
  have ha : 0 < zs.length → ∃ b off, A = some ⟨b, off, none⟩ := fun h => by obtain ⟨b, off, e, _⟩ := hrd h; exact ⟨b, off, e⟩
  have HA := Lib.hid ha
  clear hrd ha hh
  have HB : Hid (BoxV w b0 [.slice A zs.length c]) := Lib.hid B0
  clear B0
  go_enter Try.func44, Try.ntmps44
  go_wp2
  go_loopw [3, 4] (fun v i wr => ∃ k : Nat, k ≤ zs.length ∧ i = .int .i64 k ∧ wr.ownsRow w.heap.size 33 2 v k ((fstT zs k).flatMap ptCells) ∧ New w wr) (fun _ i _ => zs.length - (intOf i).toNat)
  case atStart => exact ⟨0, Nat.zero_le _, rfl, by rw [fstT_zero]; exact World.ownsRow_made w #[] 0 (Nat.le_refl _) (by omega) rfl, (New.same _).box _⟩
  case round =>
    obtain ⟨k, hk, rfl, hown, hN⟩ := hrel
    have ⟨bx0, _, bl0⟩ := (HB.out.new hN).at1
    by_cases hlt : k < zs.length
    · obtain ⟨b, off, hAe⟩ := HA.out (by omega)
      subst hAe
      have p0 : (0 : Int) ≤ (k : Int) := by omega
      have p1 : (k : Int) < (zs.length : Int) := by omega
      obtain ⟨⟨x0, x1, x2⟩, bw⟩ := rd_pl HR.out hN rfl hlt
      have hz2 := hN.size
      go_wp2_with (at_builtin; refine wpList_app1 rfl _ _ rfl row_point _ w.heap.size hown rfl [.int .i64 zs[k].1.1, .int .i64 zs[k].1.2] rfl rfl (by simp [Value.oneCell']) (by unfold maxLen; omega) (by omega) hz2 ?_; intro v1 w3 hown1 hb3 _ _)
      have hN1 := hN.trans hb3
      clear hb3 x0 x1 x2 bw bx0 bl0
      go_roundw
      case rel => exact ⟨k + 1, by omega, by go_num, fstT_step hlt hown1, hN1⟩
      case measure => simp [intOf]; omega
    · have ek : k = zs.length := by omega
      subst ek
      go_wp2
      go_ret
      rw [fstT_all] at hown
      exact ⟨_, rfl, Own.of hown, hN⟩

set_option maxHeartbeats 4000000 in
theorem c_points (lo hi : Nat) (v : Value) (zs : List ((Int × Int) × Int)) (w : World) (h : Rd w lo hi 3 v zs.length (zs.flatMap plCells)) (hn : zs.length ≤ 1048576) :
    Calls Try.prog 47 #[.agg #[v]] w (GivesRow w 33 2 zs.length ((zs.map Prod.fst).flatMap ptCells)) := by
  have HR := Lib.hid h
  obtain ⟨_, hm, hh, A, c, rfl, hrd⟩ := h
  have ha : 0 < zs.length → ∃ b off, A = some ⟨b, off, none⟩ := fun h => by obtain ⟨b, off, e, _⟩ := hrd h; exact ⟨b, off, e⟩
  have HA := Lib.hid ha
  clear hrd ha hh
  have N0 : New w (w.alloc (.cells #[.slice A zs.length c] 29)) := (New.same w).box _
  go_enter Try.func47, Try.ntmps47
  go_wp2
  generalize w.alloc (.cells #[.slice A zs.length c] 29) = W0 at *
  go_loopw [3, 9] (fun v i wr => ∃ k : Nat, k ≤ zs.length ∧ i = .int .i64 k ∧ wr.ownsRow w.heap.size 33 2 v k ((fstT zs k).flatMap ptCells) ∧ New w wr) (fun _ i _ => zs.length - (intOf i).toNat)
  case atStart => exact ⟨0, Nat.zero_le _, rfl, by rw [fstT_zero]; exact World.ownsRow_nil _ _ _ _, N0⟩
  case round =>
    obtain ⟨k, hk, rfl, hown, hN⟩ := hrel
    by_cases hlt : k < zs.length
    · obtain ⟨b, off, hAe⟩ := HA.out (by omega)
      subst hAe
      have p0 : (0 : Int) ≤ (k : Int) := by omega
      have p1 : (k : Int) < (zs.length : Int) := by omega
      obtain ⟨⟨x0, x1, x2⟩, bw⟩ := rd_pl HR.out hN rfl hlt
      have n7 : New wr (wr.alloc (.cells #[.int .i64 zs[k].1.1, .int .i64 zs[k].1.2, .int .i64 zs[k].2] 71)) := (New.same wr).box _
      have C7 : BoxV (wr.alloc (.cells #[.int .i64 zs[k].1.1, .int .i64 zs[k].1.2, .int .i64 zs[k].2] 71)) wr.heap.size [.int .i64 zs[k].1.1, .int .i64 zs[k].1.2, .int .i64 zs[k].2] := .three (by go_simp) (by go_simp) (by go_simp) (by go_simp) (by go_simp) (by go_simp) (by simp)
      go_upto_region 5 with fail
      clear x0 x1 x2 bw
      have hown7 := ownsRow_new hown n7
      have hN7 := hN.step n7
      generalize wr.alloc (.cells #[.int .i64 zs[k].1.1, .int .i64 zs[k].1.2, .int .i64 zs[k].2] 71) = W7 at *
      have ⟨⟨c7, d7, e7⟩, _, _⟩ := C7.at3
      have hz2 := hN7.size
      clear hown
      go_wp2_with (at_builtin; refine wpList_app1 rfl _ _ rfl row_point _ w.heap.size hown7 rfl [.int .i64 zs[k].1.1, .int .i64 zs[k].1.2] rfl rfl (by simp [Value.oneCell']) (by unfold maxLen; omega) (by omega) hz2 ?_; intro v1 w3 hown1 hb3 _ _)
      have hN1 := hN7.trans hb3
      clear hb3 c7 d7 e7
      go_roundw
      case rel => exact ⟨k + 1, by omega, by go_num, fstT_step hlt hown1, hN1⟩
      case measure => simp [intOf]; omega
    · have ek : k = zs.length := by omega
      subst ek
      go_wp2
      go_ret
      rw [fstT_all] at hown
      exact ⟨_, rfl, Own.of hown, hN⟩

set_option maxHeartbeats 1000000 in
theorem c_specPointsOf (lo hi : Nat) (v : Value) (zs : List ((Int × Int) × Int)) (w : World) (h : Rd w lo hi 3 v zs.length (zs.flatMap plCells)) :
    Calls Try.prog 17 #[.agg #[v]] w (GivesRow w 33 2 (pofL zs).length ((pofL zs).flatMap ptCells)) := by
  have HR := Lib.hid h
  obtain ⟨_, _, hh, A, c, rfl, _⟩ := h
  have n0 : New w (w.alloc (.cells #[.slice A zs.length c] 29)) := (New.same w).box _
  have B0 : BoxV (w.alloc (.cells #[.slice A zs.length c] 29)) w.heap.size [.slice A zs.length c] := .one (by go_simp) (by go_simp) (by simp <;> omega)
  cases hf : frmB zs
  · have HP := Lib.hid (show pofL zs = [] by simp [pofL, hf])
    have HF := Lib.hid hf
    clear hf
    go_enter Try.func17, Try.ntmps17
    go_wp2_with fail
    generalize w.alloc (.cells #[.slice A zs.length c] 29) = W0 at *
    refine (c_l03Form _ _ _ _ zs _ B0 (HR.out.new n0)).mono ?_
    rintro e w1 ⟨rfl, n1⟩
    rw [HF.out]
    have N := n0.step n1
    go_wp2
    go_ret
    rw [HP.out]
    exact ⟨_, rfl, Own.of (World.ownsRow_made w1 #[] 0 N.size (by omega) rfl), N.box _⟩
  · have HP := Lib.hid (show pofL zs = zs.map Prod.fst by simp [pofL, hf])
    have HF := Lib.hid hf
    have hl : zs.length ≤ 500 := by simp [frmB] at hf; exact hf.1
    clear hf
    go_enter Try.func17, Try.ntmps17
    go_wp2_with fail
    generalize w.alloc (.cells #[.slice A zs.length c] 29) = W0 at *
    refine (c_l03Form _ _ _ _ zs _ B0 (HR.out.new n0)).mono ?_
    rintro e w1 ⟨rfl, n1⟩
    rw [HF.out]
    have N := n0.step n1
    replace B0 := B0.new n1
    go_wp2_with fail
    refine (c_l03Points _ _ _ _ zs _ B0 (HR.out.new N) (by omega)).mono ?_
    rintro e w2 ⟨u, rfl, hO, n2⟩
    have hz := N.size
    go_wp2
    go_ret
    rw [HP.out, List.length_map]
    exact ⟨_, rfl, hO.wide hz (Nat.le_refl _) (Nat.le_refl _), N.step n2⟩

set_option maxHeartbeats 1000000 in
theorem c_implPointsOf (lo hi : Nat) (v : Value) (zs : List ((Int × Int) × Int)) (w : World) (h : Rd w lo hi 3 v zs.length (zs.flatMap plCells)) :
    Calls Try.prog 18 #[.agg #[v]] w (GivesRow w 33 2 (pofL zs).length ((pofL zs).flatMap ptCells)) := by
  have HR := Lib.hid h
  obtain ⟨_, _, hh, A, c, rfl, _⟩ := h
  have n0 : New w (w.alloc (.cells #[.slice A zs.length c] 29)) := (New.same w).box _
  have B0 : BoxV (w.alloc (.cells #[.slice A zs.length c] 29)) w.heap.size [.slice A zs.length c] := .one (by go_simp) (by go_simp) (by simp <;> omega)
  cases hf : frmB zs
  · have HP := Lib.hid (show pofL zs = [] by simp [pofL, hf])
    have HF := Lib.hid hf
    clear hf
    go_enter Try.func18, Try.ntmps18
    go_wp2_with fail
    generalize w.alloc (.cells #[.slice A zs.length c] 29) = W0 at *
    refine (c_hasForm _ _ _ zs _ (HR.out.new n0)).mono ?_
    rintro e w1 ⟨rfl, n1⟩
    rw [HF.out]
    have N := n0.step n1
    go_wp2
    go_ret
    rw [HP.out]
    exact ⟨_, rfl, own_nil _ _ (Nat.le_refl _) _ _ _, by (repeat' (first | (with_reducible exact New.same _) | (with_reducible assumption) | (with_reducible refine New.box ?_ _) | (with_reducible refine New.drew_ ?_) | (with_reducible refine New.set ?_ ?_ _ _) | (with_reducible refine New.step ?_ (by assumption))))⟩
  · have HP := Lib.hid (show pofL zs = zs.map Prod.fst by simp [pofL, hf])
    have HF := Lib.hid hf
    have hl : zs.length ≤ 500 := by simp [frmB] at hf; exact hf.1
    clear hf
    go_enter Try.func18, Try.ntmps18
    go_wp2_with fail
    generalize w.alloc (.cells #[.slice A zs.length c] 29) = W0 at *
    refine (c_hasForm _ _ _ zs _ (HR.out.new n0)).mono ?_
    rintro e w1 ⟨rfl, n1⟩
    rw [HF.out]
    have N := n0.step n1
    replace B0 := B0.new n1
    have ⟨bx0, _, bl0⟩ := B0.at1
    go_wp2_with fail
    refine (c_points _ _ _ zs _ (HR.out.new N) (by omega)).mono ?_
    rintro e w2 ⟨u, rfl, hO, n2⟩
    have hz := N.size
    go_wp2
    go_ret
    rw [HP.out, List.length_map]
    exact ⟨_, rfl, hO.wide hz (Nat.le_refl _) (Nat.le_refl _), N.step n2⟩

end Go.Proofs.Ytnbpcdnncfkgjaa
