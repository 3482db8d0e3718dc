/- Contracts of the functions that move a shape home. -/
import Derived.Test.YtmjnjdoegjdlhaaBounds
import Derived.Test.YtmjnjdoegjdlhaaStep
import Derived.Test.YtmjnjdoegjdlhaaShapeOk
namespace Go.Proofs.Ytmjnjdoegjdlhaa
open Go.RowKit Go.Deep
set_option linter.unusedVariables false
set_option linter.unusedSimpArgs false

/-- all coordinates within a million -/
def bdL (zs : List (Int × Int)) : Prop := ∀ z ∈ zs, (-1000000 ≤ z.1 ∧ z.1 ≤ 1000000) ∧ -1000000 ≤ z.2 ∧ z.2 ≤ 1000000
theorem bdL_shp {zs : List (Int × Int)} (h : shpB zs = true) : bdL zs := fun z hz => by have := vp_bd (shpB_vp h) z hz; omega
theorem bdL_at {zs : List (Int × Int)} (h : bdL zs) {k : Nat} (hk : k < zs.length) : (-1000000 ≤ zs[k].1 ∧ zs[k].1 ≤ 1000000) ∧ -1000000 ≤ zs[k].2 ∧ zs[k].2 ≤ 1000000 := h _ (List.getElem_mem hk)
theorem bdL_low {zs : List (Int × Int)} (h : bdL zs) : (-1000000 ≤ lowX zs ∧ lowX zs ≤ 1000000) ∧ -1000000 ≤ lowY zs ∧ lowY zs ≤ 1000000 := low_bd (b := 1000000) h (by omega)

/-- the first k points, moved -/
def movT (zs : List (Int × Int)) (dx dy : Int) (k : Nat) : List (Int × Int) := movL (zs.take k) dx dy
theorem movT_zero (zs : List (Int × Int)) (dx dy : Int) : (movT zs dx dy 0).flatMap ptCells = [] := by simp only [movT, List.take_zero, movL, List.map_nil, List.flatMap_nil]
theorem movT_all (zs : List (Int × Int)) (dx dy : Int) : movT zs dx dy zs.length = movL zs dx dy := by simp [movT]
theorem movT_step {w' : World} {base : Nat} {e : TypeId} {v : Value} {zs : List (Int × Int)} {dx dy : Int} {k : Nat} (hk : k < zs.length)
    (h : w'.ownsRow base e 2 v (k + 1) ((movT zs dx dy k).flatMap ptCells ++ [.int .i64 (zs[k].1 + dx), .int .i64 (zs[k].2 + dy)])) : w'.ownsRow base e 2 v (k + 1) ((movT zs dx dy (k + 1)).flatMap ptCells) := by
  have : movT zs dx dy (k + 1) = movT zs dx dy k ++ [(zs[k].1 + dx, zs[k].2 + dy)] := by
    unfold movT movL
    rw [List.take_succ_eq_append_getElem hk, List.map_append]
    rfl
  rw [this, List.flatMap_append]
  simpa [ptCells] using h

set_option maxHeartbeats 4000000 in
theorem c_l04Home (lo hi : Nat) (v : Value) (zs : List (Int × Int)) (w : World) (h : Rd w lo hi 2 v zs.length (zs.flatMap ptCells)) (hn : 0 < zs.length) (hl : zs.length ≤ 1000000) (hb : bdL zs) :
    Calls Try.prog 35 #[v] w (GivesRow w 40 2 zs.length ((homL zs).flatMap ptCells)) := by
  have HR := Lib.hid h
  have HD := Lib.hid (fun k hk => bdL_at hb (k := k) hk)
  obtain ⟨⟨l1, l2⟩, l3, l4⟩ := bdL_low hb
  obtain ⟨_, hm, hh, A, c, rfl, hrd⟩ := h
  obtain ⟨b, off, rfl, _, hb1, hc⟩ := hrd hn
  clear hc hrd hb
  go_enter Try.func35, Try.ntmps35
  go_wp2_with (go_at_call 53; refine (c_l03Bounds lo hi _ zs _ HR.out hn).mono ?_; rintro e w1 ⟨rfl, n1⟩)
  have hz1 := n1.size
  have NB : New w ((w1.alloc (.cells #[.int .i64 (lowX zs), .int .i64 (lowY zs)] 40)).alloc (.cells #[.int .i64 (hghX zs), .int .i64 (hghY zs)] 40)) := (n1.box _).box _
  have CB : BoxV ((w1.alloc (.cells #[.int .i64 (lowX zs), .int .i64 (lowY zs)] 40)).alloc (.cells #[.int .i64 (hghX zs), .int .i64 (hghY zs)] 40)) w1.heap.size [.int .i64 (lowX zs), .int .i64 (lowY zs)] := .two (by go_simp) (by go_simp) (by go_simp) (by go_simp) (by simp <;> omega)
  have ZW := Lib.hid (show ((w1.alloc (.cells #[.int .i64 (lowX zs), .int .i64 (lowY zs)] 40)).alloc (.cells #[.int .i64 (hghX zs), .int .i64 (hghY zs)] 40)).heap.size = w1.heap.size + 1 + 1 by simp)
  generalize ((w1.alloc (.cells #[.int .i64 (lowX zs), .int .i64 (lowY zs)] 40)).alloc (.cells #[.int .i64 (hghX zs), .int .i64 (hghY zs)] 40)) = W0 at *
  go_loopw [5, 6] (fun v i wr => ∃ k : Nat, k ≤ zs.length ∧ i = .int .i64 k ∧ wr.ownsRow (w1.heap.size + 1 + 1) 40 2 v k ((movT zs (-lowX zs) (-lowY zs) k).flatMap ptCells) ∧ BoxV wr w1.heap.size [.int .i64 (lowX zs), .int .i64 (lowY zs)] ∧ New W0 wr) (fun _ i _ => zs.length - (intOf i).toNat)
  case atStart => exact ⟨0, Nat.zero_le _, rfl, by have h := World.ownsRow_made (e := 40) (size := 2) W0 #[] 0 (Nat.le_refl _) (by omega) rfl; rw [ZW.out] at h; rw [movT_zero]; exact h, CB.new ((New.same _).box _), (New.same _).box _⟩
  case round =>
    obtain ⟨k, hk, rfl, hown, C0, hN⟩ := hrel
    by_cases hlt : k < zs.length
    · have p0 : (0 : Int) ≤ (k : Int) := by omega
      have p1 : (k : Int) < (zs.length : Int) := by omega
      obtain ⟨⟨d1, d2⟩, d3, d4⟩ := HD.out k hlt
      obtain ⟨x0, x1, bw⟩ := rd_pt HR.out (NB.step hN) rfl hlt
      have ⟨⟨y0, y1⟩, _, bL⟩ := C0.at2
      have hz := hN.size
      have hbB : b < w1.heap.size + 1 + 1 := by omega
      have hbL : w1.heap.size < w1.heap.size + 1 + 1 := by omega
      have E1 : Hid (IntKind.i64.wrap (zs[k].1 - lowX zs) = zs[k].1 + -lowX zs) := Lib.hid (by rw [IntWalk.i64_in _ (by omega)]; omega)
      have E2 : Hid (IntKind.i64.wrap (zs[k].2 - lowY zs) = zs[k].2 + -lowY zs) := Lib.hid (by rw [IntWalk.i64_in _ (by omega)]; omega)
      go_upto_region 6 with fail
      have e1 := E1.out
      have e2 := E2.out
      go_region_held3 (fun w' => w'.cell? ⟨b, off + k * 2, none⟩ = some (.int .i64 zs[k].1) ∧ w'.cell? ⟨b, off + k * 2 + 1, none⟩ = some (.int .i64 zs[k].2) ∧ w'.cell? ⟨w1.heap.size, 0, none⟩ = some (.int .i64 (lowX zs)) ∧ w'.cell? ⟨w1.heap.size, 1, none⟩ = some (.int .i64 (lowY zs)))
        (first | (go_split_ands; exact ⟨(hb3.cell (p := ⟨b, off + k * 2, none⟩) hbB).trans (by assumption), (hb3.cell (p := ⟨b, off + k * 2 + 1, none⟩) hbB).trans (by assumption), (hb3.cell (p := ⟨w1.heap.size, 0, none⟩) hbL).trans (by assumption), (hb3.cell (p := ⟨w1.heap.size, 1, none⟩) hbL).trans (by assumption)⟩) | exact keepP2 (w1 := wr) (by (repeat' (first | (with_reducible exact New.same _) | (with_reducible assumption) | (with_reducible refine New.box ?_ _) | (with_reducible refine New.drew_ ?_) | (with_reducible refine New.set ?_ ?_ _ _) | (with_reducible refine New.step ?_ (by assumption))))) bw bL x0 x1 y0 y1)
        ((refine step_app1 (by rfl) _ _ (by rfl) row_point (w1.heap.size + 1 + 1) ((hown.alloc _).drew) (by rfl) [.int .i64 (zs[k].1 + -lowX zs), .int .i64 (zs[k].2 + -lowY zs)] wr.heap.size (by rfl) (heap_alloc_new _ _) rfl (by simp [Value.oneCell']) (by unfold maxLen; omega) (by omega) (by have := ZW.out; simp; omega) ?_; intro v1 w2 hown1 hb3))
      have hN1 : New W0 w2 := (hN.drew_.box _).trans (by rw [ZW.out]; exact hb3)
      clear hb3 E1 E2 e1 e2
      go_wp2
      go_roundw
      case rel => exact ⟨k + 1, by omega, by go_num, movT_step hlt hown1, CB.new hN1, hN1⟩
      case measure => simp [intOf]; omega
    · have ek : k = zs.length := by omega
      subst ek
      go_wp2
      go_ret
      rw [movT_all] at hown
      exact ⟨_, rfl, (Own.of hown).wide (by omega) (Nat.le_refl _) (Nat.le_refl _), NB.step hN⟩

set_option maxHeartbeats 400000 in
theorem c_plus (ax ay bx b_y : Int) (w : World) (h1 : -4611686018427387904 ≤ ax + bx) (h2 : ax + bx ≤ 4611686018427387904) (h3 : -4611686018427387904 ≤ ay + b_y) (h4 : ay + b_y ≤ 4611686018427387904) :
    Calls Try.prog 55 #[.agg #[.int .i64 ax, .int .i64 ay], .agg #[.int .i64 bx, .int .i64 b_y]] w fun e w' => e = .returned (.agg #[.int .i64 (ax + bx), .int .i64 (ay + b_y)]) ∧ New w w' := by
  go_enter Try.func55, Try.ntmps55
  go_wp2
  exact bodyPost_ret (v := .agg #[.int .i64 (ax + bx), .int .i64 (ay + b_y)]) (by simp [results, Try.results55, go_sem]) rfl ⟨rfl, by go_grown⟩

set_option maxHeartbeats 4000000 in
theorem c_home (lo hi : Nat) (v : Value) (zs : List (Int × Int)) (w : World) (h : Rd w lo hi 2 v zs.length (zs.flatMap ptCells)) (hn : 0 < zs.length) (hl : zs.length ≤ 1000000) (hb : bdL zs) :
    Calls Try.prog 38 #[v] w (GivesRow w 40 2 zs.length ((homL zs).flatMap ptCells)) := by
  have HR := Lib.hid h
  have HD := Lib.hid (fun k hk => bdL_at hb (k := k) hk)
  obtain ⟨⟨l1, l2⟩, l3, l4⟩ := bdL_low hb
  obtain ⟨_, hm, hh, A, c, rfl, hrd⟩ := h
  obtain ⟨b, off, rfl, _, hb1, hc⟩ := hrd hn
  clear hc hrd hb
  go_enter Try.func38, Try.ntmps38
  go_wp2_with (go_at_call 54; refine (c_bounds lo hi _ zs _ HR.out hn).mono ?_; rintro e w1 ⟨rfl, n1⟩)
  have hz1 := n1.size
  have NB : New w ((w1.alloc (.cells #[.int .i64 (lowX zs), .int .i64 (lowY zs)] 40)).alloc (.cells #[.int .i64 (hghX zs), .int .i64 (hghY zs)] 40)) := (n1.box _).box _
  have CB : BoxV ((w1.alloc (.cells #[.int .i64 (lowX zs), .int .i64 (lowY zs)] 40)).alloc (.cells #[.int .i64 (hghX zs), .int .i64 (hghY zs)] 40)) w1.heap.size [.int .i64 (lowX zs), .int .i64 (lowY zs)] := .two (by go_simp) (by go_simp) (by go_simp) (by go_simp) (by simp <;> omega)
  generalize ((w1.alloc (.cells #[.int .i64 (lowX zs), .int .i64 (lowY zs)] 40)).alloc (.cells #[.int .i64 (hghX zs), .int .i64 (hghY zs)] 40)) = W0 at *
  go_loopw [5, 15] (fun v i wr => ∃ k : Nat, k ≤ zs.length ∧ i = .int .i64 k ∧ wr.ownsRow W0.heap.size 40 2 v k ((movT zs (-lowX zs) (-lowY zs) k).flatMap ptCells) ∧ BoxV wr w1.heap.size [.int .i64 (lowX zs), .int .i64 (lowY zs)] ∧ New W0 wr) (fun _ i _ => zs.length - (intOf i).toNat)
  case atStart => exact ⟨0, Nat.zero_le _, rfl, by rw [movT_zero]; exact World.ownsRow_nil _ _ _ _, CB, New.same _⟩
  case round =>
    obtain ⟨k, hk, rfl, hown, C0, hN⟩ := hrel
    by_cases hlt : k < zs.length
    · obtain ⟨⟨d1, d2⟩, d3, d4⟩ := HD.out k hlt
      obtain ⟨x0, x1, bw⟩ := rd_pt HR.out (NB.step hN) rfl hlt
      have n7 : New wr (wr.alloc (.cells #[.int .i64 zs[k].1, .int .i64 zs[k].2] 40)) := (New.same wr).box _
      have C7 : BoxV (wr.alloc (.cells #[.int .i64 zs[k].1, .int .i64 zs[k].2] 40)) wr.heap.size [.int .i64 zs[k].1, .int .i64 zs[k].2] := .two (by go_simp) (by go_simp) (by go_simp) (by go_simp) (by simp)
      go_upto_region 6 with fail
      clear x0 x1
      generalize wr.alloc (.cells #[.int .i64 zs[k].1, .int .i64 zs[k].2] 40) = W7 at *
      have ⟨⟨y0, y1⟩, _, _⟩ := (C0.new n7).at2
      have ⟨⟨c7, d7⟩, _, _⟩ := C7.at2
      go_wp2_with fail
      refine (c_plus _ _ _ _ _ (by omega) (by omega) (by omega) (by omega)).mono ?_
      rintro e w2 ⟨rfl, n8⟩
      have hN2 : New W0 w2 := (hN.step n7).step n8
      have hown2 := ownsRow_new (ownsRow_new hown n7) n8
      have hz2 := hN2.size
      clear y0 y1 c7 d7 n7 n8 C7 hown
      go_wp2_with (at_builtin; refine wpList_app1 rfl _ _ rfl row_point _ W0.heap.size hown2 rfl [.int .i64 (zs[k].1 + -lowX zs), .int .i64 (zs[k].2 + -lowY zs)] rfl rfl (by simp [Value.oneCell']) (by unfold maxLen; omega) (by omega) hz2 ?_; intro v1 w3 hown1 hb3 _ _)
      have hN1 : New W0 w3 := hN2.trans hb3
      clear hb3
      go_roundw
      case rel => exact ⟨k + 1, by omega, by go_num, movT_step hlt hown1, CB.new hN1, hN1⟩
      case measure => simp [intOf]; omega
    · have ek : k = zs.length := by omega
      subst ek
      go_wp2
      go_ret
      rw [movT_all] at hown
      exact ⟨_, rfl, (Own.of hown).wide NB.size (Nat.le_refl _) (Nat.le_refl _), NB.step hN⟩

/-- the code of a shape and a condition on numbers -/
def shpC (zs : List (Int × Int)) (r : Bool) : Int := if shpB zs then (if r then 0 else 2) else 1

set_option maxHeartbeats 400000 in
theorem c_shapeCode (lo hi : Nat) (v : Value) (zs : List (Int × Int)) (r : Bool) (w : World) (h : Rd w lo hi 2 v zs.length (zs.flatMap ptCells)) :
    Calls Try.prog 36 #[v, .bool r] w fun e w' => e = .returned (.int .i64 (shpC zs r)) ∧ New w w' := by
  cases hs : shpB zs
  · have E := Lib.hid (show shpC zs r = 1 by simp [shpC, hs])
    go_enter Try.func36, Try.ntmps36
    go_wp2_with (go_at_call 12; refine (c_implValidShape lo hi _ zs _ h).mono ?_; rintro e w1 ⟨rfl, n1⟩)
    go_ret
    exact ⟨ret_int E.out.symm, n1⟩
  · cases r
    · have E := Lib.hid (show shpC zs false = 2 by simp [shpC, hs])
      go_enter Try.func36, Try.ntmps36
      go_wp2_with (go_at_call 12; refine (c_implValidShape lo hi _ zs _ h).mono ?_; rintro e w1 ⟨rfl, n1⟩)
      go_ret
      exact ⟨ret_int E.out.symm, n1⟩
    · have E := Lib.hid (show shpC zs true = 0 by simp [shpC, hs])
      go_enter Try.func36, Try.ntmps36
      go_wp2_with (go_at_call 12; refine (c_implValidShape lo hi _ zs _ h).mono ?_; rintro e w1 ⟨rfl, n1⟩)
      go_ret
      exact ⟨ret_int E.out.symm, n1⟩

/-- a shape if it is valid, and a code -/
def vldL (zs : List (Int × Int)) : List (Int × Int) := if shpB zs then zs else []
def vldC (zs : List (Int × Int)) : Int := if shpB zs then 0 else 2
theorem vldL_len (zs : List (Int × Int)) : (vldL zs).length ≤ 500 := by
  unfold vldL
  split
  · rename_i h; exact (shpB_len h).2
  · simp

/-- A call hands back the row or none, and a code. -/
def GivesVld (w : World) (lo hi : Nat) (e : TypeId) (zs : List (Int × Int)) (E : Ending) (w' : World) : Prop :=
  ∃ v, E = .returned (.tuple #[v, .int .i64 (vldC zs)]) ∧ Own w' lo hi e 2 v (vldL zs).length ((vldL zs).flatMap ptCells) ∧ New w w'

set_option maxHeartbeats 400000 in
theorem c_validated (lo hi : Nat) (v : Value) (zs : List (Int × Int)) (w : World) (h : Own w lo hi 40 2 v zs.length (zs.flatMap ptCells)) :
    Calls Try.prog 37 #[v] w (GivesVld w lo hi 40 zs) := by
  have HO := Lib.hid h
  cases hs : shpB zs
  · have E := Lib.hid (show vldC zs = 2 ∧ vldL zs = [] by simp [vldC, vldL, hs])
    have HH := Lib.hid h.2.1
    clear h
    go_enter Try.func37, Try.ntmps37
    go_wp2_with (go_at_call 12; refine (c_implValidShape lo hi _ zs _ HO.out.rd).mono ?_; rintro e w1 ⟨rfl, n1⟩)
    go_ret2
    exact ⟨_, by rw [E.out.1]; rfl, by rw [E.out.2]; exact ⟨World.ownsRow_nil _ _ _ _, Nat.le_trans HH.out n1.size, fun g hg => by cases hg⟩, n1⟩
  · have E := Lib.hid (show vldC zs = 0 ∧ vldL zs = zs by simp [vldC, vldL, hs])
    clear h
    go_enter Try.func37, Try.ntmps37
    go_wp2_with (go_at_call 12; refine (c_implValidShape lo hi _ zs _ HO.out.rd).mono ?_; rintro e w1 ⟨rfl, n1⟩)
    go_ret2
    exact ⟨_, by rw [E.out.1]; rfl, by rw [E.out.2]; exact HO.out.new n1, n1⟩

theorem own_nil (w : World) (hi : Nat) (hh : hi ≤ w.heap.size) (lo : Nat) (e : TypeId) (C : Nat) : Own w lo hi e C (.slice none 0 0) 0 [] := ⟨World.ownsRow_nil _ _ _ _, hh, fun g hg => by cases hg⟩

end Go.Proofs.Ytmjnjdoegjdlhaa
