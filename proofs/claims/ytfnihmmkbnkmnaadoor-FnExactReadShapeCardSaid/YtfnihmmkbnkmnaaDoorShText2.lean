/- Contracts of the program's functions that write a shape. -/
import Derived.Test.YtfnihmmkbnkmnaaDoorShText
namespace Go.Proofs.YtfnihmmkbnkmnaaDoor
open Go.RowKit Go.Deep
set_option linter.unusedVariables false
set_option linter.unusedSimpArgs false

theorem Bld.new {b : Nat} {l : List UInt8} {w w' : World} (h : Bld b l w) (n : New w w') : Bld b l w' := by
  have key : ∀ p, Lib.BuilderAt 87 5 b b p (Lib.byteCells l) w → Lib.BuilderAt 87 5 b b p (Lib.byteCells l) w' := by
    rintro p ⟨h1, v, h2, h3, h4⟩
    have hlt : b < w.heap.size := by
      rcases Nat.lt_or_ge b w.heap.size with h' | h'
      · exact h'
      · simp [Array.getElem?_eq_none h'] at h2
    exact ⟨h1, v, (n.block b hlt).trans h2, ownsRow_new h3 n, h4⟩
  rcases h with h | h
  · exact .inl (key _ h)
  · exact .inr (key _ h)
theorem Bld.lt {b : Nat} {l : List UInt8} {w : World} (h : Bld b l w) : b < w.heap.size := by
  rcases h with h | h
  · exact h.lt
  · exact h.lt
theorem own_strs {w : World} {base n g c : Nat} {e : TypeId} {xs : List ByteArray} (h : w.ownsRow base e 1 (.slice (some ⟨g, 0, none⟩) n c) n (xs.map Value.string)) : (∀ (j : Nat) x, xs[j]? = some x → w.cell? ⟨g, 0 + j, none⟩ = some (.string x)) ∧ g < w.heap.size ∧ xs.length = n ∧ n ≤ c := by
  have hcap : n ≤ c := by
    rcases h.2 with ⟨hv, _⟩ | ⟨g', cap, cur, hv, _, _, h4, _⟩
    · cases hv
    · cases hv; exact h4
  have hr := (Own.of h).rd
  have hn : xs.length = n := by have := h.1; simpa using this
  obtain ⟨_, _, _, A, cc, he, hrd⟩ := hr
  have hlt : g < w.heap.size := by
    rcases h.2 with ⟨hv, _⟩ | ⟨g', cap, cur, hv, _, h4, _⟩
    · cases hv
    · cases hv
      rcases Nat.lt_or_ge g w.heap.size with h' | h'
      · exact h'
      · simp [Array.getElem?_eq_none h'] at h4
  refine ⟨fun j x hj => ?_, hlt, hn, hcap⟩
  have hjl := (List.getElem?_eq_some_iff.1 hj).1
  obtain ⟨b, off, rfl, _, _, hc⟩ := hrd (by omega)
  cases he
  exact hc j (.string x) (by simp [hj])
theorem c_JoinN (b n c : Nat) (xs : List ByteArray) (r : List UInt8) (w : World) (h : w.ownsRow 0 9 1 (.slice (some ⟨b, 0, none⟩) n c) n (xs.map Value.string)) (hN : n ≤ 1000000) (hr : Lib.join (xs.map (·.data.toList)) [47] = r) (hl : r.length ≤ 140737488355328) :
    Calls Tryd.prog 58 #[.slice (some ⟨b, 0, none⟩) n c, .string ⟨#[47]⟩] w fun e w' => e = .returned (.string ⟨r.toArray⟩) ∧ New w w' := by
  obtain ⟨h1, h2, h3, h4⟩ := own_strs h
  subst h3
  subst hr
  exact c_Join b 0 c xs ⟨#[47]⟩ w h1 h2 hN h4 hl
def rowsV (zs : List (Int × Int)) (m : Nat) : List Value := ((rowsT zs m).map fun l : List UInt8 => (⟨l.toArray⟩ : ByteArray)).map Value.string
theorem rows_back (xs : List (List UInt8)) : (xs.map fun l : List UInt8 => (⟨l.toArray⟩ : ByteArray)).map (·.data.toList) = xs := by
  rw [List.map_map]
  exact (List.map_congr_left (fun l _ => by simp)).trans (List.map_id _)
theorem c_JoinRows (b m c : Nat) (zs : List (Int × Int)) (w : World) (h : w.ownsRow 0 9 1 (.slice (some ⟨b, 0, none⟩) m c) m (rowsV zs m)) (hN : m ≤ 1000000) (em : m = htN zs) (hl : (shT zs).length ≤ 140737488355328) :
    Calls Tryd.prog 58 #[.slice (some ⟨b, 0, none⟩) m c, .string ⟨#[47]⟩] w fun e w' => e = .returned (.string ⟨(shT zs).toArray⟩) ∧ New w w' :=
  c_JoinN b m c ((rowsT zs m).map fun l : List UInt8 => (⟨l.toArray⟩ : ByteArray)) (shT zs) w h hN (by rw [rows_back, em]; rfl) hl
theorem rowsV_step {zs : List (Int × Int)} {m : Nat} {w : World} {base : Nat} {e : TypeId} {v : Value}
    (ho : w.ownsRow base e 1 v (m + 1) (rowsV zs m ++ [.string ⟨(rwT zs (hghY zs - (m : Int)) (wdN zs)).toArray⟩])) : w.ownsRow base e 1 v (m + 1) (rowsV zs (m + 1)) := by
  unfold rowsV
  rw [rowsT_succ, List.map_append, List.map_append]
  exact ho
set_option maxRecDepth 20000 in
set_option maxHeartbeats 8000000 in
theorem c_shapeText (lo hi : Nat) (v : Value) (zs : List (Int × Int)) (w : World) (h : Rd w lo hi 2 v zs.length (zs.flatMap ptCells)) (hs : shpB zs = true) :
    Calls Tryd.prog 27 #[v] w fun e w' => e = .returned (.string ⟨(shT zs).toArray⟩) ∧ New w w' := by
  have HR := Lib.hid h
  obtain ⟨hn, hl⟩ := shpB_len hs
  have HAS := Lib.hid (shp_ascP hs)
  obtain ⟨⟨⟨a1, a2⟩, a3⟩, ⟨b1, b2⟩, b3⟩ := bnd60 hs
  have HW := Lib.hid (show (wdN zs : Int) = hghX zs - lowX zs + 1 by unfold wdN; omega)
  have HH := Lib.hid (show (htN zs : Int) = hghY zs - lowY zs + 1 by unfold htN; omega)
  have HSL := Lib.hid (sh_len hs)
  clear h
  go_enter Tryd.func27, Tryd.ntmps27
  go_wp2_with fail
  refine (c_bounds lo hi _ zs _ HR.out hn).mono ?_
  rintro e w2 ⟨rfl, n2⟩
  have HR2 := Lib.hid (HR.out.new n2)
  have n3 : New w2 ((w2.alloc (.cells #[.int .i64 (lowX zs), .int .i64 (lowY zs)] 55)).alloc (.cells #[.int .i64 (hghX zs), .int .i64 (hghY zs)] 55)) := ((New.same w2).box _).box _
  have B0 : BoxV ((w2.alloc (.cells #[.int .i64 (lowX zs), .int .i64 (lowY zs)] 55)).alloc (.cells #[.int .i64 (hghX zs), .int .i64 (hghY zs)] 55)) w2.heap.size [.int .i64 (lowX zs), .int .i64 (lowY zs)] := .two (by go_simp) (by go_simp) (by go_simp) (by go_simp) (by simp; omega)
  have B1 : BoxV ((w2.alloc (.cells #[.int .i64 (lowX zs), .int .i64 (lowY zs)] 55)).alloc (.cells #[.int .i64 (hghX zs), .int .i64 (hghY zs)] 55)) (w2.heap.size + 1) [.int .i64 (hghX zs), .int .i64 (hghY zs)] := .two (by go_simp) (by go_simp) (by go_simp) (by go_simp) (by simp)
  go_upto_region 2 with fail
  generalize (w2.alloc (.cells #[.int .i64 (lowX zs), .int .i64 (lowY zs)] 55)).alloc (.cells #[.int .i64 (hghX zs), .int .i64 (hghY zs)] 55) = W at *
  have ⟨⟨c0, d0⟩, _, l0⟩ := B0.at2
  have ⟨⟨c1, d1⟩, _, l1⟩ := B1.at2
  have hzW := n3.size
  go_wp2
  clear c0 d0 l0 c1 d1 l1
  go_loopw [5, 6] (fun v y wr => ∃ m : Nat, m ≤ htN zs ∧ y = .int .i64 (hghY zs - (m : Int)) ∧ wr.ownsRow W.heap.size 9 1 v m (rowsV zs m) ∧ New W wr) (fun v y _ => (intOf y + 61).toNat)
  case atStart => exact ⟨0, Nat.zero_le _, by simp, World.ownsRow_nil _ _ _ _, New.same _⟩
  case round =>
    obtain ⟨m, hmh, rfl, hown, hN⟩ := hrel
    have ⟨⟨c0, d0⟩, _, l0⟩ := (B0.new hN).at2
    have ⟨⟨c1, d1⟩, _, l1⟩ := (B1.new hN).at2
    by_cases hmlt : m < htN zs
    · have t1 : lowY zs ≤ hghY zs - (m : Int) := by have := HH.out; omega
      have hmb : (m : Int) ≤ 120 := by have := HH.out; omega
      obtain ⟨wo, hwo⟩ : ∃ wo, wo = wr := ⟨wr, rfl⟩
      subst hwo
      have nb : New wo (wo.alloc (.cells #[.pointer none, .slice none 0 0] 87)) := (New.same wo).box _
      have BL := bld_new wo
      have HOW := Lib.hid hown
      clear hown c0 d0 l0 c1 d1 l1
      have ⟨⟨c0, d0⟩, _, l0⟩ := ((B0.new hN).new nb).at2
      have ⟨⟨c1, d1⟩, _, l1⟩ := ((B1.new hN).new nb).at2
      have ⟨⟨c2, d2⟩, _, l2⟩ := (B0.new hN).at2
      go_wp2
      generalize hW7 : wo.alloc (.cells #[.pointer none, .slice none 0 0] 87) = W7 at *
      clear c0 d0 l0 c1 d1 l1 c2 d2 l2
      have hr7 := hN.size
      go_loopw [8] (fun x wq => ∃ i : Nat, i ≤ wdN zs ∧ x = .int .i64 (lowX zs + (i : Int)) ∧ Bld wo.heap.size (rwT zs (hghY zs - (m : Int)) i) wq ∧ New wo wq) (fun x _ => (hghX zs + 1 - intOf x).toNat)
      case atStart => exact ⟨0, Nat.zero_le _, by simp, BL, nb⟩
      case round =>
        clear BL
        obtain ⟨i, hiw, rfl, BL, hN2⟩ := hrel
        have ⟨⟨c0, d0⟩, _, l0⟩ := ((B0.new hN).new hN2).at2
        have ⟨⟨c1, d1⟩, _, l1⟩ := ((B1.new hN).new hN2).at2
        have hz2 := hN2.size
        by_cases hilt : i < wdN zs
        · have t2 : lowX zs + (i : Int) ≤ hghX zs := by have := HW.out; omega
          have tib : (i : Int) ≤ 120 := by omega
          have HLEN := Lib.hid (show (rwT zs (hghY zs - (m : Int)) i).length + 1 ≤ 140737488355328 by rw [rwT_len]; omega)
          go_wp2_with fail
          refine (c_isIn lo hi _ zs (lowX zs + (i : Int), hghY zs - (m : Int)) _ (((HR2.out.new n3).new hN).new hN2) HAS.out (by omega)).mono ?_
          rintro e w5 ⟨rfl, n5⟩
          have BL5 := BL.new n5
          have hz5 := (hN2.step n5).size
          clear c0 d0 l0 c1 d1 l1 BL
          have ⟨⟨c0, d0⟩, _, l0⟩ := (((B0.new hN).new hN2).new n5).at2
          have ⟨⟨c1, d1⟩, _, l1⟩ := (((B1.new hN).new hN2).new n5).at2
          cases hq : hasB zs (lowX zs + (i : Int), hghY zs - (m : Int))
          · have HQ := Lib.hid hq
            go_wp2_with fail
            refine (c_WriteByte wo.heap.size _ 46 46 rfl _ BL5 HLEN.out hz5).mono ?_
            rintro e w6 ⟨rfl, BL6, hb6⟩
            clear c0 d0 l0 c1 d1 l1
            go_wp2
            go_roundw
            case rel => exact ⟨i + 1, by omega, by congr 1; omega, by rw [rwT_no HQ.out]; exact BL6, (hN2.step n5).trans hb6⟩
            case measure => simp [intOf]; omega
          · have HQ := Lib.hid hq
            go_wp2_with fail
            refine (c_WriteByte wo.heap.size _ 35 35 rfl _ BL5 HLEN.out hz5).mono ?_
            rintro e w6 ⟨rfl, BL6, hb6⟩
            clear c0 d0 l0 c1 d1 l1
            go_wp2
            go_roundw
            case rel => exact ⟨i + 1, by omega, by congr 1; omega, by rw [rwT_yes HQ.out]; exact BL6, (hN2.step n5).trans hb6⟩
            case measure => simp [intOf]; omega
        · have t2 : ¬ (lowX zs + (i : Int) ≤ hghX zs) := by have := HW.out; omega
          have ei : i = wdN zs := by omega
          subst ei
          go_wp2_with fail
          refine (c_BString wo.heap.size _ _ BL hz2).mono ?_
          rintro e w6 ⟨rfl, hb6⟩
          have hN6 : New wo w6 := hN2.trans hb6
          have HO6 := Lib.hid (ownsRow_new HOW.out hN6)
          have hz6 := (hN.step hN6).size
          have hmb2 : m ≤ 120 := by omega
          clear c0 d0 l0 c1 d1 l1
          go_wp2_with (at_builtin; refine wpList_app1 rfl _ _ rfl row_Str _ W.heap.size HO6.out rfl [.string ⟨(rwT zs (hghY zs - (m : Int)) (wdN zs)).toArray⟩] rfl rfl (by simp [Value.oneCell']) (by unfold maxLen; omega) (by omega) hz6 ?_; intro v1 w7 hown1 hb7 _ _)
          go_roundw
          case rel => exact ⟨m + 1, by omega, by congr 1; omega, rowsV_step hown1, (hN.step hN6).trans hb7⟩
          case measure => simp [intOf]; omega
    · have em : m = htN zs := by omega
      subst em
      have t1 : ¬ (lowY zs ≤ hghY zs - (htN zs : Int)) := by have := HH.out; omega
      have hm0 : 0 < htN zs := by have := HH.out; omega
      have hm1 : htN zs ≤ 1000000 := by have := HH.out; omega
      obtain ⟨g, c, rfl⟩ := own_form hown hm0
      have HOW := Lib.hid (show wr.ownsRow 0 9 1 (.slice (some ⟨g, 0, none⟩) (htN zs) c) (htN zs) (rowsV zs (htN zs)) from ⟨hown.1, by
        rcases hown.2 with h | ⟨g', c', cur, h1, h2, h3⟩
        · exact .inl h
        · exact .inr ⟨g', c', cur, h1, Nat.zero_le _, h3⟩⟩)
      clear hown
      go_wp2_with fail
      refine (c_JoinRows g (htN zs) c zs _ HOW.out hm1 rfl (by have := HSL.out; omega)).mono ?_
      rintro e w8 ⟨rfl, n8⟩
      go_wp2
      go_ret
      exact ⟨rfl, ((n2.step n3).step hN).step n8⟩
end Go.Proofs.YtfnihmmkbnkmnaaDoor
