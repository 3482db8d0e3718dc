/- Contracts of the functions that write a shape. -/
import Derived.Test.YtfnihmmkbnkmnaaDoorShTextP
import Derived.Test.YtfnihmmkbnkmnaaDoorBounds
import Derived.Test.YtfnihmmkbnkmnaaDoorShapeOk
import Derived.Test.YtfnihmmkbnkmnaaDoorBuild
import Derived.Test.YtfnihmmkbnkmnaaDoorStrO
namespace Go.Proofs.YtfnihmmkbnkmnaaDoor
open Go.RowKit Go.Deep
set_option linter.unusedVariables false
set_option linter.unusedSimpArgs false

theorem info_U8 : (Tryd.prog.info? 5).map (fun i => (i.zero, i.size, i.bytes)) = some (some (.int .u8 0), 1, 1) := by kernel_rfl
theorem row_U8 : ElemRow Tryd.prog 81 5 1 1 := elemRow Tryd.underlying81 info_U8 rfl (by omega)
theorem bytes_one (l : List UInt8) (c : UInt8) : Lib.byteCells (l ++ [c]) = Lib.byteCells l ++ [.int .u8 (c.toNat : Int)] := by simp [Lib.byteCells]
theorem own_bytes {w : World} {base n g c : Nat} {e : TypeId} {l : List UInt8} (h : w.ownsRow base e 1 (.slice (some ⟨g, 0, none⟩) n c) n (Lib.byteCells l)) : ∀ j (hj : j < l.length), w.cell? (Addr.add ⟨g, 0, none⟩ j) = some (.int .u8 (l[j].toNat : Int)) := by
  intro j hj
  have hr := (Own.of h).rd
  have hbl := Lib.byteCells_length l
  have hn : n = l.length := by have := h.1; omega
  have hpl : (⟨g, 0, none⟩ : Addr).add j = ⟨g, j, none⟩ := by unfold Addr.add; split <;> simp_all
  rw [hpl]
  obtain ⟨_, _, _, A, cc, he, hrd⟩ := hr
  obtain ⟨b, off, rfl, _, _, hc⟩ := hrd (by omega)
  cases he
  have := hc j (.int .u8 (l[j].toNat : Int)) (by simp [Lib.byteCells, hj])
  simpa using this

/-- the reference's text behind m rows -/
def spT (zs : List (Int × Int)) (m : Nat) : List UInt8 := if m = htN zs then shT zs else accS zs m
theorem spT_lt {zs : List (Int × Int)} {m : Nat} (h : m < htN zs) : spT zs m = accS zs m := by simp [spT]; omega
theorem spT_zero {zs : List (Int × Int)} (h : 0 < htN zs) : spT zs 0 = [] := by rw [spT_lt h, accS_zero]
theorem spT_end (zs : List (Int × Int)) : spT zs (htN zs) = shT zs := by simp [spT]
theorem spT_step {zs : List (Int × Int)} {m : Nat} (h : m + 1 < htN zs) : spT zs (m + 1) = accS zs m ++ rwT zs (hghY zs - (m : Int)) (wdN zs) ++ [47] := by rw [spT_lt h, accS_succ]
theorem spT_fin {zs : List (Int × Int)} {m : Nat} (h : m + 1 = htN zs) : spT zs (m + 1) = accS zs m ++ rwT zs (hghY zs - (m : Int)) (wdN zs) := by rw [h, spT_end, shT_last zs m h.symm]
theorem row_yes {zs : List (Int × Int)} {m : Nat} {y : Int} {i : Nat} {w : World} {base : Nat} {e : TypeId} {v : Value} (h : hasB zs (lowX zs + (i : Int), y) = true)
    (ho : w.ownsRow base e 1 v ((accS zs m ++ rwT zs y i).length + 1) (Lib.byteCells (accS zs m ++ rwT zs y i) ++ [.int .u8 35])) : w.ownsRow base e 1 v (accS zs m ++ rwT zs y (i + 1)).length (Lib.byteCells (accS zs m ++ rwT zs y (i + 1))) := by
  rw [rwT_yes h, ← List.append_assoc, bytes_one, List.length_append (bs := [35])]
  exact ho
theorem row_no {zs : List (Int × Int)} {m : Nat} {y : Int} {i : Nat} {w : World} {base : Nat} {e : TypeId} {v : Value} (h : hasB zs (lowX zs + (i : Int), y) = false)
    (ho : w.ownsRow base e 1 v ((accS zs m ++ rwT zs y i).length + 1) (Lib.byteCells (accS zs m ++ rwT zs y i) ++ [.int .u8 46])) : w.ownsRow base e 1 v (accS zs m ++ rwT zs y (i + 1)).length (Lib.byteCells (accS zs m ++ rwT zs y (i + 1))) := by
  rw [rwT_no h, ← List.append_assoc, bytes_one, List.length_append (bs := [46])]
  exact ho

set_option maxRecDepth 20000 in
set_option maxHeartbeats 8000000 in
theorem c_specShapeText (lo hi : Nat) (v : Value) (zs : List (Int × Int)) (w : World) (h : Rd w lo hi 2 v zs.length (zs.flatMap ptCells)) :
    Calls Tryd.prog 23 #[v] w fun e w' => e = .returned (.string (shTxt zs)) ∧ New w w' := by
  have HR := Lib.hid h
  cases hs : shpB zs
  · have E := Lib.hid (show shTxt zs = ⟨#[]⟩ by simp [shTxt, hs])
    rw [E.out]
    go_enter Tryd.func23, Tryd.ntmps23
    go_wp2_with fail
    refine (c_l04Ok lo hi _ zs _ HR.out).mono ?_
    rintro e w1 ⟨rfl, n1⟩
    go_wp2_with fail
    go_ret
    exact ⟨rfl, n1⟩
  · have E := Lib.hid (show shTxt zs = ⟨(shT zs).toArray⟩ by simp [shTxt, hs])
    rw [E.out]
    obtain ⟨hn, hl⟩ := shpB_len hs
    have HAS := Lib.hid (shp_ascP hs)
    obtain ⟨⟨⟨a1, a2⟩, a3⟩, ⟨b1, b2⟩, b3⟩ := bnd60 hs
    have HW := Lib.hid (show (wdN zs : Int) = hghX zs - lowX zs + 1 by unfold wdN; omega)
    have HH := Lib.hid (show (htN zs : Int) = hghY zs - lowY zs + 1 by unfold htN; omega)
    have HAB := Lib.hid (fun m (hm : m ≤ htN zs) => acc_bd hs hm)
    have HSL := Lib.hid (sh_len hs)
    have HLAST := Lib.hid (fun m => shT_last zs m)
    clear h
    go_enter Tryd.func23, Tryd.ntmps23
    go_wp2_with fail
    refine (c_l04Ok lo hi _ zs _ HR.out).mono ?_
    rintro e w1 ⟨rfl, n1⟩
    go_wp2_with fail
    refine (c_l03Bounds lo hi _ zs _ (HR.out.new n1) hn).mono ?_
    rintro e w2 ⟨rfl, n2⟩
    have HR2 := Lib.hid ((HR.out.new n1).new n2)
    have N2 := n1.step n2
    have n3 : New w2 ((w2.alloc (.cells #[.int .i64 (lowX zs), .int .i64 (lowY zs)] 55)).alloc (.cells #[.int .i64 (hghX zs), .int .i64 (hghY zs)] 55)) := ((New.same w2).box _).box _
    have B0 : BoxV ((w2.alloc (.cells #[.int .i64 (lowX zs), .int .i64 (lowY zs)] 55)).alloc (.cells #[.int .i64 (hghX zs), .int .i64 (hghY zs)] 55)) w2.heap.size [.int .i64 (lowX zs), .int .i64 (lowY zs)] := .two (by go_simp) (by go_simp) (by go_simp) (by go_simp) (by simp; omega)
    have B1 : BoxV ((w2.alloc (.cells #[.int .i64 (lowX zs), .int .i64 (lowY zs)] 55)).alloc (.cells #[.int .i64 (hghX zs), .int .i64 (hghY zs)] 55)) (w2.heap.size + 1) [.int .i64 (hghX zs), .int .i64 (hghY zs)] := .two (by go_simp) (by go_simp) (by go_simp) (by go_simp) (by simp)
    go_upto_region 4 with fail
    generalize (w2.alloc (.cells #[.int .i64 (lowX zs), .int .i64 (lowY zs)] 55)).alloc (.cells #[.int .i64 (hghX zs), .int .i64 (hghY zs)] 55) = W at *
    have ⟨⟨c0, d0⟩, _, l0⟩ := B0.at2
    have ⟨⟨c1, d1⟩, _, l1⟩ := B1.at2
    have hzW := n3.size
    go_wp2
    clear c0 d0 l0 c1 d1 l1
    go_loopw [5, 6] (fun v y wr => ∃ m : Nat, m ≤ htN zs ∧ y = .int .i64 (hghY zs - (m : Int)) ∧ wr.ownsRow W.heap.size 5 1 v (spT zs m).length (Lib.byteCells (spT zs m)) ∧ New W wr) (fun v y _ => (intOf y + 61).toNat)
    case atStart => exact ⟨0, Nat.zero_le _, by simp, by rw [spT_zero (by have := HH.out; omega)]; exact World.ownsRow_made W #[] 0 (Nat.le_refl _) (by omega) rfl, (New.same _).box _⟩
    case round =>
      obtain ⟨m, hmh, rfl, hown, hN⟩ := hrel
      have ⟨⟨c0, d0⟩, _, l0⟩ := (B0.new hN).at2
      have ⟨⟨c1, d1⟩, _, l1⟩ := (B1.new hN).at2
      by_cases hmlt : m < htN zs
      · have t1 : lowY zs ≤ hghY zs - (m : Int) := by have := HH.out; omega
        rw [spT_lt hmlt] at hown
        have HACC := Lib.hid (HAB.out m hmh)
        have hmb : (m : Int) ≤ 120 := by have := HH.out; omega
        have HOW := Lib.hid hown
        clear hown
        go_wp2
        clear c0 d0 l0 c1 d1 l1
        go_loopw [5, 7] (fun v x wq => ∃ i : Nat, i ≤ wdN zs ∧ x = .int .i64 (lowX zs + (i : Int)) ∧ wq.ownsRow W.heap.size 5 1 v (accS zs m ++ rwT zs (hghY zs - (m : Int)) i).length (Lib.byteCells (accS zs m ++ rwT zs (hghY zs - (m : Int)) i)) ∧ New W wq) (fun v x _ => (hghX zs + 1 - intOf x).toNat)
        case atStart => exact ⟨0, Nat.zero_le _, by simp, by rw [rwT_zero, List.append_nil]; exact HOW.out, hN⟩
        case round =>
          clear hN HOW
          obtain ⟨i, hiw, rfl, hown, hN⟩ := hrel
          have ⟨⟨c0, d0⟩, _, l0⟩ := (B0.new hN).at2
          have ⟨⟨c1, d1⟩, _, l1⟩ := (B1.new hN).at2
          have HLEN := Lib.hid (show (accS zs m ++ rwT zs (hghY zs - (m : Int)) i).length ≤ 20121 by rw [List.length_append, rwT_len]; have := HACC.out; have := HW.out; omega)
          have HOW := Lib.hid hown
          clear hown
          have hz := hN.size
          by_cases hilt : i < wdN zs
          · have t2 : lowX zs + (i : Int) ≤ hghX zs := by have := HW.out; omega
            have tib : (i : Int) ≤ 120 := by omega
            go_wp2_with fail
            refine (c_l04Has lo hi _ zs (lowX zs + (i : Int), hghY zs - (m : Int)) _ ((HR2.out.new n3).new hN) HAS.out (by omega)).mono ?_
            rintro e w5 ⟨rfl, n5⟩
            have HO5 := Lib.hid (ownsRow_new HOW.out n5)
            have hz5 := (hN.step n5).size
            clear c0 d0 l0 c1 d1 l1
            have ⟨⟨c0, d0⟩, _, l0⟩ := ((B0.new hN).new n5).at2
            have ⟨⟨c1, d1⟩, _, l1⟩ := ((B1.new hN).new n5).at2
            cases hq : hasB zs (lowX zs + (i : Int), hghY zs - (m : Int))
            · have HQ := Lib.hid hq
              go_wp2_with (at_builtin; refine wpList_app1 rfl _ _ rfl row_U8 _ W.heap.size HO5.out rfl [.int .u8 46] rfl rfl (by simp [Value.oneCell']) (by unfold maxLen; have := HLEN.out; omega) (by have := HLEN.out; omega) hz5 ?_; intro v1 w6 hown1 hb6 _ _; clear c0 d0 l0 c1 d1 l1)
              go_roundw
              case rel => exact ⟨i + 1, by omega, by congr 1; omega, row_no HQ.out hown1, (hN.step n5).trans hb6⟩
              case measure => simp [intOf]; omega
            · have HQ := Lib.hid hq
              go_wp2_with (at_builtin; refine wpList_app1 rfl _ _ rfl row_U8 _ W.heap.size HO5.out rfl [.int .u8 35] rfl rfl (by simp [Value.oneCell']) (by unfold maxLen; have := HLEN.out; omega) (by have := HLEN.out; omega) hz5 ?_; intro v1 w6 hown1 hb6 _ _; clear c0 d0 l0 c1 d1 l1)
              go_roundw
              case rel => exact ⟨i + 1, by omega, by congr 1; omega, row_yes HQ.out hown1, (hN.step n5).trans hb6⟩
              case measure => simp [intOf]; omega
          · have t2 : ¬ (lowX zs + (i : Int) ≤ hghX zs) := by have := HW.out; omega
            have ei : i = wdN zs := by omega
            subst ei
            by_cases hml : m + 1 < htN zs
            · have t3 : lowY zs < hghY zs - (m : Int) := by have := HH.out; omega
              have HSS := Lib.hid (spT_step hml)
              go_wp2_with (at_builtin; refine wpList_app1 rfl _ _ rfl row_U8 _ W.heap.size HOW.out rfl [.int .u8 47] rfl rfl (by simp [Value.oneCell']) (by unfold maxLen; have := HLEN.out; omega) (by have := HLEN.out; omega) hz ?_; intro v1 w6 hown1 hb6 _ _; clear c0 d0 l0 c1 d1 l1)
              go_roundw
              case rel => exact ⟨m + 1, by omega, by congr 1; omega, by rw [HSS.out, bytes_one, List.length_append (bs := [47])]; exact hown1, hN.trans hb6⟩
              case measure => simp [intOf]; omega
            · have t3 : ¬ (lowY zs < hghY zs - (m : Int)) := by have := HH.out; omega
              have HSS := Lib.hid (spT_fin (show m + 1 = htN zs by omega))
              go_wp2
              go_roundw
              case rel => exact ⟨m + 1, by omega, by congr 1; omega, by rw [HSS.out]; exact HOW.out, hN⟩
              case measure => simp [intOf]; omega
      · have em : m = htN zs := by omega
        have t1 : ¬ (lowY zs ≤ hghY zs - (m : Int)) := by have := HH.out; omega
        rw [em, spT_end] at hown
        obtain ⟨g, c, rfl⟩ := own_form hown HSL.out.1
        have hcv := run_convert_bytes_back (P := Tryd.prog) wr 81 9 5 ⟨g, 0, none⟩ c (shT zs) Tryd.underlying81 Tryd.underlying5 Tryd.underlying9 (own_bytes hown)
        have HOW := Lib.hid hown
        clear hown
        go_wp2
        go_ret
        exact ⟨rfl, (N2.step n3).step hN⟩
end Go.Proofs.YtfnihmmkbnkmnaaDoor
