/- Contracts of the two functions that list the symmetries of a shape. -/
import Derived.Test.YtmjnjdoegjdlhaaTurn2
namespace Go.Proofs.Ytmjnjdoegjdlhaa
open Go.RowKit Go.Deep
set_option linter.unusedVariables false
set_option linter.unusedSimpArgs false

/-- the symmetries below k -/
def symT (zs : List (Int × Int)) (k : Nat) : List Int := ((List.range k).filter fun (i : Nat) => eqL (trnL zs (i : Int)) (homL zs)).map fun (i : Nat) => (i : Int)
theorem symT_len (zs : List (Int × Int)) (k : Nat) : (symT zs k).length ≤ k := by
  unfold symT
  rw [List.length_map]
  have := List.length_filter_le (fun (i : Nat) => eqL (trnL zs (i : Int)) (homL zs)) (List.range k)
  simpa using this
theorem symT_yes {zs : List (Int × Int)} {k : Nat} (h : eqL (trnL zs (k : Int)) (homL zs) = true) : symT zs (k + 1) = symT zs k ++ [(k : Int)] := by
  simp [symT, List.range_succ, List.filter_append, h]
theorem symT_no {zs : List (Int × Int)} {k : Nat} (h : eqL (trnL zs (k : Int)) (homL zs) = false) : symT zs (k + 1) = symT zs k := by
  simp [symT, List.range_succ, List.filter_append, h]
theorem sym_step {w' : World} {base : Nat} {e : TypeId} {v : Value} {zs : List (Int × Int)} {k : Nat} (h : eqL (trnL zs (k : Int)) (homL zs) = true)
    (ho : w'.ownsRow base e 1 v ((symT zs k).length + 1) ((symT zs k).map (Value.int .i64) ++ [.int .i64 (k : Int)])) : w'.ownsRow base e 1 v (symT zs (k + 1)).length ((symT zs (k + 1)).map (Value.int .i64)) := by
  rw [symT_yes h, List.map_append, List.length_append]
  exact ho

def symmRes (zs : List (Int × Int)) : List Int := if shpB zs then symT zs 8 else []
def symmCode (zs : List (Int × Int)) : Int := if shpB zs then 0 else 1
theorem symmRes_len (zs : List (Int × Int)) : (symmRes zs).length ≤ 8 := by
  unfold symmRes
  split
  · exact symT_len zs 8
  · simp

set_option maxHeartbeats 4000000 in
theorem c_specSymm (lo hi : Nat) (v : Value) (zs : List (Int × Int)) (w : World) (h : Rd w lo hi 2 v zs.length (zs.flatMap ptCells)) :
    Calls Try.prog 20 #[v] w (GivesRowCode w 2 1 (symmRes zs).length ((symmRes zs).map (Value.int .i64)) (symmCode zs)) := by
  have HR := Lib.hid h
  cases hs : shpB zs
  · have E := Lib.hid (show symmRes zs = [] ∧ symmCode zs = 1 by simp [symmRes, symmCode, hs])
    rw [E.out.1, E.out.2]
    go_enter Try.func20, Try.ntmps20
    go_wp2_with (go_at_call 29; refine (c_l04Ok lo hi _ zs _ HR.out).mono ?_; rintro e w1 ⟨rfl, n1⟩)
    go_ret2
    exact ⟨_, rfl, own_nil _ _ (Nat.le_refl _) _ _ _, n1⟩
  · obtain ⟨hn, hl⟩ := shpB_len hs
    have HB := Lib.hid (bdL_shp hs)
    have HM := Lib.hid (homL_len zs)
    have E := Lib.hid (show symmRes zs = symT zs 8 ∧ symmCode zs = 0 by simp [symmRes, symmCode, hs])
    rw [E.out.1, E.out.2]
    go_enter Try.func20, Try.ntmps20
    go_wp2_with fail
    refine (c_l04Ok lo hi _ zs _ HR.out).mono ?_
    rintro e w1 ⟨rfl, n1⟩
    go_wp2_with fail
    refine (c_l04Home lo hi _ zs _ (HR.out.new n1) hn (by omega) HB.out).mono ?_
    rintro e w2 ⟨u, rfl, hO, n2⟩
    have N2 := n1.step n2
    have HO := Lib.hid hO.rd
    have hz2 := N2.size
    clear hO n1 n2
    go_wp2
    go_loopw [5, 6] (fun v i wr => ∃ k : Nat, k ≤ 8 ∧ i = .int .i64 k ∧ wr.ownsRow w2.heap.size 2 1 v (symT zs k).length ((symT zs k).map (Value.int .i64)) ∧ New w2 wr) (fun _ i _ => 8 - (intOf i).toNat)
    case atStart => exact ⟨0, Nat.zero_le _, rfl, World.ownsRow_made w2 #[] 0 (Nat.le_refl _) (by omega) rfl, (New.same _).box _⟩
    case round =>
      obtain ⟨k, hk, rfl, hown, hN⟩ := hrel
      by_cases hlt : k < 8
      · have kb : (k : Int) < 8 := by omega
        have HL := Lib.hid (symT_len zs k)
        have HOW := Lib.hid hown
        clear hown
        go_wp2_with fail
        refine (c_l04Turned lo hi _ zs (k : Int) _ ((HR.out.new N2).new hN) hn (by omega) HB.out (by omega) (by omega)).mono ?_
        rintro e w3 ⟨u3, rfl, hO3, n3⟩
        go_wp2_with fail
        refine (c_l04Same _ _ _ _ _ _ (trnL zs (k : Int)) (homL zs) _ hO3.rd (by rw [HM.out]; exact (HO.out.new hN).new n3)).mono ?_
        rintro e w4 ⟨rfl, n4⟩
        have hN4 := (hN.step n3).step n4
        have HO4 := Lib.hid (ownsRow_new (ownsRow_new HOW.out n3) n4)
        have hz4 := hN4.size
        clear hO3 n3 n4
        cases he : eqL (trnL zs (k : Int)) (homL zs)
        · have HS := Lib.hid (symT_no he)
          go_wp2
          go_roundw
          case rel => exact ⟨k + 1, by omega, by go_num, by rw [HS.out]; exact HO4.out, hN4⟩
          case measure => simp [intOf]; omega
        · have HE := Lib.hid he
          go_wp2_with (at_builtin; refine wpList_app1 rfl _ _ rfl row_int64 _ w2.heap.size HO4.out rfl [.int .i64 (k : Int)] rfl rfl (by simp [Value.oneCell']) (by unfold maxLen; have := HL.out; omega) (by have := HL.out; omega) hz4 ?_; intro v1 w5 hown1 hb1 _ _)
          go_roundw
          case rel => exact ⟨k + 1, by omega, by go_num, sym_step HE.out hown1, hN4.trans hb1⟩
          case measure => simp [intOf]; omega
      · have ek : k = 8 := by omega
        subst ek
        go_wp2
        go_ret2
        exact ⟨_, rfl, (Own.of hown).wide hz2 (Nat.le_refl _) (Nat.le_refl _), N2.step hN⟩

set_option maxHeartbeats 4000000 in
theorem c_implSymm (lo hi : Nat) (v : Value) (zs : List (Int × Int)) (w : World) (h : Rd w lo hi 2 v zs.length (zs.flatMap ptCells)) :
    Calls Try.prog 21 #[v] w (GivesRowCode w 2 1 (symmRes zs).length ((symmRes zs).map (Value.int .i64)) (symmCode zs)) := by
  have HR := Lib.hid h
  cases hs : shpB zs
  · have E := Lib.hid (show symmRes zs = [] ∧ symmCode zs = 1 by simp [symmRes, symmCode, hs])
    have EC := show shpC zs true = 1 by simp [shpC, hs]
    rw [E.out.1, E.out.2]
    go_enter Try.func21, Try.ntmps21
    go_wp2_with fail
    refine (c_shapeCode lo hi _ zs true _ HR.out).mono ?_
    rintro e w1 ⟨rfl, n1⟩
    rw [EC]
    go_wp2
    go_ret2
    exact ⟨_, rfl, own_nil _ _ (Nat.le_refl _) _ _ _, n1⟩
  · obtain ⟨hn, hl⟩ := shpB_len hs
    have HB := Lib.hid (bdL_shp hs)
    have HD := Lib.hid (shp_nd hs)
    have HM := Lib.hid (homL_len zs)
    have E := Lib.hid (show symmRes zs = symT zs 8 ∧ symmCode zs = 0 by simp [symmRes, symmCode, hs])
    have EC := show shpC zs true = 0 by simp [shpC, hs]
    rw [E.out.1, E.out.2]
    go_enter Try.func21, Try.ntmps21
    go_wp2_with fail
    refine (c_shapeCode lo hi _ zs true _ HR.out).mono ?_
    rintro e w2 ⟨rfl, N2⟩
    rw [EC]
    have hz2 := N2.size
    clear EC
    go_wp2
    go_loopw [5, 12] (fun v i wr => ∃ k : Nat, k ≤ 8 ∧ i = .int .i64 k ∧ wr.ownsRow w2.heap.size 2 1 v (symT zs k).length ((symT zs k).map (Value.int .i64)) ∧ New w2 wr) (fun _ i _ => 8 - (intOf i).toNat)
    case atStart => exact ⟨0, Nat.zero_le _, rfl, World.ownsRow_nil _ _ _ _, New.same _⟩
    case round =>
      obtain ⟨k, hk, rfl, hown, hN⟩ := hrel
      by_cases hlt : k < 8
      · have kb : (k : Int) < 8 := by omega
        have HL := Lib.hid (symT_len zs k)
        have HOW := Lib.hid hown
        clear hown
        go_wp2_with fail
        refine (c_turned lo hi _ zs (k : Int) _ ((HR.out.new N2).new hN) hn (by omega) HB.out HD.out (by omega) (by omega)).mono ?_
        rintro e w3 ⟨u3, rfl, hO3, n3⟩
        go_wp2_with fail
        refine (c_home lo hi _ zs _ (((HR.out.new N2).new hN).new n3) hn (by omega) HB.out).mono ?_
        rintro e w4 ⟨u4, rfl, hO4, n4⟩
        go_wp2_with fail
        refine (c_equal_point _ _ _ _ _ _ (trnL zs (k : Int)) (homL zs) _ (hO3.rd.new n4) (by rw [HM.out]; exact hO4.rd)).mono ?_
        rintro e w5 ⟨rfl, n5⟩
        have hN5 := ((hN.step n3).step n4).step n5
        have HO5 := Lib.hid (ownsRow_new (ownsRow_new (ownsRow_new HOW.out n3) n4) n5)
        have hz5 := hN5.size
        clear hO3 hO4 n3 n4 n5
        cases he : eqL (trnL zs (k : Int)) (homL zs)
        · have HS := Lib.hid (symT_no he)
          go_wp2
          go_roundw
          case rel => exact ⟨k + 1, by omega, by go_num, by rw [HS.out]; exact HO5.out, hN5⟩
          case measure => simp [intOf]; omega
        · have HE := Lib.hid he
          go_wp2_with (at_builtin; refine wpList_app1 rfl _ _ rfl row_int64 _ w2.heap.size HO5.out rfl [.int .i64 (k : Int)] rfl rfl (by simp [Value.oneCell']) (by unfold maxLen; have := HL.out; omega) (by have := HL.out; omega) hz5 ?_; intro v1 w6 hown1 hb1 _ _)
          go_roundw
          case rel => exact ⟨k + 1, by omega, by go_num, sym_step HE.out hown1, hN5.trans hb1⟩
          case measure => simp [intOf]; omega
      · have ek : k = 8 := by omega
        subst ek
        go_wp2
        go_ret2
        exact ⟨_, rfl, (Own.of hown).wide hz2 (Nat.le_refl _) (Nat.le_refl _), N2.step hN⟩

end Go.Proofs.Ytmjnjdoegjdlhaa
