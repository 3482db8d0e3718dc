/- Contracts of the two functions that hand back a scaled shape. -/
import Derived.Test.YthafdlfhkcbjhaaScale
namespace Go.Proofs.Ythafdlfhkcbjhaa
open Go.RowKit Go.Deep
set_option linter.unusedVariables false
set_option linter.unusedSimpArgs false

/-- whether a scaled shape would be too great -/
def bigB (zs : List (Int × Int)) (k : Int) : Bool := decide (500 < (zs.length : Int) * k * k)
def scaleRes (zs : List (Int × Int)) (k : Int) : List (Int × Int) := if shpB zs && inB k 1 60 && !bigB zs k then vldL (scaL zs k.toNat) else []
def scaleCode (zs : List (Int × Int)) (k : Int) : Int := if shpB zs then (if inB k 1 60 then (if bigB zs k then 4 else vldC (scaL zs k.toNat)) else 2) else 1
theorem scaleRes_len (zs : List (Int × Int)) (k : Int) : (scaleRes zs k).length ≤ 500 := by
  unfold scaleRes
  split
  · exact vldL_len _
  · simp
def ifL (r : Bool) (xs : List (Int × Int)) : List (Int × Int) := if r then xs else []
def ifC (r : Bool) : Int := if r then 0 else 2
theorem big_bd {n k : Int} (n0 : 1 ≤ n) (n1 : n ≤ 500) (k1 : 1 ≤ k) (k2 : k ≤ 60) : (1 ≤ k * k ∧ k * k ≤ 3600) ∧ (1 ≤ n * k ∧ n * k ≤ 30000) ∧ 1 ≤ n * k * k ∧ n * k * k ≤ 1800000 := by
  have a1 := Int.mul_le_mul k1 k1 (by omega) (by omega)
  have a2 := Int.mul_le_mul k2 k2 (by omega) (by omega)
  have b1 := Int.mul_le_mul n0 k1 (by omega) (by omega)
  have b2 := Int.mul_le_mul n1 k2 (by omega) (by omega)
  have c1 := Int.mul_le_mul (show 1 ≤ n * k by omega) k1 (by omega) (by omega)
  have c2 := Int.mul_le_mul (show n * k ≤ 30000 by omega) k2 (by omega) (by omega)
  omega

set_option maxHeartbeats 8000000 in
theorem c_specScale_ok (lo hi : Nat) (v : Value) (zs : List (Int × Int)) (k : Int) (K : Nat) (r : Bool) (w : World) (h : Rd w lo hi 2 v zs.length (zs.flatMap ptCells)) (hs : shpB zs = true) (hK : (K : Int) = k) (k1 : 1 ≤ k) (k2 : k ≤ 60) (hbig : (zs.length : Int) * k * k ≤ 500) (hr : shpB (scaL zs K) = r) :
    Calls Try.prog 54 #[v, .int .i64 k] w (GivesRowCode w 66 2 (ifL r (scaL zs K)).length ((ifL r (scaL zs K)).flatMap ptCells) (ifC r)) := by
  have HR := Lib.hid h
  have HK := Lib.hid hK
  have HRR := Lib.hid hr
  obtain ⟨hn, hl⟩ := shpB_len hs
  have HD := Lib.hid (fun i (hi : i < zs.length) => bd60_shp hs zs[i] (List.getElem_mem hi))
  obtain ⟨⟨kk0, kk1⟩, ⟨nk0, nk1⟩, nkk0, nkk1⟩ := big_bd (n := (zs.length : Int)) (k := k) (by omega) (by omega) k1 k2
  have HKK := Lib.hid (show ((K * K : Nat) : Int) = k * k by rw [Int.natCast_mul, hK])
  have HNK := Lib.hid (show ((zs.length * (K * K) : Nat) : Int) = (zs.length : Int) * k * k by rw [Int.natCast_mul, Int.natCast_mul, hK, Int.mul_assoc])
  have hl2 : zs.length * (K * K) ≤ 500 := by have := HNK.out; omega
  have HLN := Lib.hid (scaT_len zs K (zs.length * (K * K)))
  have HST := Lib.hid (scaL_T zs K)
  have z1 : (k == 0) = false := by simp; omega
  have z2 : k ≠ 0 := by omega
  obtain ⟨_, hm, hh, A, c, rfl, hrd⟩ := h
  obtain ⟨b, off, rfl, _, hb1, hc⟩ := hrd hn
  have hkin : inB k 1 60 = true := inB_yes k1 k2
  have tb : decide (500 < (zs.length : Int) * k * k) = false := by simp; omega
  clear hc hrd hK hr
  go_enter Try.func54, Try.ntmps54
  go_wp2_with fail
  refine (c_l04Ok lo hi _ zs _ HR.out).mono ?_
  rintro e w1 ⟨rfl, n1⟩
  go_wp2_with (go_at_call 51; refine (c_l00In _ _ _ _).mono ?_; rintro e w' ⟨rfl, rfl⟩)
  have HR1 := Lib.hid (HR.out.new n1)
  have hz1 := n1.size
  have hbB : b < w1.heap.size := by omega
  go_loopw [6, 7] (fun v i wr => ∃ n m : Nat, n ≤ zs.length ∧ i = .int .i64 n ∧ Hid (m = n * (K * K)) ∧ wr.ownsRow w1.heap.size 66 2 v m ((scaT zs K m).flatMap ptCells) ∧ New w1 wr) (fun _ i _ => zs.length - (intOf i).toNat)
  case atStart => exact ⟨0, 0, Nat.zero_le _, rfl, Lib.hid (by simp), by rw [scaT_zero]; exact World.ownsRow_made w1 #[] 0 (Nat.le_refl _) (by omega) rfl, (New.same _).box _⟩
  case round =>
    obtain ⟨n, m, hnl, rfl, HM, hown, hN⟩ := hrel
    by_cases hlt : n < zs.length
    · obtain ⟨⟨d1, d2⟩, d3, d4⟩ := HD.out n hlt
      obtain ⟨P1a, P1b⟩ := mul_bd d1 d2 k1 k2
      obtain ⟨P2a, P2b⟩ := mul_bd d3 d4 k1 k2
      go_wp2
      go_loopw [6, 8] (fun v i wq => ∃ j m : Nat, j ≤ K * K ∧ i = .int .i64 j ∧ Hid (m = n * (K * K) + j) ∧ wq.ownsRow w1.heap.size 66 2 v m ((scaT zs K m).flatMap ptCells) ∧ New w1 wq) (fun _ i _ => K * K - (intOf i).toNat)
      case atStart => exact ⟨0, m, Nat.zero_le _, rfl, Lib.hid (by have := HM.out; omega), hown, hN⟩
      case round =>
        clear hown hN
        obtain ⟨j, m, hj, rfl, HM2, hown, hN⟩ := hrel
        have jb : (j : Int) ≤ 3600 := by have := HKK.out; omega
        by_cases hjl : j < K * K
        · have tj : (j : Int) < k * k := by have := HKK.out; omega
          obtain ⟨x0, x1, bw⟩ := rd_pt HR1.out hN rfl hlt
          have hz := hN.size
          have hmb : m < 500 := by
            have a1 : (n + 1) * (K * K) ≤ zs.length * (K * K) := Nat.mul_le_mul_right _ hlt
            rw [Nat.add_mul] at a1
            have := HM2.out
            omega
          have q1 : 0 ≤ (j : Int) % k ∧ (j : Int) % k < k := ⟨Int.emod_nonneg _ z2, Int.emod_lt_of_pos _ (by omega)⟩
          have q2 : 0 ≤ (j : Int) / k ∧ (j : Int) / k ≤ (j : Int) := ⟨Int.ediv_nonneg (by omega) (by omega), Int.ediv_le_self _ (by omega)⟩
          have E1 : Hid (IntKind.i64.wrap (zs[n].1 * k) = zs[n].1 * k) := Lib.hid (IntWalk.i64_in _ (by omega))
          have E2 : Hid (IntKind.i64.wrap (zs[n].2 * k) = zs[n].2 * k) := Lib.hid (IntWalk.i64_in _ (by omega))
          have E3 : Hid (Int.tmod (j : Int) k = (j : Int) % k) := Lib.hid (Int.tmod_eq_emod_of_nonneg (by omega))
          have E4 : Hid (IntKind.i64.wrap ((j : Int) / k) = (j : Int) / k) := Lib.hid (IntWalk.i64_in _ (by omega))
          have E5 : Hid (IntKind.i64.wrap (zs[n].1 * k + (j : Int) % k) = zs[n].1 * k + (j : Int) % k) := Lib.hid (IntWalk.i64_in _ (by omega))
          have E6 : Hid (IntKind.i64.wrap (zs[n].2 * k + (j : Int) / k) = zs[n].2 * k + (j : Int) / k) := Lib.hid (IntWalk.i64_in _ (by omega))
          have p0 : (0 : Int) ≤ (n : Int) := by omega
          have p1 : (n : Int) < (zs.length : Int) := by omega
          clear q1 q2
          go_upto_region 14 with fail
          have e1 := E1.out
          have e2 := E2.out
          have e3 := E3.out
          have e4 := E4.out
          have e5 := E5.out
          have e6 := E6.out
          go_region_held3 (fun w' => w'.cell? ⟨b, off + n * 2, none⟩ = some (.int .i64 zs[n].1) ∧ w'.cell? ⟨b, off + n * 2 + 1, none⟩ = some (.int .i64 zs[n].2))
            (first | (go_split_ands; exact ⟨(hb3.cell (p := ⟨b, off + n * 2, none⟩) hbB).trans (by assumption), (hb3.cell (p := ⟨b, off + n * 2 + 1, none⟩) hbB).trans (by assumption)⟩) | exact keepP (w1 := wr) (by (repeat' (first | (with_reducible exact New.same _) | (with_reducible assumption) | (with_reducible refine New.box ?_ _) | (with_reducible refine New.drew_ ?_) | (with_reducible refine New.set ?_ ?_ _ _) | (with_reducible refine New.step ?_ (by assumption))))) bw x0 x1)
            ((refine step_app1 (by rfl) _ _ (by rfl) row_point w1.heap.size ((hown.alloc _).drew) (by rfl) [.int .i64 (zs[n].1 * k + (j : Int) % k), .int .i64 (zs[n].2 * k + (j : Int) / k)] wr.heap.size (by rfl) (heap_alloc_new _ _) rfl (by simp [Value.oneCell']) (by unfold maxLen; omega) (by omega) (by simp; omega) ?_; intro v1 w2 hown1 hb3))
          have hN1 : New w1 w2 := (hN.drew_.box _).trans hb3
          clear hb3 E1 E2 E3 E4 E5 E6 e1 e2 e3 e4 e5 e6
          go_wp2
          go_roundw
          case rel => exact ⟨j + 1, m + 1, by omega, by go_num, Lib.hid (by have := HM2.out; omega), scaT_step HK.out HM2.out hjl hlt rfl rfl hown1, hN1⟩
          case measure => simp [intOf]; omega
        · have tj : decide ((j : Int) < k * k) = false := by have := HKK.out; simp; omega
          have EJ := Lib.hid (show j = K * K by omega)
          go_wp2
          go_roundw
          case rel => exact ⟨n + 1, m, by omega, by go_num, Lib.hid (by have := HM2.out; have e := EJ.out; rw [this, e, Nat.add_mul n, Nat.one_mul]), hown, hN⟩
          case measure => simp [intOf]; omega
    · have en : n = zs.length := by omega
      subst en
      have HO := Lib.hid (by have := Own.of hown; rw [HM.out] at this; exact this : Own wr w1.heap.size wr.heap.size 66 2 _ (zs.length * (K * K)) ((scaT zs K (zs.length * (K * K))).flatMap ptCells))
      clear hown
      go_wp2_with fail
      refine (c_l04Sorted _ _ _ (scaT zs K (zs.length * (K * K))) _ (by rw [HLN.out]; exact HO.out.rd) (by rw [HLN.out]; omega)).mono ?_
      rintro e w2 ⟨u2, rfl, hO2, n2⟩
      have HO2 := Lib.hid (by rw [HST.out] at hO2; exact hO2 : Own w2 wr.heap.size w2.heap.size 66 2 u2 (scaL zs K).length ((scaL zs K).flatMap ptCells))
      have hz3 := hN.size
      clear hO2
      go_wp2_with fail
      refine (c_l04Ok _ _ _ (scaL zs K) _ HO2.out.rd).mono ?_
      rintro e w3 ⟨rfl, n3⟩
      rw [HRR.out]
      cases r
      · go_wp2
        go_ret2
        exact ⟨_, rfl, own_nil _ _ (Nat.le_refl _) _ _ _, ((n1.step hN).step n2).step n3⟩
      · go_wp2
        go_ret2
        exact ⟨_, rfl, (HO2.out.new n3).wide (by omega) n3.size (Nat.le_refl _), ((n1.step hN).step n2).step n3⟩

set_option maxHeartbeats 1000000 in
theorem c_specScale (lo hi : Nat) (v : Value) (zs : List (Int × Int)) (k : Int) (w : World) (h : Rd w lo hi 2 v zs.length (zs.flatMap ptCells)) :
    Calls Try.prog 54 #[v, .int .i64 k] w (GivesRowCode w 66 2 (scaleRes zs k).length ((scaleRes zs k).flatMap ptCells) (scaleCode zs k)) := by
  have HR := Lib.hid h
  cases hs : shpB zs
  · have E := Lib.hid (show scaleRes zs k = [] ∧ scaleCode zs k = 1 by simp [scaleRes, scaleCode, hs])
    rw [E.out.1, E.out.2]
    go_enter Try.func54, Try.ntmps54
    go_wp2_with (go_at_call 50; refine (c_l04Ok lo hi _ zs _ HR.out).mono ?_; rintro e w1 ⟨rfl, n1⟩)
    go_ret2
    exact ⟨_, rfl, own_nil _ _ (Nat.le_refl _) _ _ _, n1⟩
  · obtain ⟨hn, hl⟩ := shpB_len hs
    cases hi7 : inB k 1 60
    · have E := Lib.hid (show scaleRes zs k = [] ∧ scaleCode zs k = 2 by simp [scaleRes, scaleCode, hs, hi7])
      rw [E.out.1, E.out.2]
      go_enter Try.func54, Try.ntmps54
      go_wp2_with fail
      refine (c_l04Ok lo hi _ zs _ HR.out).mono ?_
      rintro e w1 ⟨rfl, n1⟩
      go_wp2_with (go_at_call 51; refine (c_l00In _ _ _ _).mono ?_; rintro e w' ⟨rfl, rfl⟩)
      go_ret2
      exact ⟨_, rfl, own_nil _ _ (Nat.le_refl _) _ _ _, n1⟩
    · obtain ⟨k1, k2⟩ := inB_iff.1 hi7
      cases hb : bigB zs k
      · have hbig : (zs.length : Int) * k * k ≤ 500 := by simpa [bigB] using hb
        have hK : ((k.toNat : Nat) : Int) = k := by omega
        have key := c_specScale_ok lo hi v zs k k.toNat (shpB (scaL zs k.toNat)) w h hs hK k1 k2 hbig rfl
        have E1 : scaleRes zs k = ifL (shpB (scaL zs k.toNat)) (scaL zs k.toNat) := by simp [scaleRes, hs, hi7, hb, vldL, ifL]
        have E2 : scaleCode zs k = ifC (shpB (scaL zs k.toNat)) := by simp [scaleCode, hs, hi7, hb, vldC, ifC]
        rw [E1, E2]
        exact key
      · have hbig : 500 < (zs.length : Int) * k * k := by simpa [bigB] using hb
        obtain ⟨⟨kk0, kk1⟩, ⟨nk0, nk1⟩, nkk0, nkk1⟩ := big_bd (n := (zs.length : Int)) (k := k) (by omega) (by omega) k1 k2
        have E := Lib.hid (show scaleRes zs k = [] ∧ scaleCode zs k = 4 by simp [scaleRes, scaleCode, hs, hi7, hb])
        rw [E.out.1, E.out.2]
        obtain ⟨_, hm, hh, A, c, rfl, hrd⟩ := h
        clear hrd
        go_enter Try.func54, Try.ntmps54
        go_wp2_with fail
        refine (c_l04Ok lo hi _ zs _ HR.out).mono ?_
        rintro e w1 ⟨rfl, n1⟩
        go_wp2_with (go_at_call 51; refine (c_l00In _ _ _ _).mono ?_; rintro e w' ⟨rfl, rfl⟩)
        go_ret2
        exact ⟨_, rfl, own_nil _ _ (Nat.le_refl _) _ _ _, n1⟩


end Go.Proofs.Ythafdlfhkcbjhaa
