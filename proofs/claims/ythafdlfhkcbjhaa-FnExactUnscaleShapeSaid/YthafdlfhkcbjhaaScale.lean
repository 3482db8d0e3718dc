/- Contracts of the functions that scale a shape. -/
import Derived.Test.YthafdlfhkcbjhaaUnP
import Derived.Test.YthafdlfhkcbjhaaPut
import Derived.Test.YthafdlfhkcbjhaaComp
import Derived.Test.YthafdlfhkcbjhaaScaleP
namespace Go.Proofs.Ythafdlfhkcbjhaa
open Go.RowKit Go.Deep
set_option linter.unusedVariables false
set_option linter.unusedSimpArgs false

/-- all coordinates of a point -/
def bd60 (zs : List (Int × Int)) : Prop := ∀ z ∈ zs, (-60 ≤ z.1 ∧ z.1 ≤ 60) ∧ -60 ≤ z.2 ∧ z.2 ≤ 60
theorem bd60_shp {zs : List (Int × Int)} (h : shpB zs = true) : bd60 zs := vp_bd (shpB_vp h)
theorem mul_bd {x k : Int} (h1 : -60 ≤ x) (h2 : x ≤ 60) (k1 : 1 ≤ k) (k2 : k ≤ 60) : -3600 ≤ x * k ∧ x * k ≤ 3600 := by
  rcases Int.le_total 0 x with h | h
  · have := Int.mul_le_mul h2 k2 (by omega) (by omega)
    have := Int.mul_nonneg h (show 0 ≤ k by omega)
    omega
  · have h' : 0 ≤ -x := by omega
    have := Int.mul_le_mul (show -x ≤ 60 by omega) k2 (by omega) (by omega)
    have := Int.mul_nonneg h' (show 0 ≤ k by omega)
    rw [Int.neg_mul] at *
    omega
theorem scaT_step {w' : World} {base : Nat} {e : TypeId} {v : Value} {zs : List (Int × Int)} {K m i j : Nat} {k x y : Int} (hk : (K : Int) = k) (hm : m = i * (K * K) + j) (hj : j < K * K) (hi : i < zs.length)
    (hx : x = zs[i].1 * k + (j : Int) % k) (hy : y = zs[i].2 * k + (j : Int) / k)
    (h : w'.ownsRow base e 2 v (m + 1) ((scaT zs K m).flatMap ptCells ++ [.int .i64 x, .int .i64 y])) : w'.ownsRow base e 2 v (m + 1) ((scaT zs K (m + 1)).flatMap ptCells) := by
  subst hx; subst hy; subst hk
  rw [scaT_succ hm hj hi, List.flatMap_append]
  simpa [ptCells] using h
theorem scaI_step {w' : World} {base : Nat} {e : TypeId} {v : Value} {zs : List (Int × Int)} {K m i a b : Nat} {k : Int} (hk : (K : Int) = k) (hm : m = (i * K + a) * K + b) (ha : a < K) (hb : b < K) (hi : i < zs.length)
    (h : w'.ownsRow base e 2 v (m + 1) ((scaI zs K m).flatMap ptCells ++ [.int .i64 (k * zs[i].1 + (a : Int)), .int .i64 (k * zs[i].2 + (b : Int))])) : w'.ownsRow base e 2 v (m + 1) ((scaI zs K (m + 1)).flatMap ptCells) := by
  subst hk
  rw [scaI_succ hm ha hb hi, List.flatMap_append]
  simpa [ptCells] using h
theorem scaT_zero (zs : List (Int × Int)) (K : Nat) : (scaT zs K 0).flatMap ptCells = [] := by simp [scaT]
theorem scaI_zero (zs : List (Int × Int)) (K : Nat) : (scaI zs K 0).flatMap ptCells = [] := by simp [scaI]

set_option maxHeartbeats 8000000 in
theorem c_scaled (lo hi : Nat) (v : Value) (zs : List (Int × Int)) (k : Int) (K : Nat) (w : World) (h : Rd w lo hi 2 v zs.length (zs.flatMap ptCells)) (hn : 0 < zs.length) (hl : zs.length * (K * K) ≤ 1000000) (hb : bd60 zs) (hd : zs.Nodup) (hK : (K : Int) = k) (k1 : 1 ≤ k) (k2 : k ≤ 60) :
    Calls Try.prog 62 #[v, .int .i64 k] w (GivesRow w 66 2 (scaL zs K).length ((scaL zs K).flatMap ptCells)) := by
  have HR := Lib.hid h
  have HK := Lib.hid hK
  have hKn : 1 ≤ K := by omega
  have HD := Lib.hid (fun i (hi : i < zs.length) => hb zs[i] (List.getElem_mem hi))
  have HND := Lib.hid (scaI_nd (K := K) hd)
  have HLN := Lib.hid (scaI_len zs K (zs.length * (K * K)))
  have hpos : 0 < zs.length * (K * K) := Nat.mul_pos hn (Nat.mul_pos hKn hKn)
  obtain ⟨_, hm, hh, A, c, rfl, hrd⟩ := h
  obtain ⟨b, off, rfl, _, hb1, hc⟩ := hrd hn
  have hl' : zs.length ≤ 1000000 := Nat.le_trans (Nat.le_mul_of_pos_right _ (Nat.mul_pos hKn hKn)) hl
  clear hc hrd hb hd hK
  go_enter Try.func62, Try.ntmps62
  go_wp2
  go_loopw [5, 12] (fun v i wr => ∃ n m : Nat, n ≤ zs.length ∧ i = .int .i64 n ∧ Hid (m = n * (K * K)) ∧ wr.ownsRow w.heap.size 66 2 v m ((scaI zs K m).flatMap ptCells) ∧ New w wr) (fun _ i _ => zs.length - (intOf i).toNat)
  case atStart => exact ⟨0, 0, Nat.zero_le _, rfl, Lib.hid (by simp), by rw [scaI_zero]; exact World.ownsRow_nil _ _ _ _, New.same _⟩
  case round =>
    obtain ⟨n, m, hnl, rfl, HM, hown, hN⟩ := hrel
    by_cases hlt : n < zs.length
    · obtain ⟨x0, x1, bw⟩ := rd_pt HR.out hN rfl hlt
      obtain ⟨⟨d1, d2⟩, d3, d4⟩ := HD.out n hlt
      have P1 : -3600 ≤ k * zs[n].1 ∧ k * zs[n].1 ≤ 3600 := by rw [Int.mul_comm]; exact mul_bd d1 d2 k1 k2
      have P2 : -3600 ≤ k * zs[n].2 ∧ k * zs[n].2 ≤ 3600 := by rw [Int.mul_comm]; exact mul_bd d3 d4 k1 k2
      obtain ⟨P1a, P1b⟩ := P1
      obtain ⟨P2a, P2b⟩ := P2
      have n7 : New wr (wr.alloc (.cells #[.int .i64 zs[n].1, .int .i64 zs[n].2] 66)) := (New.same wr).box _
      have C7 : BoxV (wr.alloc (.cells #[.int .i64 zs[n].1, .int .i64 zs[n].2] 66)) wr.heap.size [.int .i64 zs[n].1, .int .i64 zs[n].2] := .two (by go_simp) (by go_simp) (by go_simp) (by go_simp) (by simp)
      have HOW := Lib.hid (ownsRow_new hown n7)
      have hown7 : (wr.alloc (.cells #[.int .i64 zs[n].1, .int .i64 zs[n].2] 66)).ownsRow w.heap.size 66 2 _ m ((scaI zs K m).flatMap ptCells) := HOW.out
      have hne7 : ∀ g, Value.ownBlock _ = some g → g ≠ wr.heap.size := fun g hg => Nat.ne_of_lt (hown.lt g hg).2
      have HNE := Lib.hid hne7
      clear hown hne7
      go_wp2
      clear x0 x1 bw
      generalize wr.alloc (.cells #[.int .i64 zs[n].1, .int .i64 zs[n].2] 66) = W7 at *
      have hN7 := hN.step n7
      have hr7 : w.heap.size ≤ wr.heap.size := hN.size
      generalize wr.heap.size = r at *
      go_loopw [5, 17] (fun v i wq => ∃ a m : Nat, a ≤ K ∧ i = .int .i64 a ∧ Hid (m = (n * K + a) * K) ∧ Hid (∀ g, v.ownBlock = some g → g ≠ r) ∧ wq.ownsRow w.heap.size 66 2 v m ((scaI zs K m).flatMap ptCells) ∧ BoxV wq r [.int .i64 zs[n].1, .int .i64 zs[n].2] ∧ New w wq) (fun _ i _ => K - (intOf i).toNat)
      case atStart => exact ⟨0, m, Nat.zero_le _, rfl, Lib.hid (by have := HM.out; rw [this, Nat.add_zero, Nat.mul_assoc]), HNE, hown7, C7, hN7⟩
      case round =>
        clear hown7 C7 HNE
        obtain ⟨a, m, ha, rfl, HM2, HNE, hown, C7, hN8⟩ := hrel
        by_cases hal : a < K
        · have ta : (a : Int) < k := by have := HK.out; omega
          go_wp2
          go_loopw [5, 21] (fun v i wq => ∃ c m : Nat, c ≤ K ∧ i = .int .i64 c ∧ Hid (m = (n * K + a) * K + c) ∧ Hid (∀ g, v.ownBlock = some g → g ≠ r) ∧ wq.ownsRow w.heap.size 66 2 v m ((scaI zs K m).flatMap ptCells) ∧ BoxV wq r [.int .i64 zs[n].1, .int .i64 zs[n].2] ∧ New w wq) (fun _ i _ => K - (intOf i).toNat)
          case atStart => exact ⟨0, m, Nat.zero_le _, rfl, Lib.hid (by have := HM2.out; omega), HNE, hown, C7, hN8⟩
          case round =>
            clear hown C7 hN8 HNE HM2
            obtain ⟨c, m, hc, rfl, HM3, HNE, hown, C7, hN8⟩ := hrel
            by_cases hcl : c < K
            · have tc : (c : Int) < k := by have := HK.out; omega
              have ⟨⟨c0, e0⟩, _, l0⟩ := C7.at2
              have hz8 := hN8.size
              have hmb : m < zs.length * (K * K) := by
                have a1 : (n + 1) * K ≤ zs.length * K := Nat.mul_le_mul_right _ hlt
                have a2 : (n * K + a + 1) * K ≤ zs.length * K * K := Nat.mul_le_mul_right _ (by rw [Nat.add_mul] at a1; omega)
                rw [Nat.add_mul, Nat.mul_assoc zs.length] at a2
                have := HM3.out
                omega
              have HOW := Lib.hid hown
              clear hown
              go_wp2_with (at_builtin; refine wpList_app1 rfl _ _ rfl row_point _ w.heap.size HOW.out rfl [.int .i64 (k * zs[n].1 + (a : Int)), .int .i64 (k * zs[n].2 + (c : Int))] rfl rfl (by simp [Value.oneCell']) (by unfold maxLen; omega) (by omega) hz8 ?_; intro v1 w3 hown1 hb3 hg3 hv3)
              have HNE2 : Hid (∀ g, v1.ownBlock = some g → g ≠ r) := Lib.hid (fun g hg => by
                rcases hv3 with e | e
                · exact HNE.out g (by rw [← e]; exact hg)
                · rw [e] at hg; simp at hg; omega)
              have C8 : BoxV w3 r _ := C7.grown hg3 (fun e => HNE.out r e.symm rfl)
              clear hg3 hv3 c0 e0
              go_roundw
              case rel => exact ⟨c + 1, m + 1, by omega, by go_num, Lib.hid (by have := HM3.out; omega), HNE2, scaI_step HK.out HM3.out hal hcl hlt hown1, C8, hN8.trans hb3⟩
              case measure => simp [intOf]; omega
            · have tc : decide ((c : Int) < k) = false := by have := HK.out; simp; omega
              have ec : c = K := by omega
              subst ec
              go_wp2
              go_roundw
              case rel => exact ⟨a + 1, m, by omega, by go_num, Lib.hid (by have := HM3.out; rw [this, Nat.add_mul (n * _), Nat.add_mul (n * _), Nat.add_mul a, Nat.add_assoc, Nat.one_mul]), HNE, hown, C7, hN8⟩
              case measure => simp [intOf]; omega
        · have ta : decide ((a : Int) < k) = false := by have := HK.out; simp; omega
          have ea : a = K := by omega
          subst ea
          go_wp2
          go_roundw
          case rel => exact ⟨n + 1, m, by omega, by go_num, Lib.hid (by have := HM2.out; rw [this, Nat.add_mul n, Nat.add_mul (n * _), Nat.one_mul, Nat.mul_assoc]), hown, hN8⟩
          case measure => simp [intOf]; omega
    · have en : n = zs.length := by omega
      subst en
      have HO := Lib.hid (by have := Own.of hown; rw [HM.out] at this; exact this : Own wr w.heap.size wr.heap.size 66 2 _ (zs.length * (K * K)) ((scaI zs K (zs.length * (K * K))).flatMap ptCells))
      clear hown
      go_wp2_with fail
      refine (c_sortedShape _ _ _ (scaI zs K (zs.length * (K * K))) _ (by rw [HLN.out]; exact HO.out.rd) (by rw [HLN.out]; exact hpos) (by rw [HLN.out]; exact hl) HND.out).mono ?_
      rintro e w2 ⟨u2, rfl, hO2, n2⟩
      go_wp2
      go_ret
      exact ⟨_, rfl, hO2.wide hN.size (Nat.le_refl _) (Nat.le_refl _), hN.step n2⟩

end Go.Proofs.Ythafdlfhkcbjhaa
