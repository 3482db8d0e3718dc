/- Contracts of the functions that turn digits into a number. -/
import Derived.Test.YtcgnbmobemhkiaaCount
import Derived.Test.YtcgnbmobemhkiaaSched
namespace Go.Proofs.Ytcgnbmobemhkiaa
open Go.RowKit

/-- the number of digits, the highest first -/
def numD (b : Int) (ds : List Int) : Int := ds.foldl (fun n d => n * b + d) 0
theorem numD_succ (b : Int) (ds : List Int) (k : Nat) (h : k < ds.length) : numD b (ds.take (k + 1)) = numD b (ds.take k) * b + ds[k] := by
  unfold numD
  rw [List.take_succ_eq_append_getElem h, List.foldl_append]
  rfl
/-- all digits are from 0 to less than the base -/
def digB (b : Int) (ds : List Int) : Bool := !(ds.any fun d => !inB d 0 (b - 1))
theorem digB_at {b : Int} {ds : List Int} (h : digB b ds = true) {k : Nat} (hk : k < ds.length) : 0 ≤ ds[k] ∧ ds[k] ≤ b - 1 := by
  simp only [digB, Bool.not_eq_true', List.any_eq_false] at h
  have := h _ (List.getElem_mem hk)
  simpa [inB_iff] using this
theorem numD_bd {b : Int} {ds : List Int} (h1 : 2 ≤ b) (h2 : b ≤ 6) (hd : ∀ k (hk : k < ds.length), 0 ≤ ds[k] ∧ ds[k] ≤ b - 1) : ∀ k, k ≤ ds.length → 0 ≤ numD b (ds.take k) ∧ numD b (ds.take k) ≤ pw b k - 1 := by
  intro k
  induction k with
  | zero => intro _; simp [numD, pw]
  | succ k ih =>
    intro hk
    obtain ⟨a1, a2⟩ := ih (by omega)
    obtain ⟨d1, d2⟩ := hd k (by omega)
    rw [numD_succ b ds k (by omega)]
    have e1 : 0 ≤ numD b (ds.take k) * b := Int.mul_nonneg a1 (by omega)
    have e2 : numD b (ds.take k) * b ≤ (pw b k - 1) * b := Int.mul_le_mul_of_nonneg_right a2 (by omega)
    have e3 : (pw b k - 1) * b = pw b (k + 1) - b := by rw [Int.sub_mul, Int.one_mul]; rfl
    omega

/-- the same of the digits seen so far -/
theorem numD_part {b : Int} {zs : List Int} (h1 : 2 ≤ b) (h2 : b ≤ 6) {k : Nat} (hlt : k < zs.length) (h : ∀ j (hj : j < zs.length), j < k + 1 → (!inB zs[j] 0 (b - 1)) = false) :
    0 ≤ numD b (zs.take k) ∧ numD b (zs.take k) ≤ pw b k - 1 ∧ 0 ≤ numD b (zs.take (k + 1)) ∧ numD b (zs.take (k + 1)) ≤ pw b (k + 1) - 1 := by
  have hd : ∀ j (hj : j < (zs.take (k + 1)).length), 0 ≤ (zs.take (k + 1))[j] ∧ (zs.take (k + 1))[j] ≤ b - 1 := by
    intro j hj
    have hj' : j < k + 1 := by simp at hj; omega
    have := h j (by omega) hj'
    simp only [Bool.not_eq_eq_eq_not, Bool.not_false, inB_iff] at this
    rw [List.getElem_take]
    exact this
  have a := numD_bd h1 h2 hd k (by simp; omega)
  have c := numD_bd h1 h2 hd (k + 1) (by simp; omega)
  rw [List.take_take, Nat.min_eq_left (by omega)] at a
  rw [List.take_take, Nat.min_eq_left (by omega)] at c
  exact ⟨a.1, a.2, c.1, c.2⟩

def nofOk (b : Int) (ds : List Int) : Bool := dgB b ds.length && digB b ds
def nofN (b : Int) (ds : List Int) : Int := if nofOk b ds then numD b ds else 0
def nofCode (b : Int) (ds : List Int) : Int := if nofOk b ds then 0 else 2

set_option maxHeartbeats 1000000 in
theorem c_numberOf (b : Int) (lo hi : Nat) (v : Value) (zs : List Int) (w : World) (h : Rd w lo hi 1 v zs.length (zs.map (Value.int .i64))) (h1 : 2 ≤ b) (h2 : b ≤ 6) (h3 : zs.length ≤ 8) (hd : digB b zs = true) :
    Calls Try.prog 63 #[.int .i64 b, v] w fun e w' => e = .returned (.int .i64 (numD b zs)) ∧ New w w' := by
  obtain ⟨_, hm, hh, A, c, rfl, hrd⟩ := h
  have HD := Lib.hid (fun k hk => digB_at (k := k) hd hk)
  clear hd
  go_enter Try.func63, Try.ntmps63
  go_wp2
  go_loopw [5, 7, 10] (fun n _ i wr => ∃ k : Nat, k ≤ zs.length ∧ i = .int .i64 k ∧ n = .int .i64 (numD b (zs.take k)) ∧ New w wr) (fun _ _ i _ => zs.length - (intOf i).toNat)
  case atStart => exact ⟨0, Nat.zero_le _, rfl, rfl, New.same _⟩
  case round =>
    obtain ⟨k, hk, rfl, rfl, hN⟩ := hrel
    by_cases hlt : k < zs.length
    · obtain ⟨b', off, rfl, _, hb1, hc⟩ := hrd (by omega)
      have hx : wr.cell? ⟨b', off + k, none⟩ = some (.int .i64 zs[k]) := by
        rw [hN.cell (p := ⟨b', off + k, none⟩) (by simp; omega)]
        exact hc k _ (by simp [hlt])
      clear hc hrd
      have HS := Lib.hid (numD_succ b zs k hlt)
      obtain ⟨a1, a2⟩ := numD_bd h1 h2 HD.out k (by omega)
      obtain ⟨a3, a4⟩ := numD_bd h1 h2 HD.out (k + 1) (by omega)
      obtain ⟨p1, p2⟩ := pw_bd h1 h2 (show k + 1 ≤ 8 by omega)
      obtain ⟨d1, d2⟩ := HD.out k hlt
      rw [HS.out] at a3 a4
      obtain ⟨q, hq⟩ : ∃ q, numD b (zs.take k) * b = q := ⟨_, rfl⟩
      have HQ := Lib.hid hq
      rw [hq] at a3 a4
      go_wp2
      go_roundw
      case rel => exact ⟨k + 1, by omega, by go_num, by rw [HS.out, HQ.out], hN⟩
      case measure => simp [intOf]; omega
    · have hk' : k = zs.length := by omega
      subst hk'
      go_wp2
      go_ret
      exact ⟨ret_int (by rw [List.take_length]), hN⟩

theorem enters_num : EntersIt Try.prog 62 := enters_of Try.func62 (by kernel_rfl) rfl

set_option maxHeartbeats 400000 in
theorem tests_num (b : Int) (B : Nat) (zs : List Int) (w : World) (hB : B < w.heap.size) (hc : w.cell? ⟨B, 0, none⟩ = some (.int .i64 b)) (h1 : 2 ≤ b) (h2 : b ≤ 6) :
    Tests Try.prog 62 #[.pointer (some ⟨B, 0, none⟩)] (Value.int .i64) (fun d => !inB d 0 (b - 1)) zs w := by
  intro x W _ hn
  have hc' := (hn.cell (p := ⟨B, 0, none⟩) hB).trans hc
  clear hc
  show Calls _ _ #[.int .i64 x, .pointer (some ⟨B, 0, none⟩)] W _
  go_enter Try.func62, Try.ntmps62
  go_wp2_with (go_at_call 43; refine (c_within _ _ _ _).mono ?_; rintro e w' ⟨rfl, rfl⟩)
  go_ret
  exact ⟨rfl, New.same _⟩

set_option maxHeartbeats 1000000 in
theorem c_implNumberOf (b : Int) (lo hi : Nat) (v : Value) (zs : List Int) (w : World) (h : Rd w lo hi 1 v zs.length (zs.map (Value.int .i64))) :
    Calls Try.prog 41 #[.int .i64 b, v] w fun e w' => e = .returned (.tuple #[.int .i64 (nofN b zs), .int .i64 (nofCode b zs)]) ∧ New w w' := by
  have HR := Lib.hid h
  obtain ⟨_, hm, _, A, c, rfl, _⟩ := h
  cases hg : dgB b zs.length
  · have e : nofOk b zs = false := by simp [nofOk, hg]
    have E1 := Lib.hid (show nofN b zs = 0 by simp [nofN, e])
    have E2 := Lib.hid (show nofCode b zs = 2 by simp [nofCode, e])
    clear e
    go_enter Try.func41, Try.ntmps41
    go_wp2_with (go_at_call 61; refine (c_digitsOk _ _ _).mono ?_; rintro e w' ⟨rfl, rfl⟩)
    go_ret2
    rw [E1.out, E2.out]
    exact ⟨rfl, (New.same _).box _⟩
  · have hgg := hg
    simp only [dgB, Bool.and_eq_true, inB_iff] at hgg
    obtain ⟨⟨h1, h2⟩, h3, h4⟩ := hgg
    have n0 : New w (w.alloc (.cells #[.int .i64 b] 2)) := (New.same w).box _
    have z0 : w.heap.size < (w.alloc (.cells #[.int .i64 b] 2)).heap.size := by simp
    have c0 : (w.alloc (.cells #[.int .i64 b] 2)).cell? ⟨w.heap.size, 0, none⟩ = some (.int .i64 b) := by go_simp
    cases hd : digB b zs
    · have e : nofOk b zs = false := by simp [nofOk, hd]
      have E1 := Lib.hid (show nofN b zs = 0 by simp [nofN, e])
      have E2 := Lib.hid (show nofCode b zs = 2 by simp [nofCode, e])
      have hany : (zs.any fun d => !inB d 0 (b - 1)) = true := by simpa [digB] using hd
      have HC := Lib.hid (c_containsFunc_int64 _ _ _ enters_num lo hi _ zs _ (HR.out.new n0) (tests_num b w.heap.size zs _ z0 c0 h1 h2))
      rw [hany] at HC
      clear e hd hany c0
      go_enter Try.func41, Try.ntmps41
      go_wp2_with (first | (go_at_call 61; refine (c_digitsOk _ _ _).mono ?_; rintro e w' ⟨rfl, rfl⟩) | (go_at_call 58; refine (HC.out).mono ?_; rintro e w1 ⟨rfl, n1⟩))
      go_ret2
      rw [E1.out, E2.out]
      exact ⟨rfl, n0.step n1⟩
    · have e : nofOk b zs = true := by simp [nofOk, hg, hd]
      have E1 := Lib.hid (show nofN b zs = numD b zs by simp [nofN, e])
      have E2 := Lib.hid (show nofCode b zs = 0 by simp [nofCode, e])
      have hany : (zs.any fun d => !inB d 0 (b - 1)) = false := by simpa [digB] using hd
      have HC := Lib.hid (c_containsFunc_int64 _ _ _ enters_num lo hi _ zs _ (HR.out.new n0) (tests_num b w.heap.size zs _ z0 c0 h1 h2))
      rw [hany] at HC
      have HD := Lib.hid hd
      clear e hd hany
      go_enter Try.func41, Try.ntmps41
      go_wp2_with (first | (go_at_call 61; refine (c_digitsOk _ _ _).mono ?_; rintro e w' ⟨rfl, rfl⟩) | (go_at_call 58; refine (HC.out).mono ?_; rintro e w1 ⟨rfl, n1⟩; have c1 := (n1.cell (p := ⟨w.heap.size, 0, none⟩) z0).trans c0) | (go_at_call 63; refine (c_numberOf b lo hi _ zs _ ((HR.out.new n0).new n1) h1 h2 (by omega) HD.out).mono ?_; rintro e w2 ⟨rfl, n2⟩))
      go_ret2
      rw [E1.out, E2.out]
      exact ⟨rfl, (n0.step n1).step n2⟩

set_option maxHeartbeats 1000000 in
theorem c_specNumberOf (b : Int) (lo hi : Nat) (v : Value) (zs : List Int) (w : World) (h : Rd w lo hi 1 v zs.length (zs.map (Value.int .i64))) :
    Calls Try.prog 40 #[.int .i64 b, v] w fun e w' => e = .returned (.tuple #[.int .i64 (nofN b zs), .int .i64 (nofCode b zs)]) ∧ New w w' := by
  obtain ⟨_, hm, hh, A, c, rfl, hrd⟩ := h
  cases hg1 : inB b 2 6
  · have e : nofOk b zs = false := by simp [nofOk, dgB, hg1]
    have E1 := Lib.hid (show nofN b zs = 0 by simp [nofN, e])
    have E2 := Lib.hid (show nofCode b zs = 2 by simp [nofCode, e])
    clear e
    go_enter Try.func40, Try.ntmps40
    go_wp2_with (go_at_call 42; refine (c_l00In _ _ _ _).mono ?_; rintro e w' ⟨rfl, rfl⟩)
    go_ret2
    rw [E1.out, E2.out]
    exact ⟨rfl, New.same _⟩
  · cases hg2 : inB (zs.length : Int) 1 8
    · have e : nofOk b zs = false := by simp [nofOk, dgB, hg2]
      have E1 := Lib.hid (show nofN b zs = 0 by simp [nofN, e])
      have E2 := Lib.hid (show nofCode b zs = 2 by simp [nofCode, e])
      clear e
      go_enter Try.func40, Try.ntmps40
      go_wp2_with (go_at_call 42; refine (c_l00In _ _ _ _).mono ?_; rintro e w' ⟨rfl, rfl⟩)
      go_ret2
      rw [E1.out, E2.out]
      exact ⟨rfl, New.same _⟩
    · have HG := Lib.hid (show dgB b zs.length = true by simp [dgB, hg1, hg2])
      obtain ⟨h1, h2⟩ := inB_iff.1 hg1
      obtain ⟨h3, h4⟩ := inB_iff.1 hg2
      go_enter Try.func40, Try.ntmps40
      go_wp2_with (go_at_call 42; refine (c_l00In _ _ _ _).mono ?_; rintro e w' ⟨rfl, rfl⟩)
      go_loopw [6, 7] (fun n i wr => ∃ k : Nat, k ≤ zs.length ∧ i = .int .i64 k ∧ n = .int .i64 (numD b (zs.take k)) ∧ Hid (∀ j (hj : j < zs.length), j < k → (!inB zs[j] 0 (b - 1)) = false) ∧ New w wr) (fun _ i _ => zs.length - (intOf i).toNat)
      case atStart => exact ⟨0, Nat.zero_le _, rfl, rfl, Lib.hid (fun j _ hj => absurd hj (Nat.not_lt_zero _)), New.same _⟩
      case round =>
        obtain ⟨k, hk, rfl, rfl, HJ, hN⟩ := hrel
        by_cases hlt : k < zs.length
        · obtain ⟨b', off, rfl, _, hb1, hc⟩ := hrd (by omega)
          have hx : wr.cell? ⟨b', off + k, none⟩ = some (.int .i64 zs[k]) := by
            rw [hN.cell (p := ⟨b', off + k, none⟩) (by simp; omega)]
            exact hc k _ (by simp [hlt])
          clear hc hrd
          cases hp : inB zs[k] 0 (b - 1)
          · have e : nofOk b zs = false := by simp only [nofOk, digB, any_hit (p := fun d => !inB d 0 (b - 1)) hlt (by simp [hp])]; simp
            have E1 := Lib.hid (show nofN b zs = 0 by simp [nofN, e])
            have E2 := Lib.hid (show nofCode b zs = 2 by simp [nofCode, e])
            clear e
            go_wp2_with (go_at_call 42; refine (c_l00In _ _ _ _).mono ?_; rintro e w' ⟨rfl, rfl⟩)
            go_ret2
            rw [E1.out, E2.out]
            exact ⟨rfl, hN⟩
          · have HP := Lib.hid hp
            have HJ' := Lib.hid (show ∀ j (hj : j < zs.length), j < k + 1 → (!inB zs[j] 0 (b - 1)) = false from fun j hj hjk => by
              by_cases e : j = k
              · subst e; rw [HP.out]; rfl
              · exact HJ.out j hj (by omega))
            have HS := Lib.hid (numD_succ b zs k hlt)
            obtain ⟨a1, a2, a3, a4⟩ := numD_part h1 h2 hlt HJ'.out
            obtain ⟨p1, p2⟩ := pw_bd h1 h2 (show k + 1 ≤ 8 by omega)
            obtain ⟨p3, p4⟩ := pw_bd h1 h2 (show k ≤ 8 by omega)
            obtain ⟨d1, d2⟩ := inB_iff.1 hp
            rw [HS.out] at a3 a4
            obtain ⟨q, hq⟩ : ∃ q, numD b (zs.take k) * b = q := ⟨_, rfl⟩
            have HQ := Lib.hid hq
            rw [hq] at a3 a4
            go_wp2_with (go_at_call 42; refine (c_l00In _ _ _ _).mono ?_; rintro e w' ⟨rfl, rfl⟩)
            go_roundw
            case rel => exact ⟨k + 1, by omega, by go_num, by rw [HS.out, HQ.out], HJ', hN⟩
            case measure => simp [intOf]; omega
        · have hk' : k = zs.length := by omega
          subst hk'
          have e : nofOk b zs = true := by simp only [nofOk, HG.out, digB, any_miss (p := fun d => !inB d 0 (b - 1)) (fun j hj => HJ.out j hj hj)]; rfl
          have E1 := Lib.hid (show nofN b zs = numD b zs by simp [nofN, e])
          have E2 := Lib.hid (show nofCode b zs = 0 by simp [nofCode, e])
          clear e
          go_wp2
          go_ret2
          rw [E1.out, E2.out, List.take_length]
          exact ⟨rfl, hN⟩

end Go.Proofs.Ytcgnbmobemhkiaa
