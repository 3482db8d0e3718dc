/- Both sides of ValidWeights. -/
import Derived.Test.YtcikfognbjbniaaSetFn
import Derived.Test.YtcikfognbjbniaaFind
namespace Go.Proofs.Ytcikfognbjbniaa
open Go.RowKit Go.Deep
set_option linter.unusedVariables false
set_option linter.unusedSimpArgs false

def wtP (n : Int) : Bool := !inB n 1 100
/-- the weights are so many as the tiles and all from 1 to 100 -/
def wtB (n : Nat) (zs : List Int) : Bool := decide (zs.length = n) && !zs.any wtP
def wtsB (G : List (ByteArray × Int)) (T : List (ByteArray × List Int)) (zs : List Int) : Bool := setB G T && wtB T.length zs

set_option maxHeartbeats 2000000 in
theorem c_l14Ok (b0 lo hi lo' hi' : Nat) (gv tv v : Value) (G : List (ByteArray × Int)) (T : List (ByteArray × List Int)) (sv : List Value) (zs : List Int) (w : World) (B0 : BoxV w b0 [gv, tv]) (h : RdS w lo hi gv tv G T sv) (hg : ∀ g ∈ G, g.1.size ≤ maxLen) (ht : ∀ t ∈ T, t.1.size ≤ maxLen) (hz : Rd w lo' hi' 1 v zs.length (zs.map (Value.int .i64))) :
    Calls Try.prog 54 #[.pointer (some ⟨b0, 0, none⟩), v] w fun e w' => e = .returned (.bool (wtsB G T zs)) ∧ New w w' := by
  obtain ⟨A, c, B, d, rfl, rfl⟩ := h.form
  have HH := Lib.hid h
  have HR := Lib.hid hz
  obtain ⟨A', c', rfl, hm, ha⟩ := rd_form hz
  have HA := Lib.hid ha
  clear ha h hz
  have HC := Lib.hid (c_l02Ok _ _ _ _ _ G T sv _ B0 HH.out hg ht)
  have ⟨⟨x0, y0⟩, _, l0⟩ := B0.at2
  cases hs : setB G T
  · have E := Lib.hid (show wtsB G T zs = false by simp [wtsB, hs])
    rw [hs] at HC
    clear hs
    go_enter Try.func54, Try.ntmps54
    go_wp2_with (go_at_call 41; refine HC.out.mono ?_; rintro e w1 ⟨rfl, n1⟩)
    go_ret
    exact ⟨ret_bool E.out.symm, n1⟩
  · rw [hs] at HC
    obtain ⟨i1, i2, i3, _⟩ := set_in hs
    have HB := Lib.hid B0
    clear B0
    by_cases hl : zs.length = T.length
    · have E := Lib.hid (show wtsB G T zs = !zs.any wtP by simp [wtsB, wtB, hs, hl])
      have e1 : ((zs.length : Int) != (T.length : Int)) = false := by simp [hl]
      have e2 : (zs.length != T.length) = false := by simp [hl]
      have hl1 : zs.length ≤ 160 := by omega
      clear hs hl
      go_enter Try.func54, Try.ntmps54
      go_wp2_with (go_at_call 41; refine HC.out.mono ?_; rintro e w1 ⟨rfl, n1⟩; have ⟨⟨x1, y1⟩, _, l1⟩ := (HB.out.new n1).at2)
      go_loopw [5] (fun i wr => ∃ k : Nat, k ≤ zs.length ∧ i = .int .i64 k ∧ Hid (∀ j (hj : j < zs.length), j < k → wtP zs[j] = false) ∧ New w wr) (fun i _ => zs.length - (intOf i).toNat)
      case atStart => exact ⟨0, Nat.zero_le _, rfl, Lib.hid (fun j _ hj => absurd hj (Nat.not_lt_zero _)), n1⟩
      case round =>
        obtain ⟨k, hk, rfl, HJ, hN⟩ := hrel
        by_cases hlt : k < zs.length
        · obtain ⟨b, off, hAe⟩ := HA.out (by omega)
          subst hAe
          obtain ⟨x2, l2⟩ := rd_cell HR.out hN rfl (by omega) (show (zs.map (Value.int .i64))[k]? = some (.int .i64 zs[k]) by simp [hlt])
          cases hp : inB zs[k] 1 100
          · have HP := Lib.hid (any_hit (p := wtP) hlt (by simp [wtP, hp]))
            go_wp2_with (go_at_call 79; refine (c_l00In _ _ _ _).mono ?_; rintro e w' ⟨rfl, rfl⟩)
            go_ret
            exact ⟨ret_bool (by rw [E.out, HP.out]; rfl), hN⟩
          · have HP := Lib.hid hp
            go_wp2_with (go_at_call 79; refine (c_l00In _ _ _ _).mono ?_; rintro e w' ⟨rfl, rfl⟩)
            go_roundw
            case rel =>
              refine ⟨k + 1, by omega, by go_num, Lib.hid (fun j hj hjk => ?_), hN⟩
              by_cases e : j = k
              · subst e; simp [wtP, HP.out]
              · exact HJ.out j hj (by omega)
            case measure => simp [intOf]; omega
        · have hk' : k = zs.length := by omega
          have HE : Hid (wtsB G T zs = true) := Lib.hid (by rw [E.out, any_miss (fun j hj => HJ.out j hj (by omega))]; rfl)
          subst hk'
          go_wp2
          go_ret
          exact ⟨ret_bool HE.out.symm, hN⟩
    · have E := Lib.hid (show wtsB G T zs = false by simp [wtsB, wtB, hl])
      have e1 : ((zs.length : Int) != (T.length : Int)) = true := by simp; omega
      have e2 : (zs.length != T.length) = true := by simp [hl]
      clear hs
      go_enter Try.func54, Try.ntmps54
      go_wp2_with (go_at_call 41; refine HC.out.mono ?_; rintro e w1 ⟨rfl, n1⟩; have ⟨⟨x1, y1⟩, _, l1⟩ := (HB.out.new n1).at2)
      go_ret
      exact ⟨ret_bool E.out.symm, n1⟩
set_option maxHeartbeats 1000000 in
theorem c_specValidWeights (lo hi lo' hi' : Nat) (gv tv v : Value) (G : List (ByteArray × Int)) (T : List (ByteArray × List Int)) (sv : List Value) (zs : List Int) (w : World) (h : RdS w lo hi gv tv G T sv) (hg : ∀ g ∈ G, g.1.size ≤ maxLen) (ht : ∀ t ∈ T, t.1.size ≤ maxLen) (hz : Rd w lo' hi' 1 v zs.length (zs.map (Value.int .i64))) :
    Calls Try.prog 21 #[.agg #[gv, tv], v] w fun e w' => e = .returned (.bool (wtsB G T zs)) ∧ New w w' := by
  obtain ⟨A, c, B, d, rfl, rfl⟩ := h.form
  have HR := Lib.hid hz
  obtain ⟨A', c', rfl, hm, ha⟩ := rd_form hz
  have HH := Lib.hid h
  clear h ha hz
  have n0 : New w (w.alloc (.cells #[.slice A G.length c, .slice B T.length d] 36)) := (New.same w).box _
  have B0 : BoxV (w.alloc (.cells #[.slice A G.length c, .slice B T.length d] 36)) w.heap.size [.slice A G.length c, .slice B T.length d] := .two (by go_simp) (by go_simp) (by go_simp) (by go_simp) (by simp)
  go_enter Try.func21, Try.ntmps21
  go_wp2_with fail
  generalize (w.alloc (.cells #[.slice A G.length c, .slice B T.length d] 36)) = W0 at *
  refine (c_l14Ok _ _ _ _ _ _ _ _ G T sv zs _ B0 (HH.out.new n0) hg ht (HR.out.new n0)).mono ?_
  rintro e w1 ⟨rfl, n1⟩
  go_wp2
  go_ret
  exact ⟨rfl, n0.step n1⟩
theorem enters_vw : EntersIt Try.prog 56 := enters_of Try.func56 (by kernel_rfl) rfl
set_option maxHeartbeats 400000 in
theorem tests_vw (zs : List Int) (w : World) : Tests Try.prog 56 #[] (Value.int .i64) wtP zs w := by
  intro x W _ hn
  show Calls _ _ #[.int .i64 x] W _
  unfold wtP
  go_enter Try.func56, Try.ntmps56
  go_wp2_with (go_at_call 57; refine (c_within _ _ _ _).mono ?_; rintro e w' ⟨rfl, rfl⟩)
  go_ret
  exact ⟨rfl, New.same _⟩
set_option maxHeartbeats 2000000 in
theorem c_implValidWeights (lo hi lo' hi' : Nat) (gv tv v : Value) (G : List (ByteArray × Int)) (T : List (ByteArray × List Int)) (sv : List Value) (zs : List Int) (w : World) (h : RdS w lo hi gv tv G T sv) (hg : ∀ g ∈ G, g.1.size ≤ maxLen) (ht : ∀ t ∈ T, t.1.size ≤ maxLen) (hz : Rd w lo' hi' 1 v zs.length (zs.map (Value.int .i64))) :
    Calls Try.prog 23 #[.agg #[gv, tv], v] w fun e w' => e = .returned (.bool (wtsB G T zs)) ∧ New w w' := by
  obtain ⟨A, c, B, d, rfl, rfl⟩ := h.form
  have HR := Lib.hid hz
  obtain ⟨A', c', rfl, hm, ha⟩ := rd_form hz
  have HH := Lib.hid h
  clear h ha hz
  have n0 : New w (w.alloc (.cells #[.slice A G.length c, .slice B T.length d] 36)) := (New.same w).box _
  have B0 : BoxV (w.alloc (.cells #[.slice A G.length c, .slice B T.length d] 36)) w.heap.size [.slice A G.length c, .slice B T.length d] := .two (by go_simp) (by go_simp) (by go_simp) (by go_simp) (by simp)
  have HC := Lib.hid (c_implValidSet _ _ _ _ G T sv _ (HH.out.new n0) hg ht)
  cases hs : setB G T
  · have E := Lib.hid (show wtsB G T zs = false by simp [wtsB, hs])
    rw [hs] at HC
    clear hs
    go_enter Try.func23, Try.ntmps23
    go_wp2_with (go_at_call 46; refine HC.out.mono ?_; rintro e w1 ⟨rfl, n1⟩)
    go_ret
    exact ⟨ret_bool E.out.symm, n0.step n1⟩
  · rw [hs] at HC
    obtain ⟨i1, i2, i3, _⟩ := set_in hs
    by_cases hl : zs.length = T.length
    · have E := Lib.hid (show wtsB G T zs = !zs.any wtP by simp [wtsB, wtB, hs, hl])
      have e1 : ((zs.length : Int) == (T.length : Int)) = true := by simp [hl]
      have e2 : (zs.length == T.length) = true := by simp [hl]
      clear hs hl
      go_enter Try.func23, Try.ntmps23
      go_wp2_with (first | (go_at_call 46; refine HC.out.mono ?_; rintro e w1 ⟨rfl, n1⟩; have ⟨⟨x1, y1⟩, _, l1⟩ := (B0.new n1).at2) | (go_at_call 55; refine (c_containsFunc_int64 _ _ wtP enters_vw lo' hi' _ zs _ ((HR.out.new n0).new n1) (tests_vw zs _)).mono ?_; rintro e w2 ⟨rfl, n2⟩))
      go_ret
      exact ⟨ret_bool E.out.symm, (n0.step n1).step n2⟩
    · have E := Lib.hid (show wtsB G T zs = false by simp [wtsB, wtB, hl])
      have e1 : ((zs.length : Int) == (T.length : Int)) = false := by simp; omega
      have e2 : (zs.length == T.length) = false := by simp [hl]
      clear hs
      go_enter Try.func23, Try.ntmps23
      go_wp2_with (go_at_call 46; refine HC.out.mono ?_; rintro e w1 ⟨rfl, n1⟩; have ⟨⟨x1, y1⟩, _, l1⟩ := (B0.new n1).at2)
      go_ret
      exact ⟨ret_bool E.out.symm, n0.step n1⟩
end Go.Proofs.Ytcikfognbjbniaa
