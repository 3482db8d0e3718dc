/- Contracts of the functions on schedules. -/
import Derived.Test.YtcgnbmobemhkiaaInts
import Derived.Test.YtcgnbmobemhkiaaFind
namespace Go.Proofs.Ytcgnbmobemhkiaa
open Go.RowKit

/-- a valid schedule -/
def schB (zs : List Int) : Bool := decide (zs.length ≤ 200) && !(zs.any fun n => !inB n 0 1000)

theorem any_hit {α : Type} {p : α → Bool} {zs : List α} {k : Nat} (hk : k < zs.length) (h : p zs[k] = true) : zs.any p = true := List.any_eq_true.2 ⟨_, List.getElem_mem hk, h⟩
theorem any_miss {α : Type} {p : α → Bool} {zs : List α} (h : ∀ j (hj : j < zs.length), p zs[j] = false) : zs.any p = false := by
  rw [List.any_eq_false]
  intro x hx
  obtain ⟨j, hj, rfl⟩ := List.mem_iff_getElem.1 hx
  simp [h j hj]

theorem enters_sched : EntersIt Try.prog 59 := enters_of Try.func59 (by kernel_rfl) rfl

set_option maxHeartbeats 400000 in
theorem tests_sched (zs : List Int) (w : World) : Tests Try.prog 59 #[] (Value.int .i64) (fun n => !inB n 0 1000) zs w := by
  intro x W _ _
  show Calls _ _ #[.int .i64 x] W _
  go_enter Try.func59, Try.ntmps59
  go_wp2_with (go_at_call 43; refine (c_within _ _ _ _).mono ?_; rintro e w' ⟨rfl, rfl⟩)
  go_ret
  exact ⟨rfl, New.same _⟩

set_option maxHeartbeats 400000 in
theorem c_implSched (lo hi : Nat) (v : Value) (zs : List Int) (w : World) (h : Rd w lo hi 1 v zs.length (zs.map (Value.int .i64))) :
    Calls Try.prog 34 #[v] w fun e w' => e = .returned (.bool (schB zs)) ∧ New w w' := by
  have HR := Lib.hid h
  obtain ⟨_, hm, _, A, c, rfl, _⟩ := h
  by_cases hl : zs.length ≤ 200
  · have HS := Lib.hid (show schB zs = !(zs.any fun n => !inB n 0 1000) by simp [schB, hl])
    go_enter Try.func34, Try.ntmps34
    go_wp2_with (go_at_call 58; refine (c_containsFunc_int64 _ _ _ enters_sched lo hi _ zs w HR.out (tests_sched zs w)).mono ?_; rintro e w1 ⟨rfl, n1⟩)
    go_ret
    exact ⟨ret_bool HS.out.symm, n1⟩
  · have HS := Lib.hid (show schB zs = false by simp [schB, hl])
    have hl1 : decide (zs.length ≤ 200) = false := by simpa using hl
    have hl2 : decide ((zs.length : Int) ≤ 200) = false := by simp; omega
    go_enter Try.func34, Try.ntmps34
    go_wp2
    go_ret
    exact ⟨ret_bool HS.out.symm, New.same _⟩

set_option maxHeartbeats 1000000 in
theorem c_l08Schedule (lo hi : Nat) (v : Value) (zs : List Int) (w : World) (h : Rd w lo hi 1 v zs.length (zs.map (Value.int .i64))) :
    Calls Try.prog 57 #[v] w fun e w' => e = .returned (.bool (schB zs)) ∧ New w w' := by
  obtain ⟨_, hm, hh, A, c, rfl, hrd⟩ := h
  by_cases hl : zs.length ≤ 200
  · have HS := Lib.hid (show schB zs = !(zs.any fun n => !inB n 0 1000) by simp [schB, hl])
    go_enter Try.func57, Try.ntmps57
    go_wp2
    go_loopw [3] (fun i wr => ∃ k : Nat, k ≤ zs.length ∧ i = .int .i64 k ∧ Hid (∀ j (hj : j < zs.length), j < k → (!inB zs[j] 0 1000) = false) ∧ New w wr) (fun i _ => zs.length - (intOf i).toNat)
    case atStart => exact ⟨0, Nat.zero_le _, rfl, Lib.hid (fun j _ hj => absurd hj (Nat.not_lt_zero _)), New.same _⟩
    case round =>
      obtain ⟨k, hk, rfl, HJ, hN⟩ := hrel
      by_cases hlt : k < zs.length
      · obtain ⟨b, off, rfl, _, hb1, hc⟩ := hrd (by omega)
        have hx : wr.cell? ⟨b, off + k, none⟩ = some (.int .i64 zs[k]) := by
          rw [hN.cell (p := ⟨b, off + k, none⟩) (by simp; omega)]
          exact hc k _ (by simp [hlt])
        clear hc hrd
        cases hp : inB zs[k] 0 1000
        · have HP := Lib.hid (any_hit (p := fun n => !inB n 0 1000) hlt (by simp [hp]))
          go_wp2_with (go_at_call 42; refine (c_l00In _ _ _ _).mono ?_; rintro e w' ⟨rfl, rfl⟩)
          go_ret
          exact ⟨ret_bool (by rw [HS.out, HP.out]; rfl), hN⟩
        · have HP := Lib.hid hp
          go_wp2_with (go_at_call 42; refine (c_l00In _ _ _ _).mono ?_; rintro e w' ⟨rfl, rfl⟩)
          go_roundw
          case rel =>
            refine ⟨k + 1, by omega, by go_num, Lib.hid (fun j hj hjk => ?_), hN⟩
            by_cases e : j = k
            · subst e; rw [HP.out]; rfl
            · exact HJ.out j hj (by omega)
          case measure => simp [intOf]; omega
      · have hk' : k = zs.length := by omega
        subst hk'
        go_wp2
        go_ret
        exact ⟨ret_bool (by rw [HS.out, any_miss (fun j hj => HJ.out j hj hj)]; rfl), hN⟩
  · have HS := Lib.hid (show schB zs = false by simp [schB, hl])
    go_enter Try.func57, Try.ntmps57
    go_wp2
    go_ret
    exact ⟨ret_bool HS.out.symm, New.same _⟩

set_option maxHeartbeats 400000 in
theorem c_specSched (lo hi : Nat) (v : Value) (zs : List Int) (w : World) (h : Rd w lo hi 1 v zs.length (zs.map (Value.int .i64))) :
    Calls Try.prog 32 #[v] w fun e w' => e = .returned (.bool (schB zs)) ∧ New w w' := by
  have HR := Lib.hid h
  clear h
  go_enter Try.func32, Try.ntmps32
  go_wp2_with (go_at_call 57; refine (c_l08Schedule lo hi _ zs w HR.out).mono ?_; rintro e w1 ⟨rfl, n1⟩)
  go_ret
  exact ⟨rfl, n1⟩

end Go.Proofs.Ytcgnbmobemhkiaa
