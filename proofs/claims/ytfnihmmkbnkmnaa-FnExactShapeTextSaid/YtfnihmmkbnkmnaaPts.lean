/- Contracts of the laws' own helpers on slices of points: copying, comparing, marking. -/
import Derived.Test.YtfnihmmkbnkmnaaPt
import Derived.Test.YtfnihmmkbnkmnaaOpen
namespace Go.Proofs.Ytfnihmmkbnkmnaa
open Go.RowKit
set_option linter.unusedVariables false

theorem info_point : (Try.prog.info? 70).map (fun i => (i.zero, i.size, i.bytes)) = some (some (.agg #[.int .i64 0, .int .i64 0]), 2, 16) := by kernel_rfl
theorem row_point : ElemRow Try.prog 43 70 2 16 := elemRow Try.underlying43 info_point rfl (by omega)

theorem pts_len (zs : List (Int × Int)) : (zs.flatMap ptCells).length = zs.length * 2 := flat_len ptCells 2 (fun _ => rfl) zs
theorem pts_get0 {zs : List (Int × Int)} {k : Nat} (hk : k < zs.length) : (zs.flatMap ptCells)[k * 2]? = some (.int .i64 zs[k].1) := by
  have := flat_get ptCells 2 (fun _ => rfl) zs k 0 hk (by omega)
  simpa [ptCells] using this
theorem pts_get1 {zs : List (Int × Int)} {k : Nat} (hk : k < zs.length) : (zs.flatMap ptCells)[k * 2 + 1]? = some (.int .i64 zs[k].2) := by
  have := flat_get ptCells 2 (fun _ => rfl) zs k 1 hk (by omega)
  simpa [ptCells] using this
theorem pts_succ {zs : List (Int × Int)} {k : Nat} (hk : k < zs.length) : (zs.take (k + 1)).flatMap ptCells = (zs.take k).flatMap ptCells ++ [.int .i64 zs[k].1, .int .i64 zs[k].2] := by
  rw [List.take_succ_eq_append_getElem hk, List.flatMap_append]
  simp [ptCells]

theorem fillp_step {w : World} {base g : Nat} {e : TypeId} {zs : List (Int × Int)} {k : Nat} (h : Fill w base e 2 g zs.length zs.length ((zs.take k).flatMap ptCells)) (hk : k < zs.length) :
    Fill ((w.setCell ⟨g, k * 2, none⟩ (.int .i64 zs[k].1)).setCell ⟨g, k * 2 + 1, none⟩ (.int .i64 zs[k].2)) base e 2 g zs.length zs.length ((zs.take (k + 1)).flatMap ptCells) := by
  have hl : ((zs.take k).flatMap ptCells).length = k * 2 := by rw [pts_len]; simp; omega
  have h1 := h.put (by omega) (.int .i64 zs[k].1)
  have hl1 : ((zs.take k).flatMap ptCells ++ [Value.int .i64 zs[k].1]).length = k * 2 + 1 := by simp [hl]
  have h2 := h1.put (by omega) (.int .i64 zs[k].2)
  rw [hl1, hl] at h2
  rw [pts_succ hk]
  simpa using h2

theorem fillp_end {w w' : World} {e : TypeId} {zs : List (Int × Int)} (h : Fill w' w.heap.size e 2 w.heap.size zs.length zs.length ((zs.take zs.length).flatMap ptCells)) :
    Own w' w.heap.size w'.heap.size e 2 (.slice (some ⟨w.heap.size, 0, none⟩) zs.length zs.length) zs.length (zs.flatMap ptCells) := by
  rw [List.take_length] at h
  exact Own.of (h.done (by rw [pts_len]))

set_option maxHeartbeats 1000000 in
theorem c_toPointS (lo hi : Nat) (v : Value) (zs : List (Int × Int)) (w : World) (h : Rd w lo hi 2 v zs.length (zs.flatMap ptCells)) (hn : zs.length ≤ 1048576) :
    Calls Try.prog 17 #[v] w (GivesRow w 70 2 zs.length (zs.flatMap ptCells)) := by
  obtain ⟨i0, hi0, hz0, hz1, hz2⟩ := info_parts info_point
  obtain ⟨_, _, hh, A, c, rfl, hrd⟩ := h
  go_enter Try.func17, Try.ntmps17
  go_wp2_with (at_make; refine wpList_make_full _ rfl _ _ 43 rfl w.heap.size 70 i0 (.agg #[.int .i64 0, .int .i64 0]) 2 Try.underlying43 hi0 hz0 hz1 .i64 .i64 zs.length zs.length zs.length rfl rfl rfl rfl (by rw [hz2]; omega) (by unfold maxLen; omega) (Nat.le_refl _) ?_; intro w1 hown hgrow)
  have n1 : New w w1 := (Below.refl _ _).grown hgrow (Nat.le_refl _) (fun k hk => by cases hk)
  have F0 : Fill w1 w.heap.size 70 2 w.heap.size zs.length zs.length [] := Fill.start hown
  clear hown hgrow
  go_loopw [4] (fun i wr => ∃ k : Nat, k ≤ zs.length ∧ i = .int .i64 k ∧ Fill wr w.heap.size 70 2 w.heap.size zs.length zs.length ((zs.take k).flatMap ptCells) ∧ New w wr) (fun i _ => zs.length - (intOf i).toNat)
  case atStart => exact ⟨0, Nat.zero_le _, rfl, by simpa using F0, n1⟩
  case round =>
    obtain ⟨k, hk, rfl, hF, hN⟩ := hrel
    by_cases hlt : k < zs.length
    · obtain ⟨b, off, rfl, hb0, hb1, hc⟩ := hrd (by omega)
      have hx : wr.cell? ⟨b, off + k * 2, none⟩ = some (.int .i64 zs[k].1) := by
        rw [hN.cell (p := ⟨b, off + k * 2, none⟩) (by simp; omega)]
        exact hc (k * 2) _ (pts_get0 hlt)
      have hy : wr.cell? ⟨b, off + k * 2 + 1, none⟩ = some (.int .i64 zs[k].2) := by
        rw [hN.cell (p := ⟨b, off + k * 2 + 1, none⟩) (by simp; omega)]
        exact hc (k * 2 + 1) _ (pts_get1 hlt)
      clear hc hrd
      go_wp2_with fail
      refine (c_toPoint _ _ _).mono ?_
      rintro e w2 ⟨rfl, n2⟩
      have hF2 := hF.new n2
      have hN2 := hN.step n2
      obtain ⟨u0, hu0⟩ := hF2.cell (j := k * 2) (by omega)
      obtain ⟨u1, hu1⟩ := hF2.cell (j := k * 2 + 1) (by omega)
      have hf0 := hF2.free (k * 2)
      have hf1 := hF2.free (k * 2 + 1)
      clear hF hN n2 hx hy
      go_wp2
      go_roundw
      case rel => exact ⟨k + 1, by omega, by go_num, fillp_step hF2 hlt, (hN2.setCell (by simp) _).setCell (by simp) _⟩
      case measure => simp [intOf]; omega
    · have hk' : k = zs.length := by omega
      subst hk'
      go_wp2
      go_ret
      exact ⟨_, rfl, fillp_end hF, hN⟩

/-- what is left behind a count, or -1 -/
def szP (l n : Int) : Int := if l - n < 0 then -1 else l - n
set_option maxHeartbeats 400000 in
theorem c_szPointS (A : Option Addr) (n c : Nat) (l : Int) (w : World) (hn : n ≤ 9223372036854775807) (h0 : 0 ≤ l) (h1 : l ≤ 1048576) : Calls Try.prog 15 #[.slice A n c, .int .i64 l] w fun e w' => e = .returned (.int .i64 (szP l n)) ∧ w = w' := by
  by_cases h : l - (n : Int) < 0
  · have E := Lib.hid (show szP l n = -1 by simp [szP, h])
    go_enter Try.func15, Try.ntmps15
    go_wp2
    go_ret
    exact ⟨ret_int E.out.symm, rfl⟩
  · have E := Lib.hid (show szP l n = l - n by simp [szP, h])
    go_enter Try.func15, Try.ntmps15
    go_wp2
    go_ret
    exact ⟨ret_int E.out.symm, rfl⟩

end Go.Proofs.Ytfnihmmkbnkmnaa
