/- Contracts of the functions that take a part of an assembly. -/
import Derived.Test.YtnbpcdnncfkgjaaMoveAsm
import Derived.Test.YtnbpcdnncfkgjaaLate
namespace Go.Proofs.Ytnbpcdnncfkgjaa
open Go.RowKit Go.Deep
set_option linter.unusedVariables false
set_option linter.unusedSimpArgs false

/-- what is asked at the place k of a part: in range, and behind the one before it -/
def prAt (p : List Int) (h : Int) (k : Nat) : Bool := inB (p.getD k 0) 0 h && (decide (k = 0) || !decide (p.getD k 0 ≤ p.getD (k - 1) 0))
def prB (p : List Int) (h : Int) : Bool := (List.range p.length).all (prAt p h)
theorem prAt_zero {p : List Int} {h : Int} {k : Nat} (hk : k < p.length) (e : k = 0) : prAt p h k = inB p[k] 0 h := by
  subst e
  simp [prAt, List.getD_eq_getElem?_getD, hk]
theorem prAt_suc {p : List Int} {h : Int} {j k : Nat} (hk : k < p.length) (hj : j < p.length) (e : k = j + 1) : prAt p h k = (inB p[k] 0 h && !decide (p[k] ≤ p[j])) := by
  subst e
  simp [prAt, List.getD_eq_getElem?_getD, hk, hj]
theorem pr_hit {p : List Int} {h : Int} {k : Nat} (hk : k < p.length) (e : prAt p h k = false) : prB p h = false := by unfold prB; rw [all_hit hk e]
theorem pr_miss {p : List Int} {h : Int} (e : ∀ k, k < p.length → prAt p h k = true) : prB p h = true := by unfold prB; rw [all_miss e]
theorem pr_more {p : List Int} {h : Int} {k : Nat} (e : ∀ j, j < k → prAt p h j = true) (hk : prAt p h k = true) : ∀ j, j < k + 1 → prAt p h j = true := by
  intro j hj
  by_cases q : j = k
  · subst q; exact hk
  · exact e j (by omega)
theorem pr_in {p : List Int} {h : Int} (e : prB p h = true) {k : Nat} (hk : k < p.length) : 0 ≤ p[k] ∧ p[k] ≤ h := by
  have := List.all_eq_true.1 e k (List.mem_range.2 hk)
  simp only [prAt, Bool.and_eq_true] at this
  have h1 := this.1
  simp only [List.getD_eq_getElem?_getD, List.getElem?_eq_getElem hk, Option.getD_some] at h1
  exact inB_iff.1 h1
/-- an integer in a list that is read -/
theorem rd_i {w wr : World} {lo hi : Nat} {v : Value} {zs : List Int} (h : Rd w lo hi 1 v zs.length (zs.map (Value.int .i64))) (n : New w wr) {b off c : Nat} (hv : v = .slice (some ⟨b, off, none⟩) zs.length c) {k : Nat} (hk : k < zs.length) :
    wr.cell? ⟨b, off + k, none⟩ = some (.int .i64 zs[k]) ∧ b < wr.heap.size := by
  obtain ⟨_, _, hh, A, c', hv', hrd⟩ := h
  rw [hv] at hv'
  obtain ⟨b', off', e, _, hb, hc⟩ := hrd (by omega)
  have hA : A = some ⟨b, off, none⟩ := by cases hv'; rfl
  rw [hA] at e
  obtain ⟨rfl, rfl⟩ : b = b' ∧ off = off' := by simpa using e
  have hs := n.size
  exact ⟨(n.cell (p := ⟨b, off + k, none⟩) (by simp; omega)).trans (hc k _ (by simp [hk])), by omega⟩

set_option maxRecDepth 20000 in
set_option maxHeartbeats 8000000 in
theorem c_l00Rises (lo hi : Nat) (v : Value) (zs : List Int) (H : Int) (w : World) (h : Rd w lo hi 1 v zs.length (zs.map (Value.int .i64))) :
    Calls Try.prog 81 #[v, .int .i64 0, .int .i64 H] w fun e w' => e = .returned (.bool (prB zs H)) ∧ New w w' := by
  have HR := Lib.hid h
  obtain ⟨_, hm, hh, A, c, rfl, hrd⟩ := h
  have ha : 0 < zs.length → ∃ b off, A = some ⟨b, off, none⟩ := fun h => by obtain ⟨b, off, e, _⟩ := hrd h; exact ⟨b, off, e⟩
  have HA := Lib.hid ha
  clear hrd ha hh
  go_enter Try.func81, Try.ntmps81
  go_wp2
  go_loopw [7] (fun i wr => ∃ k : Nat, k ≤ zs.length ∧ i = .int .i64 k ∧ Hid (∀ j, j < k → prAt zs H j = true) ∧ New w wr) (fun i _ => zs.length - (intOf i).toNat)
  case atStart => exact ⟨0, Nat.zero_le _, rfl, Lib.hid (fun j hj => absurd hj (Nat.not_lt_zero _)), New.same _⟩
  case round =>
    obtain ⟨k, hk, rfl, HJ, hN⟩ := hrel
    by_cases hlt : k < zs.length
    · obtain ⟨b, off, hAe⟩ := HA.out (by omega)
      subst hAe
      have p0 : (0 : Int) ≤ (k : Int) := by omega
      have p1 : (k : Int) < (zs.length : Int) := by omega
      obtain ⟨x0, bB⟩ := rd_i HR.out (hN) rfl hlt
      by_cases hk0 : k = 0
      · have HO := Lib.hid (prAt_zero (h := H) hlt hk0)
        have d0 : decide ((0 : Int) < (k : Int)) = false := by simp; omega
        have d1 : decide (0 < k) = false := by simp; omega
        have d2 : ¬ (0 < k) := by omega
        clear hk0
        cases gg : inB zs[k] 0 H
        · have HP := Lib.hid (pr_hit hlt (by rw [HO.out, gg]))
          have C2 := Lib.hid (fun w => gg ▸ c_l00In zs[k] 0 H w)
          go_upto_region 4 with fail
          have lx0 := Later.cell x0 bB
          (refine wp_region_later (by kernel_rfl) (by kernel_rfl) ?_; (repeat (go_big_quiet_step ((first | (go_at_call 49; exact later_same (C2.out _)))))); refine wpQuiet_nil ?_; intro wq hw'; obtain ⟨⟨wz, nq⟩, hwz⟩ := hw'; have hwz' : wq = wz := hwz; subst hwz'; clear hwz)
          clear lx0
          go_wp2
          go_ret
          exact ⟨ret_bool HP.out.symm, hN.step nq⟩
        · have HP := Lib.hid (pr_more HJ.out (by rw [HO.out, gg]))
          have C2 := Lib.hid (fun w => gg ▸ c_l00In zs[k] 0 H w)
          go_upto_region 4 with fail
          have lx0 := Later.cell x0 bB
          (refine wp_region_later (by kernel_rfl) (by kernel_rfl) ?_; (repeat (go_big_quiet_step ((first | (go_at_call 49; exact later_same (C2.out _)))))); refine wpQuiet_nil ?_; intro wq hw'; obtain ⟨⟨wz, nq⟩, hwz⟩ := hw'; have hwz' : wq = wz := hwz; subst hwz'; clear hwz)
          clear lx0
          go_wp2
          go_roundw
          case rel => exact ⟨k + 1, by omega, by go_num, HP, hN.step nq⟩
          case measure => simp [intOf]; omega
      · obtain ⟨j, hj⟩ : ∃ j, k = j + 1 := ⟨k - 1, by omega⟩
        have hjl : j < zs.length := by omega
        have HO := Lib.hid (prAt_suc (h := H) hlt hjl hj)
        have E1 : Hid (IntKind.i64.wrap ((k : Int) - 1) = (j : Int)) := Lib.hid (by rw [IntWalk.i64_in _ (by omega)]; omega)
        have d2 : 0 < k := by omega
        have d1 : decide (0 < k) = true := by simp; omega
        have q0 : (0 : Int) ≤ (j : Int) := by omega
        have q1 : (j : Int) < (zs.length : Int) := by omega
        clear hj
        obtain ⟨x1, _⟩ := rd_i HR.out (hN) rfl hjl
        have e1 := E1.out
        cases gg : inB zs[k] 0 H
        · have HP := Lib.hid (pr_hit hlt (by rw [HO.out, gg]; rfl))
          have C2 := Lib.hid (fun w => gg ▸ c_l00In zs[k] 0 H w)
          go_upto_region 4 with fail
          have lx0 := Later.cell x0 bB
          have lx1 := Later.cell x1 bB
          (refine wp_region_later (by kernel_rfl) (by kernel_rfl) ?_; (repeat (go_big_quiet_step ((first | (go_at_call 49; exact later_same (C2.out _)))))); refine wpQuiet_nil ?_; intro wq hw'; obtain ⟨⟨wz, nq⟩, hwz⟩ := hw'; have hwz' : wq = wz := hwz; subst hwz'; clear hwz)
          clear lx0 lx1
          go_wp2
          go_ret
          exact ⟨ret_bool HP.out.symm, hN.step nq⟩
        · have C2 := Lib.hid (fun w => gg ▸ c_l00In zs[k] 0 H w)
          cases qq : decide (zs[k] ≤ zs[j])
          · have HP := Lib.hid (pr_more HJ.out (by rw [HO.out, gg, qq]; rfl))
            go_upto_region 4 with fail
            have lx0 := Later.cell x0 bB
            have lx1 := Later.cell x1 bB
            (refine wp_region_later (by kernel_rfl) (by kernel_rfl) ?_; (repeat (go_big_quiet_step ((first | (go_at_call 49; exact later_same (C2.out _)))))); refine wpQuiet_nil ?_; intro wq hw'; obtain ⟨⟨wz, nq⟩, hwz⟩ := hw'; have hwz' : wq = wz := hwz; subst hwz'; clear hwz)
            clear lx0 lx1
            go_wp2
            go_roundw
            case rel => exact ⟨k + 1, by omega, by go_num, HP, hN.step nq⟩
            case measure => simp [intOf]; omega
          · have HP := Lib.hid (pr_hit hlt (by rw [HO.out, gg, qq]; rfl))
            go_upto_region 4 with fail
            have lx0 := Later.cell x0 bB
            have lx1 := Later.cell x1 bB
            (refine wp_region_later (by kernel_rfl) (by kernel_rfl) ?_; (repeat (go_big_quiet_step ((first | (go_at_call 49; exact later_same (C2.out _)))))); refine wpQuiet_nil ?_; intro wq hw'; obtain ⟨⟨wz, nq⟩, hwz⟩ := hw'; have hwz' : wq = wz := hwz; subst hwz'; clear hwz)
            clear lx0 lx1
            go_wp2
            go_ret
            exact ⟨ret_bool HP.out.symm, hN.step nq⟩
    · have hk' : k = zs.length := by omega
      subst hk'
      go_wp2
      go_ret
      exact ⟨ret_bool (pr_miss fun j hj => HJ.out j hj).symm, hN⟩

set_option maxHeartbeats 1000000 in
theorem c_l06Part (b0 lo hi : Nat) (A0 : Option Addr) (n c0 : Nat) (v : Value) (zs : List Int) (w : World) (B0 : BoxV w b0 [.slice A0 n c0]) (hn : n ≤ 9223372036854775807) (h : Rd w lo hi 1 v zs.length (zs.map (Value.int .i64))) :
    Calls Try.prog 54 #[.pointer (some ⟨b0, 0, none⟩), v] w fun e w' => e = .returned (.bool (prB zs ((n : Int) - 1))) ∧ New w w' := by
  have HR := Lib.hid h
  obtain ⟨_, hm, hh, A, c, rfl, hrd⟩ := h
  clear hrd hh
  have ⟨bx0, _, bl0⟩ := B0.at1
  have e1 : IntKind.i64.wrap ((n : Int) - 1) = (n : Int) - 1 := IntWalk.i64_in _ (by omega)
  go_enter Try.func54, Try.ntmps54
  go_wp2_with (go_at_call 81; refine (c_l00Rises lo hi _ zs _ _ HR.out).mono ?_; rintro e w1 ⟨rfl, n1⟩)
  go_ret
  exact ⟨rfl, n1⟩

set_option maxRecDepth 20000 in
set_option maxHeartbeats 8000000 in
theorem c_isPart (A0 : Option Addr) (n c0 lo hi : Nat) (v : Value) (zs : List Int) (w : World) (hn : n ≤ 9223372036854775807) (h : Rd w lo hi 1 v zs.length (zs.map (Value.int .i64))) :
    Calls Try.prog 56 #[.agg #[.slice A0 n c0], v] w fun e w' => e = .returned (.bool (prB zs ((n : Int) - 1))) ∧ New w w' := by
  have HR := Lib.hid h
  obtain ⟨_, hm, hh, A, c, rfl, hrd⟩ := h
  have ha : 0 < zs.length → ∃ b off, A = some ⟨b, off, none⟩ := fun h => by obtain ⟨b, off, e, _⟩ := hrd h; exact ⟨b, off, e⟩
  have HA := Lib.hid ha
  clear hrd ha hh
  have N0 : New w (w.alloc (.cells #[.slice A0 n c0] 29)) := (New.same w).box _
  have HB : Hid (BoxV (w.alloc (.cells #[.slice A0 n c0] 29)) w.heap.size [.slice A0 n c0]) := Lib.hid (.one (by go_simp) (by go_simp) (by simp <;> omega))
  go_enter Try.func56, Try.ntmps56
  go_wp2
  generalize (w.alloc (.cells #[.slice A0 n c0] 29)) = W0 at *
  go_loopw [9] (fun i wr => ∃ k : Nat, k ≤ zs.length ∧ i = .int .i64 k ∧ Hid (∀ j, j < k → prAt zs ((n : Int) - 1) j = true) ∧ New W0 wr) (fun i _ => zs.length - (intOf i).toNat)
  case atStart => exact ⟨0, Nat.zero_le _, rfl, Lib.hid (fun j hj => absurd hj (Nat.not_lt_zero _)), New.same _⟩
  case round =>
    obtain ⟨k, hk, rfl, HJ, hN⟩ := hrel
    by_cases hlt : k < zs.length
    · obtain ⟨b, off, hAe⟩ := HA.out (by omega)
      subst hAe
      have p0 : (0 : Int) ≤ (k : Int) := by omega
      have p1 : (k : Int) < (zs.length : Int) := by omega
      obtain ⟨x0, bB⟩ := rd_i HR.out (N0.step hN) rfl hlt
      have ⟨bx0, _, bl0⟩ := (HB.out.new hN).at1
      by_cases hk0 : k = 0
      · have HO := Lib.hid (prAt_zero (h := ((n : Int) - 1)) hlt hk0)
        have d0 : decide ((0 : Int) < (k : Int)) = false := by simp; omega
        have d1 : decide (0 < k) = false := by simp; omega
        have d2 : ¬ (0 < k) := by omega
        clear hk0
        cases gg : inB zs[k] 0 ((n : Int) - 1)
        · have HP := Lib.hid (pr_hit hlt (by rw [HO.out, gg]))
          have C2 := Lib.hid (fun w => gg ▸ c_isIndex zs[k] n w (by omega) (by omega))
          clear HB
          go_wp2_with (go_at_call 77; refine (C2.out _).mono ?_; rintro e w5 ⟨rfl, rfl⟩)
          go_ret
          exact ⟨ret_bool HP.out.symm, N0.step (hN)⟩
        · have HP := Lib.hid (pr_more HJ.out (by rw [HO.out, gg]))
          have C2 := Lib.hid (fun w => gg ▸ c_isIndex zs[k] n w (by omega) (by omega))
          clear HB
          go_wp2_with (go_at_call 77; refine (C2.out _).mono ?_; rintro e w5 ⟨rfl, rfl⟩)
          go_roundw
          case rel => exact ⟨k + 1, by omega, by go_num, HP, hN⟩
          case measure => simp [intOf]; omega
      · obtain ⟨j, hj⟩ : ∃ j, k = j + 1 := ⟨k - 1, by omega⟩
        have hjl : j < zs.length := by omega
        have HO := Lib.hid (prAt_suc (h := ((n : Int) - 1)) hlt hjl hj)
        have E1 : Hid (IntKind.i64.wrap ((k : Int) - 1) = (j : Int)) := Lib.hid (by rw [IntWalk.i64_in _ (by omega)]; omega)
        have d2 : 0 < k := by omega
        have d1 : decide (0 < k) = true := by simp; omega
        have q0 : (0 : Int) ≤ (j : Int) := by omega
        have q1 : (j : Int) < (zs.length : Int) := by omega
        clear hj
        obtain ⟨x1, _⟩ := rd_i HR.out (N0.step hN) rfl hjl
        have e1 := E1.out
        cases gg : inB zs[k] 0 ((n : Int) - 1)
        · have HP := Lib.hid (pr_hit hlt (by rw [HO.out, gg]; rfl))
          have C2 := Lib.hid (fun w => gg ▸ c_isIndex zs[k] n w (by omega) (by omega))
          clear HB
          go_wp2_with (go_at_call 77; refine (C2.out _).mono ?_; rintro e w5 ⟨rfl, rfl⟩)
          go_ret
          exact ⟨ret_bool HP.out.symm, N0.step (hN)⟩
        · have C2 := Lib.hid (fun w => gg ▸ c_isIndex zs[k] n w (by omega) (by omega))
          cases qq : decide (zs[k] ≤ zs[j])
          · have HP := Lib.hid (pr_more HJ.out (by rw [HO.out, gg, qq]; rfl))
            clear HB
            go_wp2_with (go_at_call 77; refine (C2.out _).mono ?_; rintro e w5 ⟨rfl, rfl⟩)
            go_roundw
            case rel => exact ⟨k + 1, by omega, by go_num, HP, hN⟩
            case measure => simp [intOf]; omega
          · have HP := Lib.hid (pr_hit hlt (by rw [HO.out, gg, qq]; rfl))
            clear HB
            go_wp2_with (go_at_call 77; refine (C2.out _).mono ?_; rintro e w5 ⟨rfl, rfl⟩)
            go_ret
            exact ⟨ret_bool HP.out.symm, N0.step (hN)⟩
    · have hk' : k = zs.length := by omega
      subst hk'
      go_wp2
      go_ret
      exact ⟨ret_bool (pr_miss fun j hj => HJ.out j hj).symm, N0.step hN⟩

/-- the elements at places -/
def subL (zs : List ((Int × Int) × Int)) (ps : List Int) : List ((Int × Int) × Int) := ps.map fun i => zs.getD i.toNat default
def subT (zs : List ((Int × Int) × Int)) (ps : List Int) (k : Nat) : List ((Int × Int) × Int) := (ps.take k).map fun i => zs.getD i.toNat default
theorem subT_zero (zs : List ((Int × Int) × Int)) (ps : List Int) : (subT zs ps 0).flatMap plCells = [] := by simp [subT]
theorem subT_all (zs : List ((Int × Int) × Int)) (ps : List Int) : subT zs ps ps.length = subL zs ps := by simp [subT, subL]
theorem subL_len (zs : List ((Int × Int) × Int)) (ps : List Int) : (subL zs ps).length = ps.length := by simp [subL]
theorem subT_step {w' : World} {base : Nat} {e : TypeId} {v : Value} {zs : List ((Int × Int) × Int)} {ps : List Int} {k i : Nat} (hk : k < ps.length) (hi : i < zs.length) (he : ps[k] = (i : Int))
    (h : w'.ownsRow base e 3 v (k + 1) ((subT zs ps k).flatMap plCells ++ [.int .i64 zs[i].1.1, .int .i64 zs[i].1.2, .int .i64 zs[i].2])) : w'.ownsRow base e 3 v (k + 1) ((subT zs ps (k + 1)).flatMap plCells) := by
  have : subT zs ps (k + 1) = subT zs ps k ++ [zs[i]] := by
    unfold subT
    rw [List.take_succ_eq_append_getElem hk, List.map_append]
    simp [he, List.getD_eq_getElem?_getD, hi]
  rw [this, List.flatMap_append]
  simpa [plCells] using h

set_option maxRecDepth 20000 in
set_option maxHeartbeats 8000000 in
theorem c_l06Sub (b0 lo hi lo' hi' : Nat) (v u : Value) (zs : List ((Int × Int) × Int)) (ps : List Int) (w : World) (B0 : BoxV w b0 [v]) (h : Rd w lo hi 3 v zs.length (zs.flatMap plCells)) (h' : Rd w lo' hi' 1 u ps.length (ps.map (Value.int .i64))) (hp : prB ps ((zs.length : Int) - 1) = true) (hn : ps.length ≤ 1048576) :
    Calls Try.prog 55 #[.pointer (some ⟨b0, 0, none⟩), u] w (GivesAsm w 71 (subL zs ps)) := by
  have HR := Lib.hid h
  have HS := Lib.hid h'
  have HP := Lib.hid (fun k (hk : k < ps.length) => pr_in hp hk)
  obtain ⟨_, hm, hh, A, c, rfl, hrd⟩ := h
  have ha : 0 < zs.length → ∃ b off, A = some ⟨b, off, none⟩ := fun h => by obtain ⟨b, off, e, _⟩ := hrd h; exact ⟨b, off, e⟩
  have HA := Lib.hid ha
  obtain ⟨_, hm', hh', A', c', rfl, hrd'⟩ := h'
  have ha' : 0 < ps.length → ∃ b off, A' = some ⟨b, off, none⟩ := fun h => by obtain ⟨b, off, e, _⟩ := hrd' h; exact ⟨b, off, e⟩
  have HA' := Lib.hid ha'
  clear hrd ha hh hrd' ha' hh' hp
  have HB : Hid (BoxV w b0 [.slice A zs.length c]) := Lib.hid B0
  clear B0
  have N0 : New w ((w.alloc (.cells #[.slice none 0 0] 29)).alloc (.cells #[.slice none 0 0] 29)) := ((New.same w).box _).box _
  have D1 : BoxV ((w.alloc (.cells #[.slice none 0 0] 29)).alloc (.cells #[.slice none 0 0] 29)) w.heap.size [.slice none 0 0] := .one (by go_simp) (by go_simp) (by simp <;> omega)
  have D2 : BoxV ((w.alloc (.cells #[.slice none 0 0] 29)).alloc (.cells #[.slice none 0 0] 29)) (w.heap.size + 1) [.slice none 0 0] := .one (by go_simp) (by go_simp) (by simp <;> omega)
  have Z0 : w.heap.size + 2 ≤ ((w.alloc (.cells #[.slice none 0 0] 29)).alloc (.cells #[.slice none 0 0] 29)).heap.size := by simp
  go_enter Try.func55, Try.ntmps55
  go_wp2
  generalize ((w.alloc (.cells #[.slice none 0 0] 29)).alloc (.cells #[.slice none 0 0] 29)) = W0 at *
  go_loopw [6] (fun i wr => ∃ k : Nat, ∃ v : Value, k ≤ ps.length ∧ i = .int .i64 k ∧ BoxV wr w.heap.size [.slice none 0 0] ∧ BoxV wr (w.heap.size + 1) [v] ∧ wr.ownsRow (w.heap.size + 2) 71 3 v k ((subT zs ps k).flatMap plCells) ∧ New w wr ∧ w.heap.size + 2 ≤ wr.heap.size) (fun i _ => ps.length - (intOf i).toNat)
  case atStart => exact ⟨0, _, Nat.zero_le _, rfl, D1, D2, by rw [subT_zero]; exact World.ownsRow_nil _ _ _ _, N0, Z0⟩
  case round =>
    obtain ⟨k, v, hk, rfl, C1, C2, hown, hN, hZ⟩ := hrel
    clear D1 D2 N0 Z0
    obtain ⟨Ar, cr, rfl⟩ := own_slice3 hown
    by_cases hlt : k < ps.length
    · obtain ⟨b', off', hAe'⟩ := HA'.out (by omega)
      subst hAe'
      have p0 : (0 : Int) ≤ (k : Int) := by omega
      have p1 : (k : Int) < (ps.length : Int) := by omega
      obtain ⟨y0, y1⟩ := HP.out k hlt
      obtain ⟨i, hi⟩ : ∃ i : Nat, ps[k] = (i : Int) := ⟨ps[k].toNat, by omega⟩
      have hil : i < zs.length := by omega
      obtain ⟨x0, bB'⟩ := rd_i HS.out hN rfl hlt
      rw [hi] at x0
      have HST := Lib.hid (fun (w' : World) (v : Value) h => subT_step (w' := w') (base := w.heap.size + 2) (e := 71) (v := v) hlt hil hi h)
      clear hi y0 y1
      obtain ⟨b, off, hAe⟩ := HA.out (by omega)
      subst hAe
      have i0 : (0 : Int) ≤ (i : Int) := by omega
      have i1 : (i : Int) < (zs.length : Int) := by omega
      obtain ⟨⟨u0, u1, u2⟩, bw⟩ := rd_pl HR.out hN rfl hil
      have ⟨f1, g1, l1⟩ := C2.at1
      have ⟨bx0, _, bl0⟩ := (HB.out.new hN).at1
      go_upto_region 5 with fail
      have lf := Later.cell f1 l1
      have lx := Later.cell x0 bB'
      have lb := Later.cell bx0 bl0
      have lu0 := Later.cell u0 bw
      have lu1 := Later.cell u1 bw
      have lu2 := Later.cell u2 bw
      refine wp_region_later_late [0, 1] [2, 3, 4, 5, 6, 7, 8, 9, 10, 11] 12 13 [14, 15] (by kernel_rfl) (by rfl) (by rfl) (by decide +kernel) ?_
      simp only [pickO, List.getElem?_cons_zero, List.getElem?_cons_succ]
      refine wpReads_cons (.pointer (some ⟨w.heap.size + 1, 0, none⟩)) (by rfl) (fun w' hw' => by go_simp) ?_
      simp only [Act.put, List.setIfInBounds_toArray, List.set_cons_zero, List.set_cons_succ]
      refine wpReads_cons (.slice Ar k cr) (by rfl) (fun w' hw' => by obtain ⟨t, rfl⟩ := hw'; go_simp) ?_
      simp only [Act.put, List.setIfInBounds_toArray, List.set_cons_zero, List.set_cons_succ]
      simp only [wpReads]
      (repeat (go_big_quiet_step (fail)))
      refine wpQuiet_nil ?_
      intro wq hw'
      obtain ⟨⟨wz, nq⟩, hwz⟩ := hw'
      have hwz' : wq = wz := hwz
      subst hwz'
      clear hwz lf lx lb lu0 lu1 lu2
      have E2 := C2.new nq
      have hown2 := ownsRow_new hown nq
      have hz2 : w.heap.size + 2 ≤ wq.heap.size := Nat.le_trans hZ nq.size
      clear x0 u0 u1 u2 bx0 f1 g1 l1 hown
      go_wp2_with (at_builtin; refine wpList_app1 rfl _ _ rfl row_Placed _ (w.heap.size + 2) hown2 rfl [.int .i64 zs[i].1.1, .int .i64 zs[i].1.2, .int .i64 zs[i].2] rfl rfl (by simp [Value.oneCell']) (by unfold maxLen; omega) (by omega) hz2 ?_; intro v1 w3 hown1 hb3 _ _; obtain ⟨A1, cc, rfl⟩ := own_slice3 hown1; have G2 := E2.below hb3 (by omega); obtain ⟨g1, g2, g3⟩ := G2.at1)
      have F3 := (Fr.refl (w.heap.size + 1) (w.heap.size + 2) w3).setCell (p := ⟨w.heap.size + 1, 0, none⟩) (by simp) (by simp <;> omega) (.slice A1 (k + 1) cc)
      have hown3 := ((Own.of (HST.out _ _ hown1)).fr F3 (.inr (by omega))).1
      have hN3 := New.fr ((hN.step nq).trans (hb3.mono (by omega))) F3 (by omega)
      have H1 := ((C1.new nq).below hb3 (by omega)).fr F3 (.inl (by omega))
      have H2 := G2.put1 (.slice A1 (k + 1) cc)
      have hz3 : w.heap.size + 2 ≤ (w3.setCell ⟨w.heap.size + 1, 0, none⟩ (.slice A1 (k + 1) cc)).heap.size := Nat.le_trans hz2 (Nat.le_trans hb3.size F3.size)
      clear g1 g2 g3 F3
      refine NoPanic.normal ?_
      go_wp2
      go_roundw
      case rel => exact ⟨k + 1, _, by omega, by go_num, H1, H2, hown3, hN3, hz3⟩
      case measure => simp [intOf]; omega
    · have ek : k = ps.length := by omega
      subst ek
      have ⟨f1, f2, f3⟩ := C1.at1
      have ⟨g1, g2, g3⟩ := C2.at1
      have F := (Fr.refl w.heap.size ((w.heap.size + 1)) wr).setCell (p := ⟨w.heap.size, 0, none⟩) (by simp) (by simp) (.slice Ar ps.length cr)
      have HW := Lib.hid ((Own.of hown).fr F (.inr (by omega)))
      have NN := hN.fr F (by omega)
      have hs := F.size
      clear F hown
      go_wp2
      refine bodyPost_ret (v := .agg #[.slice Ar ps.length cr]) (by simp [results, Try.results55, go_sem, *]) rfl ⟨_, rfl, ?_, NN⟩
      have hw := HW.out
      rw [subT_all] at hw
      rw [subL_len]
      exact hw.wide (by omega) hs (Nat.le_refl _)

set_option maxRecDepth 20000 in
set_option maxHeartbeats 8000000 in
theorem c_sub (lo hi lo' hi' : Nat) (v u : Value) (zs : List ((Int × Int) × Int)) (ps : List Int) (w : World) (h : Rd w lo hi 3 v zs.length (zs.flatMap plCells)) (h' : Rd w lo' hi' 1 u ps.length (ps.map (Value.int .i64))) (hp : prB ps ((zs.length : Int) - 1) = true) (hn : ps.length ≤ 1048576) :
    Calls Try.prog 57 #[.agg #[v], u] w (GivesAsm w 71 (subL zs ps)) := by
  have HR := Lib.hid h
  have HS := Lib.hid h'
  have HP := Lib.hid (fun k (hk : k < ps.length) => pr_in hp hk)
  obtain ⟨_, hm, hh, A, c, rfl, hrd⟩ := h
  have ha : 0 < zs.length → ∃ b off, A = some ⟨b, off, none⟩ := fun h => by obtain ⟨b, off, e, _⟩ := hrd h; exact ⟨b, off, e⟩
  have HA := Lib.hid ha
  obtain ⟨_, hm', hh', A', c', rfl, hrd'⟩ := h'
  have ha' : 0 < ps.length → ∃ b off, A' = some ⟨b, off, none⟩ := fun h => by obtain ⟨b, off, e, _⟩ := hrd' h; exact ⟨b, off, e⟩
  have HA' := Lib.hid ha'
  clear hrd ha hh hrd' ha' hh' hp
  have N0 : New w (((w.alloc (.cells #[.slice A zs.length c] 29)).alloc (.cells #[.slice none 0 0] 29)).alloc (.cells #[.slice none 0 0] 29)) := (((New.same w).box _).box _).box _
  have D0 : BoxV (((w.alloc (.cells #[.slice A zs.length c] 29)).alloc (.cells #[.slice none 0 0] 29)).alloc (.cells #[.slice none 0 0] 29)) w.heap.size [.slice A zs.length c] := .one (by go_simp) (by go_simp) (by simp <;> omega)
  have D1 : BoxV (((w.alloc (.cells #[.slice A zs.length c] 29)).alloc (.cells #[.slice none 0 0] 29)).alloc (.cells #[.slice none 0 0] 29)) (w.heap.size + 1) [.slice none 0 0] := .one (by go_simp) (by go_simp) (by simp <;> omega)
  have D2 : BoxV (((w.alloc (.cells #[.slice A zs.length c] 29)).alloc (.cells #[.slice none 0 0] 29)).alloc (.cells #[.slice none 0 0] 29)) (w.heap.size + 2) [.slice none 0 0] := .one (by go_simp) (by go_simp) (by simp <;> omega)
  have Z0 : w.heap.size + 3 ≤ (((w.alloc (.cells #[.slice A zs.length c] 29)).alloc (.cells #[.slice none 0 0] 29)).alloc (.cells #[.slice none 0 0] 29)).heap.size := by simp
  go_enter Try.func57, Try.ntmps57
  go_wp2
  generalize (((w.alloc (.cells #[.slice A zs.length c] 29)).alloc (.cells #[.slice none 0 0] 29)).alloc (.cells #[.slice none 0 0] 29)) = W0 at *
  go_loopw [10] (fun i wr => ∃ k : Nat, ∃ v : Value, k ≤ ps.length ∧ i = .int .i64 k ∧ BoxV wr w.heap.size [.slice A zs.length c] ∧ BoxV wr (w.heap.size + 1) [.slice none 0 0] ∧ BoxV wr (w.heap.size + 2) [v] ∧ wr.ownsRow (w.heap.size + 3) 71 3 v k ((subT zs ps k).flatMap plCells) ∧ New w wr ∧ w.heap.size + 3 ≤ wr.heap.size) (fun i _ => ps.length - (intOf i).toNat)
  case atStart => exact ⟨0, _, Nat.zero_le _, rfl, D0, D1, D2, by rw [subT_zero]; exact World.ownsRow_nil _ _ _ _, N0, Z0⟩
  case round =>
    obtain ⟨k, v, hk, rfl, C0, C1, C2, hown, hN, hZ⟩ := hrel
    clear D0 D1 D2 N0 Z0
    obtain ⟨Ar, cr, rfl⟩ := own_slice3 hown
    by_cases hlt : k < ps.length
    · obtain ⟨b', off', hAe'⟩ := HA'.out (by omega)
      subst hAe'
      have p0 : (0 : Int) ≤ (k : Int) := by omega
      have p1 : (k : Int) < (ps.length : Int) := by omega
      obtain ⟨y0, y1⟩ := HP.out k hlt
      obtain ⟨i, hi⟩ : ∃ i : Nat, ps[k] = (i : Int) := ⟨ps[k].toNat, by omega⟩
      have hil : i < zs.length := by omega
      obtain ⟨x0, bB'⟩ := rd_i HS.out hN rfl hlt
      rw [hi] at x0
      have HST := Lib.hid (fun (w' : World) (v : Value) h => subT_step (w' := w') (base := w.heap.size + 3) (e := 71) (v := v) hlt hil hi h)
      clear hi y0 y1
      obtain ⟨b, off, hAe⟩ := HA.out (by omega)
      subst hAe
      have i0 : (0 : Int) ≤ (i : Int) := by omega
      have i1 : (i : Int) < (zs.length : Int) := by omega
      obtain ⟨⟨u0, u1, u2⟩, bw⟩ := rd_pl HR.out hN rfl hil
      have ⟨f1, g1, l1⟩ := C2.at1
      have ⟨bx0, _, bl0⟩ := C0.at1
      go_upto_region 5 with fail
      have lf := Later.cell f1 l1
      have lx := Later.cell x0 bB'
      have lb := Later.cell bx0 bl0
      have lu0 := Later.cell u0 bw
      have lu1 := Later.cell u1 bw
      have lu2 := Later.cell u2 bw
      refine wp_region_later_late [0, 1] [2, 3, 4, 5, 6] 7 8 [9, 10] (by kernel_rfl) (by rfl) (by rfl) (by decide +kernel) ?_
      simp only [pickO, List.getElem?_cons_zero, List.getElem?_cons_succ]
      refine wpReads_cons (.pointer (some ⟨w.heap.size + 1 + 1, 0, none⟩)) (by rfl) (fun w' hw' => by go_simp) ?_
      simp only [Act.put, List.setIfInBounds_toArray, List.set_cons_zero, List.set_cons_succ]
      refine wpReads_cons (.slice Ar k cr) (by rfl) (fun w' hw' => by obtain ⟨t, rfl⟩ := hw'; go_simp) ?_
      simp only [Act.put, List.setIfInBounds_toArray, List.set_cons_zero, List.set_cons_succ]
      simp only [wpReads]
      (repeat (go_big_quiet_step (fail)))
      refine wpQuiet_nil ?_
      intro wq hw'
      obtain ⟨⟨wz, nq⟩, hwz⟩ := hw'
      have hwz' : wq = wz := hwz
      subst hwz'
      clear hwz lf lx lb lu0 lu1 lu2
      have E2 := C2.new nq
      have hown2 := ownsRow_new hown nq
      have hz2 : w.heap.size + 3 ≤ wq.heap.size := Nat.le_trans hZ nq.size
      clear x0 u0 u1 u2 bx0 f1 g1 l1 hown
      go_wp2_with (at_builtin; refine wpList_app1 rfl _ _ rfl row_Placed _ (w.heap.size + 3) hown2 rfl [.int .i64 zs[i].1.1, .int .i64 zs[i].1.2, .int .i64 zs[i].2] rfl rfl (by simp [Value.oneCell']) (by unfold maxLen; omega) (by omega) hz2 ?_; intro v1 w3 hown1 hb3 _ _; obtain ⟨A1, cc, rfl⟩ := own_slice3 hown1; have G2 := E2.below hb3 (by omega); obtain ⟨g1, g2, g3⟩ := G2.at1)
      have F3 := (Fr.refl (w.heap.size + 2) (w.heap.size + 3) w3).setCell (p := ⟨w.heap.size + 1 + 1, 0, none⟩) (by simp) (by simp <;> omega) (.slice A1 (k + 1) cc)
      have hown3 := ((Own.of (HST.out _ _ hown1)).fr F3 (.inr (by omega))).1
      have hN3 := New.fr ((hN.step nq).trans (hb3.mono (by omega))) F3 (by omega)
      have H0 := ((C0.new nq).below hb3 (by omega)).fr F3 (.inl (by omega))
      have H1 := ((C1.new nq).below hb3 (by omega)).fr F3 (.inl (by omega))
      have H2 := G2.put1 (.slice A1 (k + 1) cc)
      have hz3 : w.heap.size + 3 ≤ (w3.setCell ⟨w.heap.size + 1 + 1, 0, none⟩ (.slice A1 (k + 1) cc)).heap.size := Nat.le_trans hz2 (Nat.le_trans hb3.size F3.size)
      clear g1 g2 g3 F3
      refine NoPanic.normal ?_
      go_wp2
      go_roundw
      case rel => exact ⟨k + 1, _, by omega, by go_num, H0, H1, H2, hown3, hN3, hz3⟩
      case measure => simp [intOf]; omega
    · have ek : k = ps.length := by omega
      subst ek
      have ⟨f1, f2, f3⟩ := C1.at1
      have ⟨g1, g2, g3⟩ := C2.at1
      have F := (Fr.refl (w.heap.size + 1) (w.heap.size + 2) wr).setCell (p := ⟨w.heap.size + 1, 0, none⟩) (by simp) (by simp) (.slice Ar ps.length cr)
      have HW := Lib.hid ((Own.of hown).fr F (.inr (by omega)))
      have NN := hN.fr F (by omega)
      have hs := F.size
      clear F hown
      go_wp2
      refine bodyPost_ret (v := .agg #[.slice Ar ps.length cr]) (by simp [results, Try.results57, go_sem, *]) rfl ⟨_, rfl, ?_, NN⟩
      have hw := HW.out
      rw [subT_all] at hw
      rw [subL_len]
      exact hw.wide (by omega) hs (Nat.le_refl _)

/-- what SubAssembly hands back -/
def sbG (zs : List ((Int × Int) × Int)) (ps : List Int) : Bool := frmB zs && prB ps ((zs.length : Int) - 1)
def sbF (zs : List ((Int × Int) × Int)) (ps : List Int) : List ((Int × Int) × Int) := if sbG zs ps then subL zs ps else []
def sbC (zs : List ((Int × Int) × Int)) (ps : List Int) : Int := if frmB zs then (if prB ps ((zs.length : Int) - 1) then 0 else 2) else 1
theorem sb_no {zs : List ((Int × Int) × Int)} {ps : List Int} (h : frmB zs = false) : sbC zs ps = 1 ∧ sbF zs ps = [] := by simp [sbC, sbF, sbG, h]
theorem sb_two {zs : List ((Int × Int) × Int)} {ps : List Int} (h : frmB zs = true) (h2 : prB ps ((zs.length : Int) - 1) = false) : sbC zs ps = 2 ∧ sbF zs ps = [] := by simp [sbC, sbF, sbG, h, h2]
theorem sb_yes {zs : List ((Int × Int) × Int)} {ps : List Int} (h : frmB zs = true) (h2 : prB ps ((zs.length : Int) - 1) = true) : sbC zs ps = 0 ∧ sbF zs ps = subL zs ps := by simp [sbC, sbF, sbG, h, h2]
theorem sbF_len (zs : List ((Int × Int) × Int)) (ps : List Int) : (sbF zs ps).length ≤ ps.length := by
  unfold sbF
  split
  · rw [subL_len]; exact Nat.le_refl _
  · simp

set_option maxRecDepth 20000 in
set_option maxHeartbeats 4000000 in
theorem c_specSubAssembly (lo hi lo' hi' : Nat) (v u : Value) (zs : List ((Int × Int) × Int)) (ps : List Int) (w : World) (h : Own w lo hi 71 3 v zs.length (zs.flatMap plCells)) (h' : Rd w lo' hi' 1 u ps.length (ps.map (Value.int .i64))) (hn : ps.length ≤ 1048576) :
    Calls Try.prog 27 #[.agg #[v], u] w (GivesAsmCode w 71 (sbF zs ps) (sbC zs ps)) := by
  have HO := Lib.hid h
  have HQ := Lib.hid h'
  obtain ⟨A, c, rfl⟩ := own_slice3 h.1
  obtain ⟨_, hm', _, A', c', rfl, _⟩ := h'
  have hm := h.rd.2.1
  clear h
  have n0 : New w ((w.alloc (.cells #[.slice A zs.length c] 29)).alloc (.cells #[.slice none 0 0] 29)) := ((New.same w).box _).box _
  have B0 : BoxV ((w.alloc (.cells #[.slice A zs.length c] 29)).alloc (.cells #[.slice none 0 0] 29)) w.heap.size [.slice A zs.length c] := .one (by go_simp) (by go_simp) (by simp <;> omega)
  have C1 : BoxV ((w.alloc (.cells #[.slice A zs.length c] 29)).alloc (.cells #[.slice none 0 0] 29)) (w.heap.size + 1) [.slice none 0 0] := .one (by go_simp) (by go_simp) (by simp <;> omega)
  have hz : w.heap.size + 2 ≤ ((w.alloc (.cells #[.slice A zs.length c] 29)).alloc (.cells #[.slice none 0 0] 29)).heap.size := by simp
  go_enter Try.func27, Try.ntmps27
  cases hf : frmB zs
  · have HE := Lib.hid (sb_no (ps := ps) hf)
    have HF := Lib.hid hf
    clear hf
    go_wp2_with fail
    generalize ((w.alloc (.cells #[.slice A zs.length c] 29)).alloc (.cells #[.slice none 0 0] 29)) = W0 at *
    refine (c_l03Form _ _ _ _ zs _ B0 (HO.out.new n0).rd).mono ?_
    rintro e w1 ⟨rfl, n1⟩
    rw [HF.out]
    have N := n0.step n1
    have hz1 : w.heap.size + 2 ≤ w1.heap.size := Nat.le_trans hz n1.size
    replace B0 := B0.new n1
    replace C1 := C1.new n1
    clear hz n0 n1
    have ⟨bx0, _, bl0⟩ := B0.at1
    have ⟨c1, g1, l1⟩ := C1.at1
    go_wp2
    refine bodyPost_ret (v := .tuple #[.agg #[.slice none 0 0], .int .i64 1]) (by simp [results, Try.results27, go_sem, *]) rfl ?_
    obtain ⟨e1, e2⟩ := HE.out
    unfold GivesAsmCode
    rw [e1, e2]
    exact ⟨_, rfl, own_nil _ _ (Nat.le_refl _) _ _ _, Below.setCell N (by simp <;> omega) _⟩
  · have HF := Lib.hid hf
    have hl : zs.length ≤ 500 := by simp [frmB] at hf; exact hf.1
    cases hp : prB ps ((zs.length : Int) - 1)
    · have HE := Lib.hid (sb_two hf hp)
      have HP := Lib.hid hp
      clear hf hp
      go_wp2_with fail
      generalize ((w.alloc (.cells #[.slice A zs.length c] 29)).alloc (.cells #[.slice none 0 0] 29)) = W0 at *
      refine (c_l03Form _ _ _ _ zs _ B0 (HO.out.new n0).rd).mono ?_
      rintro e w1 ⟨rfl, n1⟩
      rw [HF.out]
      have N := n0.step n1
      have hz1 : w.heap.size + 2 ≤ w1.heap.size := Nat.le_trans hz n1.size
      replace B0 := B0.new n1
      replace C1 := C1.new n1
      clear hz n0 n1
      have ⟨bx0, _, bl0⟩ := B0.at1
      go_wp2_with fail
      clear bx0 bl0
      refine (c_l06Part _ _ _ _ _ _ _ ps _ B0 (by omega) (HQ.out.new N)).mono ?_
      rintro e w2 ⟨rfl, n2⟩
      rw [HP.out]
      replace N := N.step n2
      have hz2 : w.heap.size + 2 ≤ w2.heap.size := Nat.le_trans hz1 n2.size
      replace B0 := B0.new n2
      replace C1 := C1.new n2
      clear hz1 n2
      have ⟨bx0, _, bl0⟩ := B0.at1
      have ⟨c1, g1, l1⟩ := C1.at1
      go_wp2
      refine bodyPost_ret (v := .tuple #[.agg #[.slice none 0 0], .int .i64 2]) (by simp [results, Try.results27, go_sem, *]) rfl ?_
      obtain ⟨e1, e2⟩ := HE.out
      unfold GivesAsmCode
      rw [e1, e2]
      exact ⟨_, rfl, own_nil _ _ (Nat.le_refl _) _ _ _, Below.setCell N (by simp <;> omega) _⟩
    · have HE := Lib.hid (sb_yes hf hp)
      have HP := Lib.hid hp
      clear hf hp
      go_wp2_with fail
      generalize ((w.alloc (.cells #[.slice A zs.length c] 29)).alloc (.cells #[.slice none 0 0] 29)) = W0 at *
      refine (c_l03Form _ _ _ _ zs _ B0 (HO.out.new n0).rd).mono ?_
      rintro e w1 ⟨rfl, n1⟩
      rw [HF.out]
      have N := n0.step n1
      have hz1 : w.heap.size + 2 ≤ w1.heap.size := Nat.le_trans hz n1.size
      replace B0 := B0.new n1
      replace C1 := C1.new n1
      clear hz n0 n1
      have ⟨bx0, _, bl0⟩ := B0.at1
      go_wp2_with fail
      clear bx0 bl0
      refine (c_l06Part _ _ _ _ _ _ _ ps _ B0 (by omega) (HQ.out.new N)).mono ?_
      rintro e w2 ⟨rfl, n2⟩
      rw [HP.out]
      replace N := N.step n2
      have hz2 : w.heap.size + 2 ≤ w2.heap.size := Nat.le_trans hz1 n2.size
      replace B0 := B0.new n2
      replace C1 := C1.new n2
      clear hz1 n2
      have ⟨bx0, _, bl0⟩ := B0.at1
      go_wp2_with fail
      clear bx0 bl0
      refine (c_l06Sub _ _ _ _ _ _ _ zs ps _ B0 (HO.out.new N).rd (HQ.out.new N) HP.out hn).mono ?_
      rintro e w3 ⟨v3, rfl, hO3, n3⟩
      obtain ⟨A3, c3, rfl⟩ := own_slice3 hO3.1
      replace C1 := C1.new n3
      have F3 := (Fr.refl (w.heap.size + 1) (w.heap.size + 2) w3).setCell (p := ⟨w.heap.size + 1, 0, none⟩) (by simp) (by simp) (.slice A3 (subL zs ps).length c3)
      have HW := Lib.hid ((hO3.fr F3 (.inr (by omega))).wide (by omega : w.heap.size ≤ _) F3.size (Nat.le_refl _))
      have NN := Lib.hid (New.fr (N.step n3) F3 (by omega))
      clear hO3 F3
      have ⟨c1, g1, l1⟩ := C1.at1
      go_wp2
      refine bodyPost_ret (v := .tuple #[.agg #[.slice A3 (subL zs ps).length c3], .int .i64 0]) (by simp [results, Try.results27, go_sem, *]) rfl ?_
      obtain ⟨e1, e2⟩ := HE.out
      unfold GivesAsmCode
      rw [e1, e2]
      exact ⟨_, rfl, HW.out, NN.out⟩

set_option maxRecDepth 20000 in
set_option maxHeartbeats 4000000 in
theorem c_implSubAssembly (lo hi lo' hi' : Nat) (v u : Value) (zs : List ((Int × Int) × Int)) (ps : List Int) (w : World) (h : Own w lo hi 71 3 v zs.length (zs.flatMap plCells)) (h' : Rd w lo' hi' 1 u ps.length (ps.map (Value.int .i64))) (hn : ps.length ≤ 1048576) :
    Calls Try.prog 29 #[.agg #[v], u] w (GivesAsmCode w 71 (sbF zs ps) (sbC zs ps)) := by
  have HO := Lib.hid h
  have HQ := Lib.hid h'
  obtain ⟨A, c, rfl⟩ := own_slice3 h.1
  obtain ⟨_, hm', _, A', c', rfl, _⟩ := h'
  have hm := h.rd.2.1
  clear h
  have n0 : New w ((w.alloc (.cells #[.slice A zs.length c] 29)).alloc (.cells #[.slice none 0 0] 29)) := ((New.same w).box _).box _
  have B0 : BoxV ((w.alloc (.cells #[.slice A zs.length c] 29)).alloc (.cells #[.slice none 0 0] 29)) w.heap.size [.slice A zs.length c] := .one (by go_simp) (by go_simp) (by simp <;> omega)
  have C1 : BoxV ((w.alloc (.cells #[.slice A zs.length c] 29)).alloc (.cells #[.slice none 0 0] 29)) (w.heap.size + 1) [.slice none 0 0] := .one (by go_simp) (by go_simp) (by simp <;> omega)
  have hz : w.heap.size + 2 ≤ ((w.alloc (.cells #[.slice A zs.length c] 29)).alloc (.cells #[.slice none 0 0] 29)).heap.size := by simp
  go_enter Try.func29, Try.ntmps29
  cases hf : frmB zs
  · have HE := Lib.hid (sb_no (ps := ps) hf)
    have HF := Lib.hid hf
    clear hf
    go_wp2_with fail
    generalize ((w.alloc (.cells #[.slice A zs.length c] 29)).alloc (.cells #[.slice none 0 0] 29)) = W0 at *
    refine (c_hasForm _ _ _ zs _ (HO.out.new n0).rd).mono ?_
    rintro e w1 ⟨rfl, n1⟩
    rw [HF.out]
    have N := n0.step n1
    have hz1 : w.heap.size + 2 ≤ w1.heap.size := Nat.le_trans hz n1.size
    replace B0 := B0.new n1
    replace C1 := C1.new n1
    clear hz n0 n1
    have ⟨bx0, _, bl0⟩ := B0.at1
    have ⟨c1, g1, l1⟩ := C1.at1
    go_wp2
    refine bodyPost_ret (v := .tuple #[.agg #[.slice none 0 0], .int .i64 1]) (by simp [results, Try.results29, go_sem, *]) rfl ?_
    obtain ⟨e1, e2⟩ := HE.out
    unfold GivesAsmCode
    rw [e1, e2]
    exact ⟨_, rfl, own_nil _ _ (Nat.le_refl _) _ _ _, Below.setCell N (by simp <;> omega) _⟩
  · have HF := Lib.hid hf
    have hl : zs.length ≤ 500 := by simp [frmB] at hf; exact hf.1
    cases hp : prB ps ((zs.length : Int) - 1)
    · have HE := Lib.hid (sb_two hf hp)
      have HP := Lib.hid hp
      clear hf hp
      go_wp2_with fail
      generalize ((w.alloc (.cells #[.slice A zs.length c] 29)).alloc (.cells #[.slice none 0 0] 29)) = W0 at *
      refine (c_hasForm _ _ _ zs _ (HO.out.new n0).rd).mono ?_
      rintro e w1 ⟨rfl, n1⟩
      rw [HF.out]
      have N := n0.step n1
      have hz1 : w.heap.size + 2 ≤ w1.heap.size := Nat.le_trans hz n1.size
      replace B0 := B0.new n1
      replace C1 := C1.new n1
      clear hz n0 n1
      have ⟨bx0, _, bl0⟩ := B0.at1
      go_wp2_with fail
      clear bx0 bl0
      refine (c_isPart _ _ _ _ _ _ ps _ (by omega) (HQ.out.new N)).mono ?_
      rintro e w2 ⟨rfl, n2⟩
      rw [HP.out]
      replace N := N.step n2
      have hz2 : w.heap.size + 2 ≤ w2.heap.size := Nat.le_trans hz1 n2.size
      replace B0 := B0.new n2
      replace C1 := C1.new n2
      clear hz1 n2
      have ⟨bx0, _, bl0⟩ := B0.at1
      have ⟨c1, g1, l1⟩ := C1.at1
      go_wp2
      refine bodyPost_ret (v := .tuple #[.agg #[.slice none 0 0], .int .i64 2]) (by simp [results, Try.results29, go_sem, *]) rfl ?_
      obtain ⟨e1, e2⟩ := HE.out
      unfold GivesAsmCode
      rw [e1, e2]
      exact ⟨_, rfl, own_nil _ _ (Nat.le_refl _) _ _ _, Below.setCell N (by simp <;> omega) _⟩
    · have HE := Lib.hid (sb_yes hf hp)
      have HP := Lib.hid hp
      clear hf hp
      go_wp2_with fail
      generalize ((w.alloc (.cells #[.slice A zs.length c] 29)).alloc (.cells #[.slice none 0 0] 29)) = W0 at *
      refine (c_hasForm _ _ _ zs _ (HO.out.new n0).rd).mono ?_
      rintro e w1 ⟨rfl, n1⟩
      rw [HF.out]
      have N := n0.step n1
      have hz1 : w.heap.size + 2 ≤ w1.heap.size := Nat.le_trans hz n1.size
      replace B0 := B0.new n1
      replace C1 := C1.new n1
      clear hz n0 n1
      have ⟨bx0, _, bl0⟩ := B0.at1
      go_wp2_with fail
      clear bx0 bl0
      refine (c_isPart _ _ _ _ _ _ ps _ (by omega) (HQ.out.new N)).mono ?_
      rintro e w2 ⟨rfl, n2⟩
      rw [HP.out]
      replace N := N.step n2
      have hz2 : w.heap.size + 2 ≤ w2.heap.size := Nat.le_trans hz1 n2.size
      replace B0 := B0.new n2
      replace C1 := C1.new n2
      clear hz1 n2
      have ⟨bx0, _, bl0⟩ := B0.at1
      go_wp2_with fail
      clear bx0 bl0
      refine (c_sub _ _ _ _ _ _ zs ps _ (HO.out.new N).rd (HQ.out.new N) HP.out hn).mono ?_
      rintro e w3 ⟨v3, rfl, hO3, n3⟩
      obtain ⟨A3, c3, rfl⟩ := own_slice3 hO3.1
      replace C1 := C1.new n3
      have F3 := (Fr.refl (w.heap.size + 1) (w.heap.size + 2) w3).setCell (p := ⟨w.heap.size + 1, 0, none⟩) (by simp) (by simp) (.slice A3 (subL zs ps).length c3)
      have HW := Lib.hid ((hO3.fr F3 (.inr (by omega))).wide (by omega : w.heap.size ≤ _) F3.size (Nat.le_refl _))
      have NN := Lib.hid (New.fr (N.step n3) F3 (by omega))
      clear hO3 F3
      have ⟨c1, g1, l1⟩ := C1.at1
      go_wp2
      refine bodyPost_ret (v := .tuple #[.agg #[.slice A3 (subL zs ps).length c3], .int .i64 0]) (by simp [results, Try.results29, go_sem, *]) rfl ?_
      obtain ⟨e1, e2⟩ := HE.out
      unfold GivesAsmCode
      rw [e1, e2]
      exact ⟨_, rfl, HW.out, NN.out⟩

end Go.Proofs.Ytnbpcdnncfkgjaa
