/- Both sides of ValidAssembly. -/
import Derived.Test.YtfnihmmkbnkmnaaDoorSetFn2
import Derived.Test.YtfnihmmkbnkmnaaDoorForm
import Derived.Test.YtfnihmmkbnkmnaaDoorFind
import Derived.Test.YtfnihmmkbnkmnaaDoorBox2
namespace Go.Proofs.YtfnihmmkbnkmnaaDoor
open Go.RowKit Go.Deep
set_option linter.unusedVariables false
set_option linter.unusedSimpArgs false

/-- the tile's number is none of the set's -/
def noTl (n : Nat) (p : (Int × Int) × Int) : Bool := !inB p.2 0 ((n : Int) - 1)
def asmOk (n : Nat) (zs : List ((Int × Int) × Int)) : Bool := frmB zs && !zs.any (noTl n)
def vaB (G : List (ByteArray × Int)) (T : List (ByteArray × List Int)) (zs : List ((Int × Int) × Int)) : Bool := setB G T && asmOk T.length zs

set_option maxHeartbeats 2000000 in
theorem c_l03Ok (b0 b1 lo hi : Nat) (gv v : Value) (B : Option Addr) (d : Nat) (n : Nat) (zs : List ((Int × Int) × Int)) (w : World) (B0 : BoxV w b0 [gv, .slice B n d]) (hn : n ≤ 160) (B1 : BoxV w b1 [v]) (hz : Rd w lo hi 3 v zs.length (zs.flatMap plCells)) :
    Calls Tryd.prog 40 #[.pointer (some ⟨b0, 0, none⟩), .pointer (some ⟨b1, 0, none⟩)] w fun e w' => e = .returned (.bool (asmOk n zs)) ∧ New w w' := by
  have HR := Lib.hid hz
  have HB0 := Lib.hid B0
  have HB1 := Lib.hid B1
  have HC := Lib.hid (c_l03Form b1 lo hi v zs w B1 hz)
  obtain ⟨_, hm, _, A, c, rfl, hrd⟩ := hz
  have ha : 0 < zs.length → ∃ b off, A = some ⟨b, off, none⟩ := fun h => by obtain ⟨b, off, e, _⟩ := hrd h; exact ⟨b, off, e⟩
  have HA := Lib.hid ha
  clear hrd ha B0 B1
  cases hf : frmB zs
  · have E := Lib.hid (show asmOk n zs = false by simp [asmOk, hf])
    rw [hf] at HC
    go_enter Tryd.func40, Tryd.ntmps40
    go_wp2_with (go_at_call 76; refine HC.out.mono ?_; rintro e w1 ⟨rfl, n1⟩)
    go_ret
    exact ⟨ret_bool E.out.symm, n1⟩
  · have E := Lib.hid (show asmOk n zs = !zs.any (noTl n) by simp [asmOk, hf])
    rw [hf] at HC
    clear hf
    go_enter Tryd.func40, Tryd.ntmps40
    go_wp2_with (go_at_call 76; refine HC.out.mono ?_; rintro e w1 ⟨rfl, n1⟩)
    go_loopw [5] (fun i wr => ∃ k : Nat, k ≤ zs.length ∧ i = .int .i64 k ∧ Hid (∀ j (hj : j < zs.length), j < k → noTl n zs[j] = false) ∧ New w wr) (fun i _ => zs.length - (intOf i).toNat)
    case atStart => exact ⟨0, Nat.zero_le _, rfl, Lib.hid (fun j _ hj => absurd hj (Nat.not_lt_zero _)), n1⟩
    case round =>
      obtain ⟨k, hk, rfl, HJ, hN⟩ := hrel
      have ⟨x1, _, l1⟩ := (HB1.out.new hN).at1
      by_cases hlt : k < zs.length
      · obtain ⟨b, off, hAe⟩ := HA.out (by omega)
        subst hAe
        have p0 : (0 : Int) ≤ (k : Int) := by omega
        have p1 : (k : Int) < (zs.length : Int) := by omega
        obtain ⟨⟨u0, u1, u2⟩, bw0⟩ := rd_pl HR.out hN rfl hlt
        have HI := Lib.hid (c_l02Index b0 gv B n d zs[k].2 wr (HB0.out.new hN) (by omega))
        cases hp : inB zs[k].2 0 ((n : Int) - 1)
        · have HP := Lib.hid (any_hit (p := noTl n) hlt (by simp [noTl, hp]))
          rw [hp] at HI
          clear hp
          go_wp2_with (go_at_call 77; refine HI.out.mono ?_; rintro e w' ⟨rfl, rfl⟩)
          go_ret
          exact ⟨ret_bool (by rw [E.out, HP.out]; rfl), hN⟩
        · have HP := Lib.hid hp
          rw [hp] at HI
          clear hp
          go_wp2_with (go_at_call 77; refine HI.out.mono ?_; rintro e w' ⟨rfl, rfl⟩)
          go_roundw
          case rel =>
            refine ⟨k + 1, by omega, by go_num, Lib.hid (fun j hj hjk => ?_), hN⟩
            by_cases e : j = k
            · subst e; simp [noTl, HP.out]
            · exact HJ.out j hj (by omega)
          case measure => simp [intOf]; omega
      · have hk' : k = zs.length := by omega
        have HE : Hid (asmOk n zs = true) := Lib.hid (by rw [E.out, any_miss (fun j hj => HJ.out j hj (by omega))]; rfl)
        subst hk'
        go_wp2
        go_ret
        exact ⟨ret_bool HE.out.symm, hN⟩

/-- a placed tile as a value -/
def plV (p : (Int × Int) × Int) : Value := .agg #[.int .i64 p.1.1, .int .i64 p.1.2, .int .i64 p.2]
set_option maxHeartbeats 1000000 in
theorem c_indexFunc_Placed (g : FuncId) (cb : Array Value) (p : (Int × Int) × Int → Bool) (eg : EntersIt Tryd.prog g) (lo hi : Nat) (v : Value) (zs : List ((Int × Int) × Int)) (w : World) (h : Rd w lo hi 3 v zs.length (zs.flatMap plCells))
    (ht : Tests Tryd.prog g cb (fun x => .agg #[.int .i64 x.1.1, .int .i64 x.1.2, .int .i64 x.2]) p zs w) : Calls Tryd.prog 104 #[v, .func (.func g) #[] cb] w fun e w' => e = .returned (.int .i64 (idxF p zs)) ∧ New w w' := by
  have HR := Lib.hid h
  have EG := Lib.hid ht
  obtain ⟨_, hm, _, A, c, rfl, hrd⟩ := h
  have ha : 0 < zs.length → ∃ b off, A = some ⟨b, off, none⟩ := fun h => by obtain ⟨b, off, e, _⟩ := hrd h; exact ⟨b, off, e⟩
  have HA := Lib.hid ha
  unfold EntersIt at eg
  clear ht ha hrd
  go_enter Tryd.func104, Tryd.ntmps104
  go_wp2
  go_loopw [5, 8] (fun _ i wr => ∃ k : Nat, k ≤ zs.length ∧ i = .int .i64 k ∧ Hid (∀ j (hj : j < zs.length), j < k → p zs[j] = false) ∧ New w wr) (fun _ i _ => zs.length - (intOf i).toNat)
  case atStart => exact ⟨0, Nat.zero_le _, rfl, Lib.hid (fun j _ hj => absurd hj (Nat.not_lt_zero _)), New.same _⟩
  case round =>
    obtain ⟨k, hk, rfl, HJ, hN⟩ := hrel
    by_cases hlt : k < zs.length
    · obtain ⟨b, off, hAe⟩ := HA.out (by omega)
      subst hAe
      have p0 : (0 : Int) ≤ (k : Int) := by omega
      have p1 : (k : Int) < (zs.length : Int) := by omega
      obtain ⟨⟨x0, x1, x2⟩, bw⟩ := rd_pl HR.out hN rfl hlt
      have hcall := EG.out zs[k] wr (List.getElem_mem hlt) hN
      cases hp : p zs[k]
      · have HP := Lib.hid hp
        rw [hp] at hcall
        clear hp
        have HC := Lib.hid hcall
        clear hcall
        go_wp2_with (go_at_fn g; refine (HC.out).mono ?_; rintro e w1 ⟨rfl, n1⟩)
        go_roundw
        case rel =>
          refine ⟨k + 1, by omega, by go_num, Lib.hid (fun j hj hjk => ?_), hN.step n1⟩
          by_cases e : j = k
          · subst e; exact HP.out
          · exact HJ.out j hj (by omega)
        case measure => simp [intOf]; omega
      · have HP := Lib.hid hp
        rw [hp] at hcall
        clear hp
        have HC := Lib.hid hcall
        clear hcall
        go_wp2_with (go_at_fn g; refine (HC.out).mono ?_; rintro e w1 ⟨rfl, n1⟩)
        go_ret
        exact ⟨congrArg (fun q => Ending.returned (.int .i64 q)) (idxF_hit p zs k hlt HJ.out HP.out).symm, hN.step n1⟩
    · have hk' : k = zs.length := by omega
      subst hk'
      go_wp2
      go_ret
      exact ⟨congrArg (fun q => Ending.returned (.int .i64 q)) (idxF_miss p zs (fun j hj => HJ.out j hj hj)).symm, hN⟩
set_option maxHeartbeats 400000 in
theorem c_containsFunc_Placed (g : FuncId) (cb : Array Value) (p : (Int × Int) × Int → Bool) (eg : EntersIt Tryd.prog g) (lo hi : Nat) (v : Value) (zs : List ((Int × Int) × Int)) (w : World) (h : Rd w lo hi 3 v zs.length (zs.flatMap plCells))
    (ht : Tests Tryd.prog g cb (fun x => .agg #[.int .i64 x.1.1, .int .i64 x.1.2, .int .i64 x.2]) p zs w) : Calls Tryd.prog 81 #[v, .func (.func g) #[] cb] w fun e w' => e = .returned (.bool (zs.any p)) ∧ New w w' := by
  rw [← idxF_any]
  have HT := Lib.hid ht
  have HR := Lib.hid h
  clear ht h
  go_enter Tryd.func81, Tryd.ntmps81
  go_wp2_with (go_at_call 104; refine (c_indexFunc_Placed g cb p eg lo hi v zs w HR.out HT.out).mono ?_; rintro e w1 ⟨rfl, n1⟩)
  go_ret
  exact ⟨rfl, n1⟩
theorem enters_va : EntersIt Tryd.prog 82 := enters_of Tryd.func82 (by kernel_rfl) rfl
set_option maxHeartbeats 1000000 in
theorem tests_va (b n d : Nat) (gv : Value) (hgv : gv.oneCell' = true) (B : Option Addr) (zs : List ((Int × Int) × Int)) (w : World) (B0 : BoxV w b [gv, .slice B n d]) (hn : n ≤ 160) : Tests Tryd.prog 82 #[.pointer (some ⟨b, 0, none⟩)] (fun x => .agg #[.int .i64 x.1.1, .int .i64 x.1.2, .int .i64 x.2]) (noTl n) zs w := by
  intro x W _ hN
  have ⟨⟨x0, y0⟩, _, l0⟩ := (B0.new hN).at2
  show Calls _ _ #[.agg #[.int .i64 x.1.1, .int .i64 x.1.2, .int .i64 x.2], .pointer (some ⟨b, 0, none⟩)] W _
  unfold noTl
  go_enter Tryd.func82, Tryd.ntmps82
  go_wp2_with (go_at_call 83; refine (c_isTile gv B n d _ _ (by omega) hgv).mono ?_; rintro e w1 ⟨rfl, n1⟩)
  go_ret
  exact ⟨rfl, ((New.same _).box _).step n1⟩
set_option maxHeartbeats 2000000 in
theorem c_implValidAssembly (lo hi lo' hi' : Nat) (gv tv v : Value) (G : List (ByteArray × Int)) (T : List (ByteArray × List Int)) (sv : List Value) (zs : List ((Int × Int) × Int)) (w : World) (h : RdS w lo hi gv tv G T sv) (hg : ∀ g ∈ G, g.1.size ≤ maxLen) (ht : ∀ t ∈ T, t.1.size ≤ maxLen) (hz : Rd w lo' hi' 3 v zs.length (zs.flatMap plCells)) :
    Calls Tryd.prog 43 #[.agg #[gv, tv], .agg #[v]] w fun e w' => e = .returned (.bool (vaB G T zs)) ∧ New w w' := by
  obtain ⟨A, c, B, d, rfl, rfl⟩ := h.form
  have HR := Lib.hid hz
  obtain ⟨_, hm, _, A', c', rfl, _⟩ := hz
  have HH := Lib.hid h
  clear h
  have n0 : New w ((w.alloc (.cells #[.slice A G.length c, .slice B T.length d] 37)).alloc (.cells #[.slice A' zs.length c'] 48)) := ((New.same w).box _).box _
  have B0 : BoxV ((w.alloc (.cells #[.slice A G.length c, .slice B T.length d] 37)).alloc (.cells #[.slice A' zs.length c'] 48)) w.heap.size [.slice A G.length c, .slice B T.length d] := .two (by go_simp) (by go_simp) (by go_simp) (by go_simp) (by simp <;> omega)
  have B1 : BoxV ((w.alloc (.cells #[.slice A G.length c, .slice B T.length d] 37)).alloc (.cells #[.slice A' zs.length c'] 48)) (w.heap.size + 1) [.slice A' zs.length c'] := .one (by go_simp) (by go_simp) (by simp <;> omega)
  have HC := Lib.hid (c_implValidSet _ _ _ _ G T sv _ (HH.out.new n0) hg ht)
  cases hs : setB G T
  · have E := Lib.hid (show vaB G T zs = false by simp [vaB, hs])
    rw [hs] at HC
    clear hs
    go_enter Tryd.func43, Tryd.ntmps43
    go_wp2_with (go_at_call 35; refine HC.out.mono ?_; rintro e w1 ⟨rfl, n1⟩)
    go_ret
    exact ⟨ret_bool E.out.symm, n0.step n1⟩
  · rw [hs] at HC
    obtain ⟨i1, i2, i3, _⟩ := set_in hs
    cases hf : frmB zs
    · have E := Lib.hid (show vaB G T zs = false by simp [vaB, asmOk, hf])
      have HF := Lib.hid (fun w' h => hf ▸ c_hasForm lo' hi' (.slice A' zs.length c') zs w' h)
      clear hs hf
      go_enter Tryd.func43, Tryd.ntmps43
      go_wp2_with (first | (go_at_call 35; refine HC.out.mono ?_; rintro e w1 ⟨rfl, n1⟩; have ⟨x1, _, l1⟩ := (B1.new n1).at1) | (go_at_call 80; refine (HF.out _ ((HR.out.new n0).new n1)).mono ?_; rintro e w2 ⟨rfl, n2⟩))
      go_ret
      exact ⟨ret_bool E.out.symm, (n0.step n1).step n2⟩
    · have E := Lib.hid (show vaB G T zs = !zs.any (noTl T.length) by simp [vaB, asmOk, hf, hs])
      have HF := Lib.hid (fun w' h => hf ▸ c_hasForm lo' hi' (.slice A' zs.length c') zs w' h)
      clear hs hf
      go_enter Tryd.func43, Tryd.ntmps43
      go_wp2_with (first | (go_at_call 35; refine HC.out.mono ?_; rintro e w1 ⟨rfl, n1⟩; have ⟨x1, _, l1⟩ := (B1.new n1).at1) | (go_at_call 80; refine (HF.out _ ((HR.out.new n0).new n1)).mono ?_; rintro e w2 ⟨rfl, n2⟩; clear x1; have ⟨x1, _, l1⟩ := ((B1.new n1).new n2).at1; have n12 := n1.step n2) | (go_at_call 81; refine (c_containsFunc_Placed _ _ (noTl T.length) enters_va lo' hi' _ zs _ ((HR.out.new n0).new n12) (tests_va w.heap.size T.length d _ rfl B zs _ (B0.new n12) (by omega))).mono ?_; rintro e w3 ⟨rfl, n3⟩))
      go_ret
      exact ⟨ret_bool E.out.symm, (n0.step n12).step n3⟩
end Go.Proofs.YtfnihmmkbnkmnaaDoor
