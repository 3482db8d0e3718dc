/- Contracts of the functions on sets: look-ups by name, strengths, bonds. -/
import Derived.Test.YtcbifdfcllaaaaaSetOk2
namespace Go.Proofs.Ytcbifdfcllaaaaa
open Go.RowKit Go.Deep
set_option linter.unusedVariables false
set_option linter.unusedSimpArgs false


/-- In whatever world has come of w by growth alone the function value answers p of each tile. -/
def TestsT (P : Program) (g : FuncId) (cb : Array Value) (p : ByteArray × List Int → Bool) (T : List (ByteArray × List Int)) (sv : List Value) (w : World) : Prop :=
  ∀ k (hk : k < T.length) (u : Value) (W : World), sv[k]? = some u → New w W → Calls P g (#[.agg #[.string T[k].1, u]] ++ cb) W fun e w' => e = .returned (.bool (p T[k])) ∧ New W w'

set_option maxHeartbeats 1000000 in
theorem c_indexFunc_Glue (g : FuncId) (cb : Array Value) (p : ByteArray × Int → Bool) (eg : EntersIt Try.prog g) (lo hi : Nat) (v : Value) (zs : List (ByteArray × Int)) (w : World) (h : RdG w lo hi v zs)
    (ht : Tests Try.prog g cb (fun x => .agg #[.string x.1, .int .i64 x.2]) p zs w) : Calls Try.prog 57 #[v, .func (.func g) #[] cb] w fun e w' => e = .returned (.int .i64 (idxF p zs)) ∧ New w w' := by
  have HR := Lib.hid h
  have EG := Lib.hid ht
  obtain ⟨A, c, rfl, hm, ha⟩ := rd_form h
  have HA := Lib.hid ha
  unfold EntersIt at eg
  clear ht ha h
  go_enter Try.func57, Try.ntmps57
  go_wp2
  go_loopw [5, 8] (fun _ i wr => ∃ k : Nat, k ≤ zs.length ∧ i = .int .i64 k ∧ Hid (∀ j (hj : j < zs.length), j < k → p zs[j] = false) ∧ New w wr) (fun _ i _ => zs.length - (intOf i).toNat)
  case atStart => exact ⟨0, Nat.zero_le _, rfl, Lib.hid (fun j _ hj => absurd hj (Nat.not_lt_zero _)), New.same _⟩
  case round =>
    obtain ⟨k, hk, rfl, HJ, hN⟩ := hrel
    by_cases hlt : k < zs.length
    · obtain ⟨b, off, hAe⟩ := HA.out (by omega)
      subst hAe
      have p0 : (0 : Int) ≤ (k : Int) := by omega
      have p1 : (k : Int) < (zs.length : Int) := by omega
      obtain ⟨⟨x0, x1⟩, bw⟩ := rd_gl HR.out hN rfl hlt
      have hcall := EG.out zs[k] wr (List.getElem_mem hlt) hN
      cases hp : p zs[k]
      · have HP := Lib.hid hp
        rw [hp] at hcall
        clear hp
        have HC := Lib.hid hcall
        clear hcall
        go_wp2_with (go_at_fn g; refine (HC.out).mono ?_; rintro e w1 ⟨rfl, n1⟩)
        go_roundw
        case rel =>
          refine ⟨k + 1, by omega, by go_num, Lib.hid (fun j hj hjk => ?_), hN.step n1⟩
          by_cases e : j = k
          · subst e; exact HP.out
          · exact HJ.out j hj (by omega)
        case measure => simp [intOf]; omega
      · have HP := Lib.hid hp
        rw [hp] at hcall
        clear hp
        have HC := Lib.hid hcall
        clear hcall
        go_wp2_with (go_at_fn g; refine (HC.out).mono ?_; rintro e w1 ⟨rfl, n1⟩)
        go_ret
        exact ⟨congrArg (fun q => Ending.returned (.int .i64 q)) (idxF_hit p zs k hlt HJ.out HP.out).symm, hN.step n1⟩
    · have hk' : k = zs.length := by omega
      subst hk'
      go_wp2
      go_ret
      exact ⟨congrArg (fun q => Ending.returned (.int .i64 q)) (idxF_miss p zs (fun j hj => HJ.out j hj hj)).symm, hN⟩

set_option maxHeartbeats 1000000 in
theorem c_indexFunc_Tile (g : FuncId) (cb : Array Value) (p : ByteArray × List Int → Bool) (eg : EntersIt Try.prog g) (lo hi : Nat) (v : Value) (zs : List (ByteArray × List Int)) (sv : List Value) (w : World) (h : RdT w lo hi v zs sv)
    (ht : TestsT Try.prog g cb p zs sv w) : Calls Try.prog 26 #[v, .func (.func g) #[] cb] w fun e w' => e = .returned (.int .i64 (idxF p zs)) ∧ New w w' := by
  have HR := Lib.hid h
  have EG := Lib.hid ht
  obtain ⟨A, c, rfl, hm, ha⟩ := rd_form h.outer
  have HA := Lib.hid ha
  unfold EntersIt at eg
  clear ht ha h
  go_enter Try.func26, Try.ntmps26
  go_wp2
  go_loopw [5, 8] (fun _ i wr => ∃ k : Nat, k ≤ zs.length ∧ i = .int .i64 k ∧ Hid (∀ j (hj : j < zs.length), j < k → p zs[j] = false) ∧ New w wr) (fun _ i _ => zs.length - (intOf i).toNat)
  case atStart => exact ⟨0, Nat.zero_le _, rfl, Lib.hid (fun j _ hj => absurd hj (Nat.not_lt_zero _)), New.same _⟩
  case round =>
    obtain ⟨k, hk, rfl, HJ, hN⟩ := hrel
    by_cases hlt : k < zs.length
    · obtain ⟨b, off, hAe⟩ := HA.out (by omega)
      subst hAe
      have p0 : (0 : Int) ≤ (k : Int) := by omega
      have p1 : (k : Int) < (zs.length : Int) := by omega
      obtain ⟨Ax, mx, ⟨x0, x1⟩, bw, rx, ex⟩ := rd_tl HR.out hN rfl hlt
      have hcall := EG.out k hlt _ wr ex hN
      clear rx ex
      cases hp : p zs[k]
      · have HP := Lib.hid hp
        rw [hp] at hcall
        clear hp
        have HC := Lib.hid hcall
        clear hcall
        go_wp2_with (go_at_fn g; refine (HC.out).mono ?_; rintro e w1 ⟨rfl, n1⟩)
        go_roundw
        case rel =>
          refine ⟨k + 1, by omega, by go_num, Lib.hid (fun j hj hjk => ?_), hN.step n1⟩
          by_cases e : j = k
          · subst e; exact HP.out
          · exact HJ.out j hj (by omega)
        case measure => simp [intOf]; omega
      · have HP := Lib.hid hp
        rw [hp] at hcall
        clear hp
        have HC := Lib.hid hcall
        clear hcall
        go_wp2_with (go_at_fn g; refine (HC.out).mono ?_; rintro e w1 ⟨rfl, n1⟩)
        go_ret
        exact ⟨congrArg (fun q => Ending.returned (.int .i64 q)) (idxF_hit p zs k hlt HJ.out HP.out).symm, hN.step n1⟩
    · have hk' : k = zs.length := by omega
      subst hk'
      go_wp2
      go_ret
      exact ⟨congrArg (fun q => Ending.returned (.int .i64 q)) (idxF_miss p zs (fun j hj => HJ.out j hj hj)).symm, hN⟩

set_option maxHeartbeats 400000 in
theorem c_containsFunc_Tile (g : FuncId) (cb : Array Value) (p : ByteArray × List Int → Bool) (eg : EntersIt Try.prog g) (lo hi : Nat) (v : Value) (zs : List (ByteArray × List Int)) (sv : List Value) (w : World) (h : RdT w lo hi v zs sv)
    (ht : TestsT Try.prog g cb p zs sv w) : Calls Try.prog 22 #[v, .func (.func g) #[] cb] w fun e w' => e = .returned (.bool (zs.any p)) ∧ New w w' := by
  rw [← idxF_any]
  have HT := Lib.hid ht
  have HR := Lib.hid h
  clear ht h
  go_enter Try.func22, Try.ntmps22
  go_wp2_with (go_at_call 26; refine (c_indexFunc_Tile g cb p eg lo hi v zs sv w HR.out HT.out).mono ?_; rintro e w1 ⟨rfl, n1⟩)
  go_ret
  exact ⟨rfl, n1⟩

theorem enters_glueNamed : EntersIt Try.prog 58 := enters_of Try.func58 (by kernel_rfl) rfl
set_option maxHeartbeats 1000000 in
theorem tests_glueNamed (b : Nat) (s : ByteArray) (G : List (ByteArray × Int)) (w : World) (hc : w.cell? ⟨b, 0, none⟩ = some (.string s)) (hb : b < w.heap.size) : Tests Try.prog 58 #[.pointer (some ⟨b, 0, none⟩)] (fun x => .agg #[.string x.1, .int .i64 x.2]) (nmP s) G w := by
  intro x W _ hN
  have hc' : W.cell? ⟨b, 0, none⟩ = some (.string s) := (hN.cell (p := ⟨b, 0, none⟩) hb).trans hc
  have hb' : b < W.heap.size := Nat.lt_of_lt_of_le hb hN.size
  show Calls _ _ #[.agg #[.string x.1, .int .i64 x.2], .pointer (some ⟨b, 0, none⟩)] W _
  by_cases he : x.1 = s
  · have g0 := sEq_yes he
    have E := Lib.hid (show nmP s x = true by simp [nmP, he])
    clear he
    go_enter Try.func58, Try.ntmps58
    go_wp2
    go_ret
    exact ⟨ret_bool E.out.symm, by go_grown⟩
  · have g0 := sEq_no he
    have E := Lib.hid (show nmP s x = false by simp [nmP, he])
    clear he
    go_enter Try.func58, Try.ntmps58
    go_wp2
    go_ret
    exact ⟨ret_bool E.out.symm, by go_grown⟩
set_option maxHeartbeats 1000000 in
theorem c_glueNamed (lo hi : Nat) (gv tv : Value) (G : List (ByteArray × Int)) (T : List (ByteArray × List Int)) (sv : List Value) (s : ByteArray) (w : World) (h : RdS w lo hi gv tv G T sv) (hn : G.length ≤ 1048576) :
    Calls Try.prog 48 #[.agg #[gv, tv], .string s] w fun e w' => e = .returned (.int .i64 (idxF (nmP s) G + 1)) ∧ New w w' := by
  obtain ⟨A, c, B, d, rfl, rfl⟩ := h.form
  have n0 : New w ((w.alloc (.cells #[.slice A G.length c, .slice B T.length d] 30)).alloc (.cells #[.string s] 9)) := ((New.same w).box _).box _
  have hc : ((w.alloc (.cells #[.slice A G.length c, .slice B T.length d] 30)).alloc (.cells #[.string s] 9)).cell? ⟨w.heap.size + 1, 0, none⟩ = some (.string s) := by go_simp
  have hb : w.heap.size + 1 < ((w.alloc (.cells #[.slice A G.length c, .slice B T.length d] 30)).alloc (.cells #[.string s] 9)).heap.size := by simp
  have bd := idxF_bd (nmP s) G
  have HH := Lib.hid (h.new n0)
  have HC := Lib.hid (c_indexFunc_Glue _ _ (nmP s) enters_glueNamed _ _ _ G _ HH.out.glues (tests_glueNamed (w.heap.size + 1) s G _ hc hb))
  have e1 : IntKind.i64.wrap (idxF (nmP s) G + 1) = idxF (nmP s) G + 1 := IntWalk.i64_in _ (by omega)
  clear hc hb h HH
  go_enter Try.func48, Try.ntmps48
  go_wp2_with (go_at_call 57; refine (HC.out).mono ?_; rintro e w1 ⟨rfl, n1⟩)
  go_ret
  exact ⟨rfl, n0.step n1⟩


def fgN (G : List (ByteArray × Int)) (T : List (ByteArray × List Int)) (s : ByteArray) : Int := if setB G T then idxF (nmP s) G + 1 else 0
def ftN (G : List (ByteArray × Int)) (T : List (ByteArray × List Int)) (s : ByteArray) : Int := if setB G T then idxF (nmP s) T else -1
theorem fg_no {G : List (ByteArray × Int)} {T : List (ByteArray × List Int)} {s : ByteArray} (h : setB G T = false) : fgN G T s = 0 := by simp [fgN, h]
theorem fg_yes {G : List (ByteArray × Int)} {T : List (ByteArray × List Int)} {s : ByteArray} (h : setB G T = true) : fgN G T s = idxF (nmP s) G + 1 := by simp [fgN, h]
theorem ft_no {G : List (ByteArray × Int)} {T : List (ByteArray × List Int)} {s : ByteArray} (h : setB G T = false) : ftN G T s = -1 := by simp [ftN, h]
theorem ft_yes {G : List (ByteArray × Int)} {T : List (ByteArray × List Int)} {s : ByteArray} (h : setB G T = true) : ftN G T s = idxF (nmP s) T := by simp [ftN, h]
def fgV (n : Int) : Value := .tuple #[.int .i64 n, .bool (decide (0 < n))]
def ftV (n : Int) : Value := .tuple #[.int .i64 (max n 0), .bool (decide (0 ≤ n))]





end Go.Proofs.Ytcbifdfcllaaaaa
