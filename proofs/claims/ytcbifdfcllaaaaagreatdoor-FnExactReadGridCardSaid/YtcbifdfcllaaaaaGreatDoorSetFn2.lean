/- Contracts of the functions on sets: look-ups by name, strengths, bonds. -/
import Derived.Test.YtcbifdfcllaaaaaGreatDoorSetOk2
namespace Go.Proofs.YtcbifdfcllaaaaaGreatDoor
open Go.RowKit Go.Deep
set_option linter.unusedVariables false
set_option linter.unusedSimpArgs false


/-- In whatever world has come of w by growth alone the function value answers p of each tile. -/
def TestsT (P : Program) (g : FuncId) (cb : Array Value) (p : ByteArray × List Int → Bool) (T : List (ByteArray × List Int)) (sv : List Value) (w : World) : Prop :=
  ∀ k (hk : k < T.length) (u : Value) (W : World), sv[k]? = some u → New w W → Calls P g (#[.agg #[.string T[k].1, u]] ++ cb) W fun e w' => e = .returned (.bool (p T[k])) ∧ New W w'






def fgN (G : List (ByteArray × Int)) (T : List (ByteArray × List Int)) (s : ByteArray) : Int := if setB G T then idxF (nmP s) G + 1 else 0
def ftN (G : List (ByteArray × Int)) (T : List (ByteArray × List Int)) (s : ByteArray) : Int := if setB G T then idxF (nmP s) T else -1
theorem fg_no {G : List (ByteArray × Int)} {T : List (ByteArray × List Int)} {s : ByteArray} (h : setB G T = false) : fgN G T s = 0 := by simp [fgN, h]
theorem fg_yes {G : List (ByteArray × Int)} {T : List (ByteArray × List Int)} {s : ByteArray} (h : setB G T = true) : fgN G T s = idxF (nmP s) G + 1 := by simp [fgN, h]
theorem ft_no {G : List (ByteArray × Int)} {T : List (ByteArray × List Int)} {s : ByteArray} (h : setB G T = false) : ftN G T s = -1 := by simp [ftN, h]
theorem ft_yes {G : List (ByteArray × Int)} {T : List (ByteArray × List Int)} {s : ByteArray} (h : setB G T = true) : ftN G T s = idxF (nmP s) T := by simp [ftN, h]
def fgV (n : Int) : Value := .tuple #[.int .i64 n, .bool (decide (0 < n))]
def ftV (n : Int) : Value := .tuple #[.int .i64 (max n 0), .bool (decide (0 ≤ n))]





end Go.Proofs.YtcbifdfcllaaaaaGreatDoor

/- Contracts of the functions on sets: strengths and bonds. -/
namespace Go.Proofs.YtcbifdfcllaaaaaGreatDoor
open Go.RowKit Go.Deep
set_option linter.unusedVariables false
set_option linter.unusedSimpArgs false

/-- a side of a tile that is read -/
theorem rd_side {w wr : World} {lo hi : Nat} {v : Value} {T : List (ByteArray × List Int)} {sv : List Value} (h : RdT w lo hi v T sv) (n : New w wr) {b off c : Nat} (hv : v = .slice (some ⟨b, off, none⟩) T.length c) {k : Nat} (hk : k < T.length) {d : Nat} (hd : d < T[k].2.length) :
    ∃ bs os m, (wr.cell? ⟨b, off + k * 2 + 1, none⟩ = some (.slice (some ⟨bs, os, none⟩) T[k].2.length m) ∧ b < wr.heap.size) ∧ wr.cell? ⟨bs, os + d, none⟩ = some (.int .i64 T[k].2[d]) ∧ bs < wr.heap.size := by
  obtain ⟨A, m, ⟨_, x1⟩, hb, rx, _⟩ := rd_tl h n hv hk
  obtain ⟨_, _, e, _, hs⟩ := rd_form rx
  obtain ⟨bs, os, hA⟩ := hs (by omega)
  have hA' : A = some ⟨bs, os, none⟩ := by cases e; exact hA
  subst hA'
  obtain ⟨y0, yl⟩ := rd_i rx (New.same _) rfl hd
  exact ⟨bs, os, m, ⟨x1, hb⟩, y0, yl⟩
/-- the strength of a glue by its number -/
def stV (G : List (ByteArray × Int)) (g : Int) : Int := if g = 0 then 0 else (G.getD (g - 1).toNat default).2
def opN (d : Nat) : Nat := (d + 2) % 4
def sdV (T : List (ByteArray × List Int)) (t d : Nat) : Int := (T.getD t default).2.getD d 0
theorem sdV_at {T : List (ByteArray × List Int)} {t d : Nat} (ht : t < T.length) (hd : d < T[t].2.length) : sdV T t d = T[t].2[d] := by
  simp [sdV, List.getD_eq_getElem?_getD, ht, hd]
theorem stV_suc {G : List (ByteArray × Int)} {j : Nat} (hj : j < G.length) {g : Int} (e : g = (j : Int) + 1) : stV G g = G[j].2 := by
  subst e
  have : ((j : Int) + 1 - 1).toNat = j := by omega
  simp [stV, List.getD_eq_getElem?_getD, hj, this]
  omega
def bdV (G : List (ByteArray × Int)) (T : List (ByteArray × List Int)) (a d b : Nat) : Int := if sdV T a d = sdV T b (opN d) then stV G (sdV T a d) else 0


set_option maxHeartbeats 1000000 in
theorem c_l02Index (b0 : Nat) (gv : Value) (A : Option Addr) (n c : Nat) (i : Int) (w : World) (B0 : BoxV w b0 [gv, .slice A n c]) (hn : n ≤ 9223372036854775807) :
    Calls Tryz.prog 41 #[.pointer (some ⟨b0, 0, none⟩), .int .i64 i] w fun e w' => e = .returned (.bool (inB i 0 ((n : Int) - 1))) ∧ w = w' := by
  have ⟨⟨bx0, by0⟩, _, bl0⟩ := B0.at2
  have e1 : IntKind.i64.wrap ((n : Int) - 1) = (n : Int) - 1 := IntWalk.i64_in _ (by omega)
  go_enter Tryz.func41, Tryz.ntmps41
  go_wp2_with (go_at_call 36; refine (c_l00In _ _ _ _).mono ?_; rintro e w' ⟨rfl, rfl⟩)
  go_ret
  exact ⟨rfl, rfl⟩
set_option maxHeartbeats 1000000 in
theorem c_isTile (gv : Value) (A : Option Addr) (n c : Nat) (i : Int) (w : World) (hn : n ≤ 9223372036854775807) (hgv : gv.oneCell' = true) :
    Calls Tryz.prog 51 #[.agg #[gv, .slice A n c], .int .i64 i] w fun e w' => e = .returned (.bool (inB i 0 ((n : Int) - 1))) ∧ New w w' := by
  go_enter Tryz.func51, Tryz.ntmps51
  go_wp2_with (go_at_call 78; refine (c_isIndex _ _ _ (by omega) (by omega)).mono ?_; rintro e w' ⟨rfl, rfl⟩)
  go_ret
  exact ⟨rfl, by go_grown⟩


/-- a number and a code -/
def ncV (q : Int × Int) : Value := .tuple #[.int .i64 q.1, .int .i64 q.2]
def soV (G : List (ByteArray × Int)) (T : List (ByteArray × List Int)) (t d : Int) : Int × Int := if setB G T then (if inB t 0 ((T.length : Int) - 1) && inB d 0 3 then (stV G (sdV T t.toNat d.toNat), 0) else (0, 2)) else (0, 1)
def boV (G : List (ByteArray × Int)) (T : List (ByteArray × List Int)) (a d b : Int) : Int × Int := if setB G T then (if inB a 0 ((T.length : Int) - 1) && (inB b 0 ((T.length : Int) - 1) && inB d 0 3) then (bdV G T a.toNat d.toNat b.toNat, 0) else (0, 2)) else (0, 1)





end Go.Proofs.YtcbifdfcllaaaaaGreatDoor
