/- Contracts of the functions on sets: look-ups by name, strengths, bonds. -/
import Derived.Test.YtfnihmmkbnkmnaaDoorSetOk2
namespace Go.Proofs.YtfnihmmkbnkmnaaDoor
open Go.RowKit Go.Deep
set_option linter.unusedVariables false
set_option linter.unusedSimpArgs false


/-- In whatever world has come of w by growth alone the function value answers p of each tile. -/
def TestsT (P : Program) (g : FuncId) (cb : Array Value) (p : ByteArray × List Int → Bool) (T : List (ByteArray × List Int)) (sv : List Value) (w : World) : Prop :=
  ∀ k (hk : k < T.length) (u : Value) (W : World), sv[k]? = some u → New w W → Calls P g (#[.agg #[.string T[k].1, u]] ++ cb) W fun e w' => e = .returned (.bool (p T[k])) ∧ New W w'






def fgN (G : List (ByteArray × Int)) (T : List (ByteArray × List Int)) (s : ByteArray) : Int := if setB G T then idxF (nmP s) G + 1 else 0
def ftN (G : List (ByteArray × Int)) (T : List (ByteArray × List Int)) (s : ByteArray) : Int := if setB G T then idxF (nmP s) T else -1
theorem fg_no {G : List (ByteArray × Int)} {T : List (ByteArray × List Int)} {s : ByteArray} (h : setB G T = false) : fgN G T s = 0 := by simp [fgN, h]
theorem fg_yes {G : List (ByteArray × Int)} {T : List (ByteArray × List Int)} {s : ByteArray} (h : setB G T = true) : fgN G T s = idxF (nmP s) G + 1 := by simp [fgN, h]
theorem ft_no {G : List (ByteArray × Int)} {T : List (ByteArray × List Int)} {s : ByteArray} (h : setB G T = false) : ftN G T s = -1 := by simp [ftN, h]
theorem ft_yes {G : List (ByteArray × Int)} {T : List (ByteArray × List Int)} {s : ByteArray} (h : setB G T = true) : ftN G T s = idxF (nmP s) T := by simp [ftN, h]
def fgV (n : Int) : Value := .tuple #[.int .i64 n, .bool (decide (0 < n))]
def ftV (n : Int) : Value := .tuple #[.int .i64 (max n 0), .bool (decide (0 ≤ n))]
theorem c_l00Max_ (a b : Int) (w : World) : Calls Tryd.prog 87 #[.int .i64 a, .int .i64 b] w fun e w' => e = .returned (.int .i64 (max a b)) ∧ w = w' := by
  by_cases h : b < a
  · have E := Lib.hid (show max a b = a by omega)
    go_enter Tryd.func87, Tryd.ntmps87
    go_wp2
    go_ret
    exact ⟨ret_int E.out.symm, rfl⟩
  · have E := Lib.hid (show max a b = b by omega)
    go_enter Tryd.func87, Tryd.ntmps87
    go_wp2
    go_ret
    exact ⟨ret_int E.out.symm, rfl⟩





end Go.Proofs.YtfnihmmkbnkmnaaDoor
