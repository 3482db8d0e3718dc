/- Contracts of the functions on sets: strengths and bonds. -/
import Derived.Test.YtcbifdfcllaaaaaSetFn
namespace Go.Proofs.Ytcbifdfcllaaaaa
open Go.RowKit Go.Deep
set_option linter.unusedVariables false
set_option linter.unusedSimpArgs false

/-- a side of a tile that is read -/
theorem rd_side {w wr : World} {lo hi : Nat} {v : Value} {T : List (ByteArray × List Int)} {sv : List Value} (h : RdT w lo hi v T sv) (n : New w wr) {b off c : Nat} (hv : v = .slice (some ⟨b, off, none⟩) T.length c) {k : Nat} (hk : k < T.length) {d : Nat} (hd : d < T[k].2.length) :
    ∃ bs os m, (wr.cell? ⟨b, off + k * 2 + 1, none⟩ = some (.slice (some ⟨bs, os, none⟩) T[k].2.length m) ∧ b < wr.heap.size) ∧ wr.cell? ⟨bs, os + d, none⟩ = some (.int .i64 T[k].2[d]) ∧ bs < wr.heap.size := by
  obtain ⟨A, m, ⟨_, x1⟩, hb, rx, _⟩ := rd_tl h n hv hk
  obtain ⟨_, _, e, _, hs⟩ := rd_form rx
  obtain ⟨bs, os, hA⟩ := hs (by omega)
  have hA' : A = some ⟨bs, os, none⟩ := by cases e; exact hA
  subst hA'
  obtain ⟨y0, yl⟩ := rd_i rx (New.same _) rfl hd
  exact ⟨bs, os, m, ⟨x1, hb⟩, y0, yl⟩
/-- the strength of a glue by its number -/
def stV (G : List (ByteArray × Int)) (g : Int) : Int := if g = 0 then 0 else (G.getD (g - 1).toNat default).2
def opN (d : Nat) : Nat := (d + 2) % 4
def sdV (T : List (ByteArray × List Int)) (t d : Nat) : Int := (T.getD t default).2.getD d 0
theorem sdV_at {T : List (ByteArray × List Int)} {t d : Nat} (ht : t < T.length) (hd : d < T[t].2.length) : sdV T t d = T[t].2[d] := by
  simp [sdV, List.getD_eq_getElem?_getD, ht, hd]
theorem stV_suc {G : List (ByteArray × Int)} {j : Nat} (hj : j < G.length) {g : Int} (e : g = (j : Int) + 1) : stV G g = G[j].2 := by
  subst e
  have : ((j : Int) + 1 - 1).toNat = j := by omega
  simp [stV, List.getD_eq_getElem?_getD, hj, this]
  omega
def bdV (G : List (ByteArray × Int)) (T : List (ByteArray × List Int)) (a d b : Nat) : Int := if sdV T a d = sdV T b (opN d) then stV G (sdV T a d) else 0




/-- a number and a code -/
def ncV (q : Int × Int) : Value := .tuple #[.int .i64 q.1, .int .i64 q.2]
def soV (G : List (ByteArray × Int)) (T : List (ByteArray × List Int)) (t d : Int) : Int × Int := if setB G T then (if inB t 0 ((T.length : Int) - 1) && inB d 0 3 then (stV G (sdV T t.toNat d.toNat), 0) else (0, 2)) else (0, 1)
def boV (G : List (ByteArray × Int)) (T : List (ByteArray × List Int)) (a d b : Int) : Int × Int := if setB G T then (if inB a 0 ((T.length : Int) - 1) && (inB b 0 ((T.length : Int) - 1) && inB d 0 3) then (bdV G T a.toNat d.toNat b.toNat, 0) else (0, 2)) else (0, 1)





end Go.Proofs.Ytcbifdfcllaaaaa
