/- Contracts of the functions that write an assembly. -/
import Derived.Test.YtfnihmmkbnkmnaaDoorSetTx2
import Derived.Test.YtfnihmmkbnkmnaaDoorValid
import Derived.Test.YtfnihmmkbnkmnaaDoorPText
import Derived.Laws.BytesArg
namespace Go.Proofs.YtfnihmmkbnkmnaaDoor
open Go.RowKit Go.Deep
set_option linter.unusedVariables false
set_option linter.unusedSimpArgs false

/-- a placed tile's row -/
def plS (T : List (ByteArray × List Int)) (p : (Int × Int) × Int) : ByteArray := (T.getD p.2.toNat default).1 ++ ⟨#[32]⟩ ++ ptT p.1.1 p.1.2 ++ ⟨#[10]⟩
theorem plS_at {T : List (ByteArray × List Int)} {p : (Int × Int) × Int} {j : Nat} (hj : j < T.length) (e : p.2 = (j : Int)) : plS T p = T[j].1 ++ ⟨#[32]⟩ ++ ptT p.1.1 p.1.2 ++ ⟨#[10]⟩ := by
  have : p.2.toNat = j := by omega
  simp [plS, this, List.getD_eq_getElem?_getD, hj]
def aL (T : List (ByteArray × List Int)) (zs : List ((Int × Int) × Int)) (n : Nat) : List UInt8 := (zs.take n).flatMap fun p => bL (plS T p)
theorem aL_zero (T : List (ByteArray × List Int)) (zs : List ((Int × Int) × Int)) : aL T zs 0 = [] := rfl
theorem aL_succ {T : List (ByteArray × List Int)} {zs : List ((Int × Int) × Int)} {n : Nat} (h : n < zs.length) : aL T zs (n + 1) = aL T zs n ++ bL (plS T zs[n]) := by
  unfold aL
  rw [List.take_succ_eq_append_getElem h, List.flatMap_append]
  simp
/-- an assembly's text -/
def asmT (G : List (ByteArray × Int)) (T : List (ByteArray × List Int)) (zs : List ((Int × Int) × Int)) : ByteArray := if vaB G T zs then ⟨(aL T zs zs.length).toArray⟩ else ⟨#[]⟩
theorem ptT_size (x y : Int) (bx : -9223372036854775808 ≤ x ∧ x ≤ 9223372036854775807) (by_ : -9223372036854775808 ≤ y ∧ y ≤ 9223372036854775807) : (ptT x y).size ≤ 43 := by
  have h1 := decT_size x bx.1 bx.2
  have h2 := decT_size y by_.1 by_.2
  have a : (⟨#[44]⟩ : ByteArray).size = 1 := rfl
  have b : (⟨#[]⟩ : ByteArray).size = 0 := rfl
  unfold ptT
  split
  · rw [ByteArray.size_append, ByteArray.size_append, a]; omega
  · rw [b]; omega
/-- what a valid assembly keeps to -/
theorem asm_in {n : Nat} {zs : List ((Int × Int) × Int)} (h : asmOk n zs = true) : zs.length ≤ 500 ∧ ∀ k (hk : k < zs.length), 0 ≤ zs[k].2 ∧ zs[k].2 < n := by
  simp only [asmOk, Bool.and_eq_true, Bool.not_eq_true'] at h
  refine ⟨?_, fun k hk => ?_⟩
  · have := h.1
    simp only [frmB, Bool.and_eq_true, decide_eq_true_eq] at this
    exact this.1
  · have := List.any_eq_false.1 h.2 zs[k] (List.getElem_mem hk)
    simp only [noTl, Bool.not_eq_true', Bool.not_eq_false] at this
    have := inB_iff.1 this
    omega
theorem plS_size {T : List (ByteArray × List Int)} {p : (Int × Int) × Int} {j : Nat} (hj : j < T.length) (e : p.2 = (j : Int)) (hn : T[j].1.size ≤ 12) (hp : (ptT p.1.1 p.1.2).size ≤ 43) : (plS T p).size ≤ 57 := by
  have a2 : (⟨#[32]⟩ : ByteArray).size = 1 := rfl
  have a3 : (⟨#[10]⟩ : ByteArray).size = 1 := rfl
  rw [plS_at hj e]
  simp only [ByteArray.size_append, a2, a3]
  omega
theorem aL_len {T : List (ByteArray × List Int)} {zs : List ((Int × Int) × Int)} (h : ∀ k (hk : k < zs.length), (plS T zs[k]).size ≤ 57) (n : Nat) (hn : n ≤ zs.length) : (aL T zs n).length ≤ 57 * n := by
  induction n with
  | zero => simp [aL]
  | succ n ih =>
    rw [aL_succ (by omega), bL_len2]
    have := h n (by omega)
    have := ih (by omega)
    omega
def pB (p : (Int × Int) × Int) : Prop := (-9223372036854775808 ≤ p.1.1 ∧ p.1.1 ≤ 9223372036854775807) ∧ -9223372036854775808 ≤ p.1.2 ∧ p.1.2 ≤ 9223372036854775807
theorem plS_all {G : List (ByteArray × Int)} {T : List (ByteArray × List Int)} {zs : List ((Int × Int) × Int)} (hs : setB G T = true) (ha : asmOk T.length zs = true) (hb : ∀ z ∈ zs, pB z) : ∀ k (hk : k < zs.length), (plS T zs[k]).size ≤ 57 := by
  intro k hk
  have h1 := (asm_in ha).2 k hk
  have h2 := hb zs[k] (List.getElem_mem hk)
  obtain ⟨j, hj⟩ : ∃ j : Nat, zs[k].2 = (j : Int) := ⟨zs[k].2.toNat, by omega⟩
  have hjl : j < T.length := by omega
  exact plS_size hjl hj ((set_names hs).2 j hjl).2 (ptT_size _ _ h2.1 h2.2)
set_option maxRecDepth 20000 in
set_option maxHeartbeats 8000000 in
theorem c_l05Assembly (b0 b1 lo hi lo' hi' : Nat) (gv tv v : Value) (G : List (ByteArray × Int)) (T : List (ByteArray × List Int)) (sv : List Value) (zs : List ((Int × Int) × Int)) (w : World) (B0 : BoxV w b0 [gv, tv]) (B1 : BoxV w b1 [v]) (h : RdS w lo hi gv tv G T sv) (hz : Rd w lo' hi' 3 v zs.length (zs.flatMap plCells)) (hs : setB G T = true) (ha : asmOk T.length zs = true) (hb : ∀ z ∈ zs, pB z) :
    Calls Tryd.prog 41 #[.pointer (some ⟨b0, 0, none⟩), .pointer (some ⟨b1, 0, none⟩)] w fun e w' => e = .returned (.string ⟨(aL T zs zs.length).toArray⟩) ∧ New w w' := by
  obtain ⟨A, c, B, d0, rfl, rfl⟩ := h.form
  have HH := Lib.hid h
  have HZ := Lib.hid hz
  obtain ⟨A', c', e1, hm, hza⟩ := rd_form hz
  subst e1
  obtain ⟨B', d', e2, hm', hbb⟩ := rd_form h.tiles.outer
  obtain ⟨rfl, rfl⟩ : B = B' ∧ d0 = d' := by simpa using e2
  have ⟨i1, i2, i3, i4⟩ := set_in hs
  have ⟨z1, z2⟩ := asm_in ha
  have HZA := Lib.hid hza
  have HB := Lib.hid hbb
  have HT := Lib.hid (set_names hs).2
  have HI := Lib.hid z2
  have HPB := Lib.hid hb
  have HPS := Lib.hid (plS_all hs ha hb)
  have HAL := Lib.hid (fun n hn => aL_len (plS_all hs ha hb) n hn)
  clear e2 h hz hza hbb i4 z2 hb ha
  have ⟨⟨bx0, by0⟩, _, bl0⟩ := B0.at2
  have ⟨cx0, _, cl0⟩ := B1.at1
  go_enter Tryd.func41, Tryd.ntmps41
  go_wp2
  clear bx0 by0 bl0 cx0 cl0
  go_loopw [5, 6] (fun v i wr => ∃ k : Nat, k ≤ zs.length ∧ i = .int .i64 k ∧ wr.ownsRow w.heap.size 5 1 v (aL T zs k).length (Lib.byteCells (aL T zs k)) ∧ New w wr) (fun _ i _ => zs.length - (intOf i).toNat)
  case atStart => exact ⟨0, Nat.zero_le _, rfl, World.ownsRow_made w #[] 0 (Nat.le_refl _) (by omega) rfl, (New.same _).box _⟩
  case round =>
    obtain ⟨k, hk, rfl, hown, hN⟩ := hrel
    have ⟨⟨bx0, by0⟩, _, bl0⟩ := (B0.new hN).at2
    have ⟨cx0, _, cl0⟩ := (B1.new hN).at1
    have HOW := Lib.hid hown
    clear hown
    by_cases hlt : k < zs.length
    · obtain ⟨bz, oz, hAe⟩ := HZA.out (by omega)
      subst hAe
      obtain ⟨bt, ot, hBe⟩ := HB.out (by omega)
      subst hBe
      have p0 : (0 : Int) ≤ (k : Int) := by omega
      have p1 : (k : Int) < (zs.length : Int) := by omega
      obtain ⟨⟨x0, x1, x2⟩, bw⟩ := rd_pl HZ.out hN rfl hlt
      obtain ⟨t0, t1⟩ := HI.out k hlt
      obtain ⟨j, hj⟩ : ∃ j : Nat, zs[k].2 = (j : Int) := ⟨zs[k].2.toNat, by omega⟩
      have hjl : j < T.length := by omega
      have p2 : (0 : Int) ≤ (j : Int) := by omega
      have p3 : (j : Int) < (T.length : Int) := by omega
      obtain ⟨At, mt, ⟨y0, y1⟩, yw, _, _⟩ := rd_tl HH.out.tiles hN rfl hjl
      obtain ⟨bx, by_⟩ := HPB.out zs[k] (List.getElem_mem hlt)
      have q1 := (HT.out j hjl).2
      have q4 := ptT_size zs[k].1.1 zs[k].1.2 bx by_
      have a2 : (⟨#[32]⟩ : ByteArray).size = 1 := rfl
      have a3 : (⟨#[10]⟩ : ByteArray).size = 1 := rfl
      have s1 : ¬ (9223372036854775807 < T[j].1.size + (⟨#[32]⟩ : ByteArray).size) := by omega
      have s2 : ¬ (9223372036854775807 < (T[j].1 ++ ⟨#[32]⟩).size + (ptT zs[k].1.1 zs[k].1.2).size) := by rw [ByteArray.size_append]; omega
      have s3 : ¬ (9223372036854775807 < (T[j].1 ++ ⟨#[32]⟩ ++ ptT zs[k].1.1 zs[k].1.2).size + (⟨#[10]⟩ : ByteArray).size) := by rw [ByteArray.size_append, ByteArray.size_append]; omega
      have C1 := Lib.hid (fun (w : World) => c_specPointText zs[k].1.1 zs[k].1.2 w bx by_)
      have S := Lib.hid (show aL T zs (k + 1) = aL T zs k ++ bL (T[j].1 ++ ⟨#[32]⟩ ++ ptT zs[k].1.1 zs[k].1.2 ++ ⟨#[10]⟩) by rw [aL_succ hlt, plS_at hjl hj])
      have SZ := Lib.hid (show (aL T zs k).length + (T[j].1 ++ ⟨#[32]⟩ ++ ptT zs[k].1.1 zs[k].1.2 ++ ⟨#[10]⟩).size ≤ 28557 by rw [← plS_at hjl hj]; have := HPS.out k hlt; have := HAL.out k hk; omega)
      rw [hj] at x2
      clear bx by_ t0 t1 hj
      go_upto_region 5 with fail
      have l1 := Later.cell by0 bl0
      have l2 := Later.cell cx0 cl0
      have l3 := Later.cell x0 bw
      have l4 := Later.cell x1 bw
      have l5 := Later.cell x2 bw
      have l6 := Later.cell y0 yw
      refine wp_region_later_tail [0, 1, 2, 3, 4, 5, 6, 7, 8, 9, 10, 11, 12, 13, 14, 15, 16, 17, 18, 19, 20, 21, 22, 23, 24, 25, 26, 27] 28 [29] (by kernel_rfl) (by decide +kernel) ?_
      simp only [pickO, List.getElem?_cons_zero, List.getElem?_cons_succ]
      (repeat (go_big_quiet_step (first | (go_at_call 78; with_reducible exact later_of (C1.out _)))))
      refine wpQuiet_nil ?_
      intro wq hw'
      obtain ⟨⟨wz, nq⟩, hwz⟩ := hw'
      have hwz' : wq = wz := hwz
      subst hwz'
      clear hwz l1 l2 l3 l4 l5 l6 x0 x1 x2 bw bx0 by0 bl0 cx0 cl0 y0 y1 yw s1 s2 s3
      have HO2 := Lib.hid (ownsRow_new HOW.out nq)
      have hz2 := (hN.step nq).size
      go_wp2_with (at_builtin; refine wpList_appS rfl _ _ rfl _ w.heap.size HO2.out rfl (T[j].1 ++ ⟨#[32]⟩ ++ ptT zs[k].1.1 zs[k].1.2 ++ ⟨#[10]⟩) rfl (by have := SZ.out; omega) hz2 _ S.out ?_; intro v1 w6 hown1 hb6)
      go_roundw
      case rel => exact ⟨k + 1, by omega, by go_num, hown1, (hN.step nq).trans hb6⟩
      case measure => simp [intOf]; omega
    · have hk' : k = zs.length := by omega
      subst hk'
      rcases Nat.eq_zero_or_pos (aL T zs zs.length).length with h0 | hpos
      · have el : aL T zs zs.length = [] := List.eq_nil_of_length_eq_zero h0
        have HE := Lib.hid el
        rw [el] at HOW
        clear h0 el
        rcases HOW.out.2 with ⟨rfl, _⟩ | ⟨g, cc, cur, rfl, _⟩
        · have hcv : (convert 81 9 (.slice none 0 0)).run Tryd.prog wr = .ok (.string ⟨([] : List UInt8).toArray⟩) wr := run_convert_bytes_nil (P := Tryd.prog) (w := wr) 81 5 Tryd.underlying81 Tryd.underlying5 0 0 9 Tryd.underlying9
          go_wp2
          go_ret
          rw [HE.out]
          exact ⟨rfl, hN⟩
        · have hcv : (convert 81 9 (.slice (some ⟨g, 0, none⟩) 0 cc)).run Tryd.prog wr = .ok (.string ⟨([] : List UInt8).toArray⟩) wr := run_convert_bytes_back (P := Tryd.prog) wr 81 9 5 ⟨g, 0, none⟩ cc [] Tryd.underlying81 Tryd.underlying5 Tryd.underlying9 (fun j hj => absurd hj (Nat.not_lt_zero _))
          go_wp2
          go_ret
          rw [HE.out]
          exact ⟨rfl, hN⟩
      · obtain ⟨g, cc, rfl, _, _⟩ := HOW.out.form hpos
        have hcv := run_convert_bytes_back (P := Tryd.prog) wr 81 9 5 ⟨g, 0, none⟩ cc (aL T zs zs.length) Tryd.underlying81 Tryd.underlying5 Tryd.underlying9 (own_bytes HOW.out)
        clear hpos
        go_wp2
        go_ret
        exact ⟨rfl, hN⟩
end Go.Proofs.YtfnihmmkbnkmnaaDoor
