/- The contract of the reference's row of a grid. -/
import Derived.Test.YtcbifdfcllaaaaaGreatDoorSortPl
import Derived.Test.YtcbifdfcllaaaaaGreatDoorLate1
import Derived.Test.YtcbifdfcllaaaaaGreatDoorReadI
import Derived.Test.YtcbifdfcllaaaaaGreatDoorSetFn2
import Derived.Test.YtcbifdfcllaaaaaGreatDoorLines
import Derived.Test.YtcbifdfcllaaaaaGreatDoorWordsI
import Derived.Test.YtcbifdfcllaaaaaGreatDoorSetOk2
namespace Go.Proofs.YtcbifdfcllaaaaaGreatDoor
open Go.RowKit Go.Deep
set_option linter.unusedVariables false
set_option linter.unusedSimpArgs false

/-- of the blocks below base only ba may have turned -/
structure FrB (ba base : Nat) (w w' : World) : Prop where
  os : w'.os = w.os
  tape : w'.tape = w.tape
  output : w'.output = w.output
  size : w.heap.size ≤ w'.heap.size
  block : ∀ k, k < base → k ≠ ba → w'.heap[k]? = w.heap[k]?
section
variable {ba base : Nat} {a b c : World}
theorem FrB.refl (ba base : Nat) (w : World) : FrB ba base w w := ⟨rfl, rfl, rfl, Nat.le_refl _, fun _ _ _ => rfl⟩
theorem FrB.trans (h : FrB ba base a b) (k : FrB ba base b c) : FrB ba base a c := ⟨k.os.trans h.os, k.tape.trans h.tape, k.output.trans h.output, Nat.le_trans h.size k.size, fun i hi hn => (k.block i hi hn).trans (h.block i hi hn)⟩
theorem FrB.new (h : New a b) (hb : base ≤ a.heap.size) : FrB ba base a b := ⟨h.os, h.tape, h.output, h.size, fun k hk _ => h.block k (by omega)⟩
theorem FrB.low (h : Below base a b) : FrB ba base a b := ⟨h.os, h.tape, h.output, h.size, fun k hk _ => h.block k hk⟩
theorem FrB.set (h : FrB ba base a b) (o : Nat) (v : Value) : FrB ba base a (b.setCell ⟨ba, o, none⟩ v) := h.trans ⟨rfl, rfl, rfl, by simp [World.setCell], fun k _ hn => Below.heap_setCell _ _ _ _ hn⟩
theorem FrB.below (h : FrB ba base a b) (hb : ba ≤ base) : Below ba a b := ⟨h.os, h.tape, h.output, h.size, fun k hk => h.block k (by omega) (by omega)⟩
theorem FrB.box {b0 : Nat} {cs : List Value} (h : FrB ba base a b) (B : BoxV a b0 cs) (h1 : b0 < base) (h2 : b0 ≠ ba) : BoxV b b0 cs :=
  ⟨fun j u hj => (World.cell?_of_block (a := ⟨b0, j, none⟩) (h.block b0 h1 h2)).trans (B.cell j u hj), fun j hj => (World.frozen?_of_block (a := ⟨b0, j, none⟩) (h.block b0 h1 h2)).trans (B.free j hj), Nat.lt_of_lt_of_le B.lt h.size⟩
theorem FrB.rd {lo hi size n : Nat} {v : Value} {xs : List Value} (h : FrB ba base a b) (r : Rd a lo hi size v n xs) (h1 : hi ≤ base) (h2 : ba < lo ∨ hi ≤ ba) : Rd b lo hi size v n xs :=
  r.keep h.size fun p hl hp => World.cell?_of_block (h.block p.block (by omega) (by omega))
end
/-- what is read lies beside a row that grows -/
theorem rd_grown {w w' : World} {lo hi size n : Nat} {v u : Value} {xs : List Value} (r : Rd w lo hi size v n xs) (hg : w.grownBy w' u.ownBlock) (hu : ∀ g, u.ownBlock = some g → g < lo ∨ hi ≤ g) : Rd w' lo hi size v n xs :=
  r.keep hg.size fun p hl hp => World.cell?_of_block (hg.block p.block (Nat.lt_of_lt_of_le hp r.hi_le) (fun e => by have := hu _ e.symm; omega))
theorem rd_set {w : World} {lo hi size n : Nat} {v : Value} {xs : List Value} (r : Rd w lo hi size v n xs) (p : Addr) (u : Value) (hp : p.block < lo ∨ hi ≤ p.block) : Rd (w.setCell p u) lo hi size v n xs :=
  r.keep (by simp [World.setCell]) fun q hl hq => World.cell?_of_block (Below.heap_setCell _ _ _ _ (by omega))

/-- the words of a line are no longer than the line -/
theorem wds_size (s : ByteArray) : ∀ (n f k : Nat), s.size + 1 - k ≤ n → ∀ t ∈ wds s f k, t.size ≤ s.size := by
  intro n
  induction n with
  | zero =>
    intro f k hk t ht
    rw [wds_end (by omega)] at ht
    simp at ht
  | succ n ih =>
    intro f k hk t ht
    by_cases hle : k ≤ s.size
    · by_cases hb : bAt s k = 32
      · by_cases hf : f < k
        · rw [wds_word hle hb hf] at ht
          rcases List.mem_cons.1 ht with rfl | ht
          · rw [ByteArray.size_extract]; omega
          · exact ih _ _ (by omega) t ht
        · rw [wds_skip hle hb hf] at ht
          exact ih _ _ (by omega) t ht
      · rw [wds_more hle hb] at ht
        exact ih _ _ (by omega) t ht
    · rw [wds_end (by omega)] at ht
      simp at ht
theorem own_sl3 {w : World} {base C n : Nat} {e : TypeId} {v : Value} {xs : List Value} (h : w.ownsRow base e C v n xs) : ∃ A c, v = .slice A n c := by
  rcases h.2 with ⟨rfl, rfl⟩ | ⟨g, c, cur, rfl, _⟩
  · exact ⟨_, _, rfl⟩
  · exact ⟨_, _, rfl⟩
theorem dot_list : dotS.toList = [46] := by first | (unfold dotS; simp; done) | (unfold dotS; rfl) | decide +kernel
theorem dot_yes {s : ByteArray} (h : s = dotS) : (s.toList == [46]) = true := by rw [h, dot_list]; rfl
theorem dot_no {s : ByteArray} (h : s ≠ dotS) : (s.toList == [46]) = false := by
  have := sEq_no h
  rwa [dot_list] at this
theorem wdBad_dot {m x : Nat} {y : Int} {s : ByteArray} (h : s = dotS) : wdBad m y x s = !vpB x y := by simp [wdBad, h]
theorem wdBad_no {m x : Nat} {y n : Int} {b : Bool} {s : ByteArray} (h : s ≠ dotS) (hr : rdN s = (n, b)) : wdBad m y x s = (!(b && inB n 0 ((m : Int) - 1)) || !vpB x y) := by simp [wdBad, wdOk, h, hr]
theorem pl_snoc (zs : List Pl3) (p : Pl3) : (zs ++ [p]).flatMap plCells = zs.flatMap plCells ++ [.int .i64 p.1.1, .int .i64 p.1.2, .int .i64 p.2] := by
  rw [List.flatMap_append]; simp [plCells]

theorem BoxV.put1 {w : World} {b : Nat} {x : Value} (h : BoxV w b [x]) (u : Value) : BoxV (w.setCell ⟨b, 0, none⟩ u) b [u] := by
  obtain ⟨c, f, z⟩ := h.at1
  exact .one (by simp [go_sem, *]) (by simp [go_sem, *]) (by simp [go_sem, *])
/-- what the reference's row leaves -/
def RowsTo (ba base : Nat) (w : World) (acc0 : List Pl3) (R : List Pl3 × Int) (E : Ending) (w' : World) : Prop :=
  E = .returned (.int .i64 R.2) ∧ ∃ u', BoxV w' ba [u'] ∧ w'.ownsRow base 85 3 u' (acc0 ++ R.1).length ((acc0 ++ R.1).flatMap plCells) ∧ FrB ba base w w'

set_option maxRecDepth 20000 in
set_option maxHeartbeats 8000000 in
theorem c_l05Row (b0 ba lo' hi' base : Nat) (gv wv u : Value) (B : Option Addr) (m d : Nat) (ws : List ByteArray) (y : Int) (acc0 : List Pl3) (w : World) (B0 : BoxV w b0 [gv, .slice B m d]) (A0 : BoxV w ba [u]) (hm : m ≤ 9223372036854775807)
    (hb0 : b0 < base) (hne : b0 ≠ ba) (hba : ba < base) (hbase : base ≤ w.heap.size) (hw : Rd w lo' hi' 1 wv ws.length (ws.map Value.string)) (hsz : ∀ s ∈ ws, s.size ≤ 1048576) (hlen : ws.length ≤ 1048577)
    (hu : w.ownsRow base 85 3 u acc0.length (acc0.flatMap plCells)) (hua : ∀ g, u.ownBlock = some g → g < lo' ∨ hi' ≤ g) (hlo : base ≤ lo') (h500 : acc0.length ≤ 500) :
    Calls Tryz.prog 17 #[.pointer (some ⟨b0, 0, none⟩), .pointer (some ⟨ba, 0, none⟩), wv, .int .i64 y] w (RowsTo ba base w acc0 (rowG m y acc0.length 0 ws [])) := by
  obtain ⟨R, hR⟩ : ∃ R, rowG m y acc0.length 0 ws [] = R := ⟨_, rfl⟩
  rw [hR]
  obtain ⟨A, c, rfl, hmw, ha⟩ := rd_form hw
  have HA := Lib.hid ha
  have HW0 := Lib.hid hw
  have HSZ := Lib.hid hsz
  have HU0 := Lib.hid (show w.ownsRow base 85 3 u (acc0 ++ []).length ((acc0 ++ []).flatMap plCells) by simpa using hu)
  have HUA := Lib.hid hua
  have HE0 : Hid (rowG m y acc0.length 0 (ws.drop 0) [] = R) := Lib.hid (by simpa using hR)
  clear ha hw hsz hu hua hR
  go_enter Tryz.func17, Tryz.ntmps17
  go_wp2
  go_loopw [9] (fun i wr => ∃ (x : Nat) (acc : List Pl3) (u : Value), x ≤ ws.length ∧ i = .int .i64 x ∧ Hid (rowG m y acc0.length x (ws.drop x) acc = R) ∧ acc0.length + acc.length ≤ 500 ∧ BoxV wr ba [u] ∧ Hid (wr.ownsRow base 85 3 u (acc0 ++ acc).length ((acc0 ++ acc).flatMap plCells)) ∧ Hid (∀ g, u.ownBlock = some g → g < lo' ∨ hi' ≤ g) ∧ Hid (Rd wr lo' hi' 1 (.slice A ws.length c) ws.length (ws.map Value.string)) ∧ FrB ba base w wr) (fun i _ => ws.length - (intOf i).toNat)
  case atStart => exact ⟨0, [], u, Nat.zero_le _, rfl, HE0, by simpa using h500, A0, HU0, HUA, HW0, FrB.refl _ _ _⟩
  case round =>
    clear HE0 A0 HU0 HUA HW0
    obtain ⟨x, acc, u, hx, rfl, HE, hl5, A1, HU, HUA, HW, hF⟩ := hrel
    obtain ⟨ac, hac⟩ : ∃ ac, acc0 ++ acc = ac := ⟨_, rfl⟩
    rw [hac] at HU
    have HAC := Lib.hid hac
    clear hac
    by_cases hlt : x < ws.length
    · obtain ⟨b, off, hAe⟩ := HA.out (by omega)
      subst hAe
      have p0 : (0 : Int) ≤ (x : Int) := by omega
      have p1 : (x : Int) < (ws.length : Int) := by omega
      obtain ⟨x0, xl⟩ := rd_cell HW.out (New.same wr) rfl (by omega) (show (ws.map Value.string)[x]? = some (.string ws[x]) by simp [hlt])
      have CR := Lib.hid (c_specReadDecimal ws[x] wr (HSZ.out _ (List.getElem_mem hlt)))
      have hbr : base ≤ wr.heap.size := Nat.le_trans hbase hF.size
      go_upto_region 5 with (go_at_call 40; refine (CR.out).mono ?_; rintro e w2 ⟨n, bb, rfl, hRd, n2⟩)
      have hrd := rdN_of hRd
      have HRD := Lib.hid hrd
      have n3 : New wr (w2.alloc (.cells #[.int .i64 x, .int .i64 y] 81)) := n2.box _
      have P3 : BoxV (w2.alloc (.cells #[.int .i64 x, .int .i64 y] 81)) w2.heap.size [.int .i64 x, .int .i64 y] := .two (by go_simp) (by go_simp) (by go_simp) (by go_simp) (by simp)
      have x3 := (n3.cell (p := ⟨b, off + x, none⟩) xl).trans x0
      have xl3 := Nat.lt_of_lt_of_le xl n3.size
      have hF3 := hF.trans (FrB.new n3 hbr)
      have A3 := A1.new n3
      have HU3 := Lib.hid (ownsRow_new HU.out n3)
      have HW3 := Lib.hid (HW.out.new n3)
      have B3 := hF3.box B0 hb0 hne
      have hg3 : wr.heap.size ≤ w2.heap.size := n2.size
      clear CR hRd x0 xl A1 HU HW hF hrd
      go_upto_region 6 with fail
      generalize hW3 : (w2.alloc (.cells #[.int .i64 x, .int .i64 y] 81)) = W3 at *
      have hz3 : w2.heap.size < W3.heap.size := by rw [← hW3]; simp
      clear hW3
      have CP := fun w => c_l01Point (x : Int) y w
      by_cases hd : ws[x] = dotS
      · have g0 := dot_yes hd
        have HD := Lib.hid hd
        clear hd
        have ⟨⟨q0, q1⟩, _, ql⟩ := P3.at2
        cases hv : vpB x y
        · have hR : Hid (R = (acc, 6)) := Lib.hid (by rw [← HE.out]; exact rowG_bad hlt (by rw [wdBad_dot HD.out, hv]; rfl))
          simp only [hv] at CP
          have HP := Lib.hid CP
          clear CP hv
          go_wp2_with (go_at_call 42; refine (HP.out _).mono ?_; rintro e w5 ⟨rfl, n5⟩)
          go_ret
          rw [hR.out]
          exact ⟨rfl, u, A3.new n5, by have h := ownsRow_new HU3.out n5; rw [← HAC.out] at h; exact h, hF3.trans (FrB.new n5 (Nat.le_trans hbr n3.size))⟩
        · have hR : Hid (rowG m y acc0.length (x + 1) (ws.drop (x + 1)) acc = R) := Lib.hid (by rw [← HE.out]; exact (rowG_dot hlt (by rw [wdBad_dot HD.out, hv]; rfl) HD.out).symm)
          simp only [hv] at CP
          have HP := Lib.hid CP
          clear CP hv
          go_wp2_with (go_at_call 42; refine (HP.out _).mono ?_; rintro e w5 ⟨rfl, n5⟩)
          go_roundw
          case rel => exact ⟨x + 1, acc, u, by omega, by go_num, hR, hl5, A3.new n5, Lib.hid (by have h := ownsRow_new HU3.out n5; rw [← HAC.out] at h; exact h), HUA, Lib.hid (HW3.out.new n5), hF3.trans (FrB.new n5 (Nat.le_trans hbr n3.size))⟩
          case measure => simp [intOf]; omega
      · have g0 := dot_no hd
        have HD := Lib.hid hd
        have HBD := Lib.hid (fun x' => wdBad_no (m := m) (x := x') (y := y) hd HRD.out)
        clear hd
        have ⟨⟨q0, q1⟩, _, ql⟩ := P3.at2
        cases bb
        · have hR : Hid (R = (acc, 6)) := Lib.hid (by rw [← HE.out]; exact rowG_bad hlt (by rw [HBD.out]; rfl))
          clear CP
          go_wp2
          go_ret
          rw [hR.out]
          exact ⟨rfl, u, A3, by have h := HU3.out; rw [← HAC.out] at h; exact h, hF3⟩
        · have CI := c_l02Index b0 gv B m d n W3 B3 hm
          cases hi : inB n 0 ((m : Int) - 1)
          · have hR : Hid (R = (acc, 6)) := Lib.hid (by rw [← HE.out]; exact rowG_bad hlt (by rw [HBD.out, hi]; rfl))
            rw [hi] at CI
            have HI := Lib.hid CI
            clear CP hi CI
            go_wp2_with (go_at_call 41; refine (HI.out).mono ?_; rintro e w' ⟨rfl, rfl⟩)
            go_ret
            rw [hR.out]
            exact ⟨rfl, u, A3, by have h := HU3.out; rw [← HAC.out] at h; exact h, hF3⟩
          · rw [hi] at CI
            have HI := Lib.hid CI
            cases hv : vpB x y
            · have hR : Hid (R = (acc, 6)) := Lib.hid (by rw [← HE.out]; exact rowG_bad hlt (by rw [HBD.out, hi, hv]; rfl))
              simp only [hv] at CP
              have HP := Lib.hid CP
              clear CP hi CI hv
              go_wp2_with (first | (go_at_call 41; refine (HI.out).mono ?_; rintro e w' ⟨rfl, rfl⟩) | (go_at_call 42; refine (HP.out _).mono ?_; rintro e w5 ⟨rfl, n5⟩))
              go_ret
              rw [hR.out]
              exact ⟨rfl, u, A3.new n5, by have h := ownsRow_new HU3.out n5; rw [← HAC.out] at h; exact h, hF3.trans (FrB.new n5 (Nat.le_trans hbr n3.size))⟩
            · simp only [hv] at CP
              have HP := Lib.hid CP
              have HB := Lib.hid (show wdBad m y x ws[x] = false by rw [HBD.out, hi, hv]; rfl)
              go_upto_region 10 with (first | (go_at_call 41; refine (HI.out).mono ?_; rintro e w' ⟨rfl, rfl⟩) | (go_at_call 42; refine (HP.out _).mono ?_; rintro e w5 ⟨rfl, n5⟩))
              have A5 := A3.new n5
              have HU5 := Lib.hid (ownsRow_new HU3.out n5)
              have HW5 := Lib.hid (HW3.out.new n5)
              have hF5 := hF3.trans (FrB.new n5 (Nat.le_trans hbr n3.size))
              have P5 := P3.new n5
              obtain ⟨Au, cu, rfl⟩ := own_sl3 HU5.out
              have ⟨a0, af, al⟩ := A5.at1
              have ⟨⟨r0, r1⟩, _, rl⟩ := P5.at2
              have hln : ac.length = acc0.length + acc.length := by rw [← HAC.out, List.length_append]
              have HLN := Lib.hid hln
              clear CP hi CI hv HBD q0 q1 ql hln
              by_cases hfull : 500 ≤ acc0.length + acc.length
              · have hR : Hid (R = (acc, 4)) := Lib.hid (by rw [← HE.out]; exact rowG_full hlt HB.out HD.out hfull)
                have g5 : ((ac.length : Int) == 500) = true := by have := HLN.out; simp; omega
                go_wp2
                go_ret
                rw [hR.out]
                exact ⟨rfl, _, A5, by show w5.ownsRow base 85 3 _ (acc0 ++ acc).length ((acc0 ++ acc).flatMap plCells); rw [HAC.out]; exact HU5.out, hF5⟩
              · have hR : Hid (rowG m y acc0.length (x + 1) (ws.drop (x + 1)) (acc ++ [(((x : Int), y), (rdN ws[x]).1)]) = R) := Lib.hid (by rw [← HE.out]; exact (rowG_add hlt HB.out HD.out hfull).symm)
                have g5 : ((ac.length : Int) == 500) = false := by have := HLN.out; rw [beq_eq_false_iff_ne]; omega
                have HN := Lib.hid (show (rdN ws[x]).1 = n by rw [HRD.out])
                have hb5 : base ≤ w5.heap.size := Nat.le_trans hbase hF5.size
                have hhi : hi' ≤ w5.heap.size := HW5.out.hi_le
                have hl6 : ac.length ≤ 499 := by have := HLN.out; omega
                go_upto_region 12 with fail
                have lf := Later.cell a0 al
                have lr0 := Later.cell r0 rl
                have lr1 := Later.cell r1 rl
                refine wp_region_later_late1 (vz := .pointer (some ⟨ba, 0, none⟩)) 0 [1, 2, 3, 4] [5, 6, 7] 8 9 [10, 11, 12] (by kernel_rfl) (by rfl) (by rfl) (by rfl) (by decide +kernel) (.inl ⟨by rfl, fun w => by go_simp⟩) ?_
                simp only [pickO, List.getElem?_cons_zero, List.getElem?_cons_succ, Act.put, List.setIfInBounds_toArray, List.set_cons_zero, List.set_cons_succ]
                refine wpReads_cons (.pointer (some ⟨ba, 0, none⟩)) (by rfl) (fun w' hw' => by go_simp) ?_
                simp only [Act.put, List.setIfInBounds_toArray, List.set_cons_zero, List.set_cons_succ]
                refine wpReads_cons (.pointer (some ⟨ba, 0, none⟩)) (by rfl) (fun w' hw' => by go_simp) ?_
                simp only [Act.put, List.setIfInBounds_toArray, List.set_cons_zero, List.set_cons_succ]
                refine wpReads_cons (.pointer (some ⟨ba, 0, none⟩)) (by rfl) (fun w' hw' => by go_simp) ?_
                simp only [Act.put, List.setIfInBounds_toArray, List.set_cons_zero, List.set_cons_succ]
                refine wpReads_cons (.slice Au ac.length cu) (by rfl) (fun w' hw' => by obtain ⟨t, rfl⟩ := hw'; go_simp) ?_
                simp only [Act.put, List.setIfInBounds_toArray, List.set_cons_zero, List.set_cons_succ]
                simp only [wpReads]
                (repeat (go_big_quiet_step (fail)))
                refine wpQuiet_nil ?_
                intro wq hw'
                obtain ⟨⟨wz, nq⟩, hwz⟩ := hw'
                have hwz' : wq = wz := hwz
                subst hwz'
                clear hwz lf lr0 lr1 r0 r1 rl a0 af al
                have A6 := A5.new nq
                have HU6 := Lib.hid (ownsRow_new HU5.out nq)
                have HW6 := Lib.hid (HW5.out.new nq)
                have hF6 := hF5.trans (FrB.new nq hb5)
                have hb6 : base ≤ wq.heap.size := Nat.le_trans hb5 nq.size
                have hhi6 : hi' ≤ wq.heap.size := Nat.le_trans hhi nq.size
                go_wp2_with (at_builtin; refine wpList_app1 rfl _ _ rfl row_Placed _ base HU6.out rfl [.int .i64 x, .int .i64 y, .int .i64 n] rfl rfl (by simp [Value.oneCell']) (by unfold maxLen; omega) (by omega) hb6 ?_; intro v1 w7 hown1 hb7 hgr7 hob7; obtain ⟨A1, cc, rfl⟩ := own_sl3 hown1; have G2 := A6.below hb7 (by omega); have ⟨g1, g2, g3⟩ := G2.at1)
                have HUB := Lib.hid (show ∀ g, (Value.slice A1 (ac.length + 1) cc).ownBlock = some g → g < lo' ∨ hi' ≤ g from fun g hg => by
                  rcases hob7 with e | e
                  · exact HUA.out g (by rw [← e]; exact hg)
                  · rw [hg] at e; cases e; exact .inr (by omega))
                have HW7 := Lib.hid (rd_set (rd_grown HW6.out hgr7 HUA.out) ⟨ba, 0, none⟩ (.slice A1 (ac.length + 1) cc) (.inl (show ba < lo' by omega)))
                have A8 := Lib.hid (G2.put1 (.slice A1 (ac.length + 1) cc))
                have HU8 := Lib.hid (((Own.of hown1).fr ((Fr.refl ba (ba + 1) w7).setCell (p := ⟨ba, 0, none⟩) (Nat.le_refl _) (Nat.lt_succ_self _) (.slice A1 (ac.length + 1) cc)) (.inr (by omega))).1)
                have hF8 := Lib.hid ((hF6.trans (FrB.low hb7)).set 0 (.slice A1 (ac.length + 1) cc))
                clear hown1 hb7 hgr7 hob7 G2 HU6 HW6 A6 HU5 HW5 A5 hF5 hF6 nq
                refine NoPanic.normal ?_
                go_wp2
                go_roundw
                case rel =>
                  refine ⟨x + 1, _, _, by omega, by go_num, hR, by rw [List.length_append]; simp only [List.length_cons, List.length_nil]; omega, A8.out, Lib.hid ?_, HUB, HW7, hF8.out⟩
                  rw [← List.append_assoc, HAC.out, pl_snoc, HN.out, List.length_append]
                  exact HU8.out
                case measure => simp [intOf]; omega
    · have ex : x = ws.length := by omega
      subst ex
      have hR : Hid (R = (acc, 0)) := Lib.hid (by rw [← HE.out, rowG_end])
      go_wp2
      go_ret
      rw [hR.out]
      exact ⟨rfl, u, A1, by have h := HU.out; rw [← HAC.out] at h; exact h, hF⟩
end Go.Proofs.YtcbifdfcllaaaaaGreatDoor

/- The contract of the reference's ReadGrid. -/
namespace Go.Proofs.YtcbifdfcllaaaaaGreatDoor
open Go.RowKit Go.Deep
set_option linter.unusedVariables false
set_option linter.unusedSimpArgs false

/-- A call hands back an assembly in new memory, a line and a code. -/
def GivesGrid (w : World) (V : List Pl3 × Int × Int) (E : Ending) (w' : World) : Prop :=
  ∃ u, E = .returned (.tuple #[.agg #[u], .int .i64 V.2.1, .int .i64 V.2.2]) ∧ Own w' w.heap.size w'.heap.size 85 3 u V.1.length (V.1.flatMap plCells) ∧ New w w'

theorem spl_size (c : UInt8) : ∀ (l cur : List UInt8), ∀ p ∈ spl c cur l, p.length ≤ cur.length + l.length
  | [], cur, p, hp => by
    simp [spl] at hp
    subst hp; simp
  | x :: l, cur, p, hp => by
    by_cases hx : x = c
    · rw [spl, if_pos hx] at hp
      rcases List.mem_cons.1 hp with rfl | hp
      · simp
      · have := spl_size c l [] p hp
        simp at this ⊢
        omega
    · rw [spl, if_neg hx] at hp
      have := spl_size c l (cur ++ [x]) p hp
      simp at this ⊢
      omega
theorem lnR_size (l p : List UInt8) (hp : p ∈ lnR l) : p.length ≤ l.length := by
  unfold lnR at hp
  split at hp
  · simp at hp
  · split at hp
    · have := spl_size 10 l [] p ((List.dropLast_sublist _).subset hp)
      simpa using this
    · have := spl_size 10 l [] p hp
      simpa using this
theorem lnS_size {s : ByteArray} {t : ByteArray} (h : t ∈ lnS s) : t.size ≤ s.size := by
  unfold lnS at h
  obtain ⟨l, hl, rfl⟩ := List.mem_map.1 h
  have := lnR_size _ _ hl
  rw [size_list s]
  show l.toArray.size ≤ _
  simpa using this
theorem c_linesS (s : ByteArray) (w : World) (hs : s.size ≤ 1048576) : Calls Tryz.prog 16 #[.string s] w (GivesRow w 9 1 (lnS s).length ((lnS s).map Value.string)) := by
  rw [lnS_len, lnS_strs]; exact c_l05Lines s w hs
theorem gridV_no {G : List (ByteArray × Int)} {T : List (ByteArray × List Int)} {n : Nat} {L : List ByteArray} (h : setB G T = false) : gridV G T n L = ([], 0, 1) := by simp [gridV, h]
theorem gridV_long {G : List (ByteArray × Int)} {T : List (ByteArray × List Int)} {n : Nat} {L : List ByteArray} (h : setB G T = true) (hn : 20000 < n) : gridV G T n L = ([], 0, 2) := by simp [gridV, h, hn]
theorem gridV_yes {G : List (ByteArray × Int)} {T : List (ByteArray × List Int)} {n : Nat} {L : List ByteArray} (h : setB G T = true) (hn : ¬ 20000 < n) : gridV G T n L = gridAt T.length L L.length [] := by simp [gridV, h, hn]

set_option maxRecDepth 20000 in
set_option maxHeartbeats 4000000 in
theorem c_specReadGrid (lo hi : Nat) (gv tv : Value) (G : List (ByteArray × Int)) (T : List (ByteArray × List Int)) (sv : List Value) (s : ByteArray) (w : World) (h : RdS w lo hi gv tv G T sv) (hg : ∀ g ∈ G, g.1.size ≤ maxLen) (ht : ∀ t ∈ T, t.1.size ≤ maxLen) (hsz : s.size ≤ 1048576) :
    Calls Tryz.prog 5 #[.agg #[gv, tv], .string s] w (GivesGrid w (gridV G T s.size (lnS s))) := by
  obtain ⟨A, c, B, d, rfl, rfl⟩ := h.form
  have HH := Lib.hid h
  have hmT : T.length ≤ 9223372036854775807 := h.tiles.outer.2.1
  clear h
  obtain ⟨R, hR⟩ : ∃ R, gridV G T s.size (lnS s) = R := ⟨_, rfl⟩
  rw [hR]
  have HRR := Lib.hid hR
  clear hR
  have n0 : New w ((w.alloc (.cells #[.slice A G.length c, .slice B T.length d] 35)).alloc (.cells #[.slice none 0 0] 29)) := ((New.same w).box _).box _
  have B0 : BoxV ((w.alloc (.cells #[.slice A G.length c, .slice B T.length d] 35)).alloc (.cells #[.slice none 0 0] 29)) w.heap.size [.slice A G.length c, .slice B T.length d] := .two (by go_simp) (by go_simp) (by go_simp) (by go_simp) (by simp <;> omega)
  have R0 : BoxV ((w.alloc (.cells #[.slice A G.length c, .slice B T.length d] 35)).alloc (.cells #[.slice none 0 0] 29)) (w.heap.size + 1) [.slice none 0 0] := .one (by go_simp) (by go_simp) (by simp <;> omega)
  go_enter Tryz.func5, Tryz.ntmps5
  go_wp2_with fail
  generalize ((w.alloc (.cells #[.slice A G.length c, .slice B T.length d] 35)).alloc (.cells #[.slice none 0 0] 29)) = W0 at *
  refine (c_l02Ok _ _ _ _ _ G T sv _ B0 (HH.out.new n0) hg ht).mono ?_
  rintro e w1 ⟨rfl, n1⟩
  have N1 := n0.step n1
  have B1 := B0.new n1
  have R1 := R0.new n1
  have hbz : w.heap.size + 1 < w1.heap.size := R1.lt
  have ⟨c0, f0, l0⟩ := R1.at1
  clear n0 n1 B0 R0
  have F0 := Lib.hid ((Fr.refl (w.heap.size + 1) (w.heap.size + 2) w1).setCell (p := ⟨w.heap.size + 1, 0, none⟩) (by simp) (by simp) (.slice none 0 0))
  cases hs : setB G T
  · have HE := Lib.hid (HRR.out.symm.trans (gridV_no hs))
    clear hs
    go_wp2
    refine bodyPost_ret (v := .tuple #[.agg #[.slice none 0 0], .int .i64 0, .int .i64 1]) (by simp [results, Tryz.results5, go_sem, *]) rfl ?_
    rw [HE.out]
    exact ⟨_, rfl, own_nil _ _ (Nat.le_refl _) _ _ _, New.fr N1 F0.out (by omega)⟩
  · have HS := Lib.hid hs
    clear hs
    by_cases hn : 20000 < s.size
    · have HE := Lib.hid (HRR.out.symm.trans (gridV_long HS.out hn))
      have hd : decide ((20000 : Int) < (s.size : Int)) = true := by simp; omega
      go_wp2
      refine bodyPost_ret (v := .tuple #[.agg #[.slice none 0 0], .int .i64 0, .int .i64 2]) (by simp [results, Tryz.results5, go_sem, *]) rfl ?_
      rw [HE.out]
      exact ⟨_, rfl, own_nil _ _ (Nat.le_refl _) _ _ _, New.fr N1 F0.out (by omega)⟩
    · have HE := Lib.hid ((gridV_yes HS.out hn).symm.trans HRR.out)
      have hd : decide ((20000 : Int) < (s.size : Int)) = false := by simp; omega
      obtain ⟨L, hL⟩ : ∃ L, lnS s = L := ⟨_, rfl⟩
      have hLl : L.length ≤ 20000 := by rw [← hL]; exact Nat.le_trans (lnS_le s) (by omega)
      have HLS := Lib.hid (show ∀ t ∈ L, t.size ≤ 20000 from fun t ht => by rw [← hL] at ht; have := lnS_size ht; omega)
      have n2 : New w1 (w1.alloc (.cells #[.slice none 0 0] 29)) := (New.same w1).box _
      have A2 : BoxV (w1.alloc (.cells #[.slice none 0 0] 29)) w1.heap.size [.slice none 0 0] := .one (by go_simp) (by go_simp) (by simp <;> omega)
      have CL := Lib.hid (c_linesS s (w1.alloc (.cells #[.slice none 0 0] 29)) hsz)
      have hz2 : w1.heap.size + 1 ≤ (w1.alloc (.cells #[.slice none 0 0] 29)).heap.size := by simp
      rw [hL] at HE CL
      clear hL HRR c0 f0 l0 F0
      go_wp2_with fail
      generalize (w1.alloc (.cells #[.slice none 0 0] 29)) = W2 at *
      refine (CL.out).mono ?_
      rintro e w3 ⟨lv, rfl, hLo, n3⟩
      have HLo := Lib.hid hLo.rd
      obtain ⟨Al, cl, rfl, _, hal⟩ := rd_form hLo.rd
      have HAL := Lib.hid hal
      have n23 := n2.step n3
      have A3 := A2.new n3
      have B3 := B1.new n23
      have R3 := R1.new n23
      have N3 := N1.step n23
      have hz3 : w1.heap.size + 1 ≤ w3.heap.size := Nat.le_trans hz2 n3.size
      clear hLo hal CL n2 n3 A2 B1 R1 N1 n23
      go_wp2
      go_loopw [9] (fun i wr => ∃ (r : Nat) (acc : List Pl3) (u : Value), r ≤ L.length ∧ i = .int .i64 ((r : Int) - 1) ∧ Hid (gridAt T.length L r acc = R) ∧ Hid (Laid ((L.length - r : Nat) : Int) acc) ∧ BoxV wr w1.heap.size [u] ∧ Hid (wr.ownsRow w3.heap.size 85 3 u acc.length (acc.flatMap plCells)) ∧ FrB w1.heap.size w3.heap.size w3 wr) (fun i _ => (intOf i + 1).toNat)
      case atStart => exact ⟨L.length, [], _, Nat.le_refl _, rfl, HE, Lib.hid (laid_nil _), A3, Lib.hid (World.ownsRow_nil _ _ _ _), FrB.refl _ _ _⟩
      case round =>
        clear HE A3
        obtain ⟨r, acc, u, hr, rfl, HE, HL, A3, HU, hF⟩ := hrel
        have R4 := hF.box R3 (by omega) (by omega)
        have N4 := N3.trans ((hF.below (by omega)).mono (by omega))
        have hz4 : w3.heap.size ≤ wr.heap.size := hF.size
        by_cases hlt : 0 < r
        · obtain ⟨k, hk⟩ : ∃ k, r = k + 1 := ⟨r - 1, by omega⟩
          subst hk
          have hkl : k < L.length := by omega
          have E := Lib.hid (show (((k + 1 : Nat) : Int) - 1) = (k : Int) by omega)
          rw [E.out]
          obtain ⟨b, off, hAe⟩ := HAL.out (by omega)
          subst hAe
          have hRdL := hF.rd HLo.out (by omega) (.inl (by omega))
          obtain ⟨x0, xl⟩ := rd_cell hRdL (New.same wr) rfl (by omega) (show (L.map Value.string)[k]? = some (.string L[k]) by simp [hkl])
          have p0 : (0 : Int) ≤ (k : Int) := by omega
          have p1 : (k : Int) < (L.length : Int) := by omega
          have HZ := Lib.hid (HLS.out _ (List.getElem_mem hkl))
          have CW := Lib.hid (c_l05Words L[k] wr (by have := HZ.out; omega))
          have hl5 := HL.out.2.2
          have EY := Lib.hid (show (L.length : Int) - 1 - (k : Int) = ((L.length - 1 - k : Nat) : Int) by omega)
          obtain ⟨more, code, hV⟩ : ∃ a b, rowG T.length ((L.length : Int) - 1 - (k : Int)) acc.length 0 (wds L[k] 0 0) [] = (a, b) := ⟨_, _, rfl⟩
          have HV := Lib.hid (show rwG T.length acc ((L.length - 1 - k : Nat) : Int) L[k] = (more, code) by unfold rwG; rw [← EY.out]; exact hV)
          have HVV := Lib.hid hV
          clear hRdL hV
          by_cases hc : code = 0
          · have g5 : (code != 0) = false := by simp [hc]
            have HN := Lib.hid (gridAt_ok hkl (by rw [HV.out]; exact hc))
            have HLD := Lib.hid ((laid_row (m := T.length) (y := ((L.length - 1 - k : Nat) : Int)) (l := L[k]) (by have := HL.out; rw [show L.length - (k + 1) = L.length - 1 - k by omega] at this; exact this)).1)
            clear hc
            go_wp2_with (first | (go_at_call 18; refine (CW.out).mono ?_; rintro e w4 ⟨wv, rfl, hWo, n4⟩; have A4 := A3.new n4; have hF4 := hF.trans (FrB.new n4 hz4); have B4 := hF4.box B3 (by omega) (by omega); have CRow := Lib.hid (c_l05Row w.heap.size w1.heap.size wr.heap.size w4.heap.size w3.heap.size _ wv u _ T.length d (wds L[k] 0 0) ((L.length : Int) - 1 - (k : Int)) acc w4 B4 A4 hmT (by omega) (by omega) (by omega) (Nat.le_trans hz4 n4.size) hWo.rd (fun t ht => by have h1 := wds_size L[k] _ 0 0 (Nat.le_refl _) t ht; have h2 := HZ.out; omega) (wds_len L[k] 1048577 0 0 (by have := HZ.out; omega)) (ownsRow_new HU.out n4) (fun g hg => .inl (HU.out.lt g hg).2) hz4 hl5); clear hWo A4 B4) | (go_at_call 17; refine (CRow.out).mono ?_; rw [HVV.out]; rintro e w5 ⟨he, u5, A5, hU5, hF5⟩; have HU5 := Lib.hid hU5; clear hU5; obtain rfl : e = .returned (.int .i64 code) := he))
            go_roundw
            case rel =>
              refine ⟨k, acc ++ more, u5, by omega, by go_num, Lib.hid ?_, Lib.hid ?_, A5, HU5, hF4.trans hF5⟩
              · have h1 := HN.out
                rw [HV.out] at h1
                rw [← HE.out, h1]
              · have h1 := HLD.out
                rw [HV.out] at h1
                rw [show ((L.length - k : Nat) : Int) = ((L.length - 1 - k : Nat) : Int) + 1 by omega]
                exact h1
            case measure => simp [intOf] <;> omega
          · have g5 : (code != 0) = true := by simpa using hc
            have HN := Lib.hid ((gridAt_err hkl (by rw [HV.out]; exact hc) : gridAt T.length L (k + 1) acc = _))
            clear hc
            go_wp2_with (first | (go_at_call 18; refine (CW.out).mono ?_; rintro e w4 ⟨wv, rfl, hWo, n4⟩; have A4 := A3.new n4; have hF4 := hF.trans (FrB.new n4 hz4); have B4 := hF4.box B3 (by omega) (by omega); have CRow := Lib.hid (c_l05Row w.heap.size w1.heap.size wr.heap.size w4.heap.size w3.heap.size _ wv u _ T.length d (wds L[k] 0 0) ((L.length : Int) - 1 - (k : Int)) acc w4 B4 A4 hmT (by omega) (by omega) (by omega) (Nat.le_trans hz4 n4.size) hWo.rd (fun t ht => by have h1 := wds_size L[k] _ 0 0 (Nat.le_refl _) t ht; have h2 := HZ.out; omega) (wds_len L[k] 1048577 0 0 (by have := HZ.out; omega)) (ownsRow_new HU.out n4) (fun g hg => .inl (HU.out.lt g hg).2) hz4 hl5); clear hWo A4 B4) | (go_at_call 17; refine (CRow.out).mono ?_; rw [HVV.out]; rintro e w5 ⟨he, u5, A5, hU5, hF5⟩; have HU5 := Lib.hid hU5; clear hU5; obtain rfl : e = .returned (.int .i64 code) := he; have hF6 := hF4.trans hF5; have R6 := hF6.box R3 (by omega) (by omega); have ⟨r0, rf, rl⟩ := R6.at1))
            have F := Lib.hid ((Fr.refl (w.heap.size + 1) (w.heap.size + 2) w5).setCell (p := ⟨w.heap.size + 1, 0, none⟩) (by simp) (by simp) (.slice none 0 0))
            have N6 := N3.trans ((hF6.below (by omega)).mono (by omega))
            refine bodyPost_ret (v := .tuple #[.agg #[.slice none 0 0], .int .i64 ((k : Int) + 1), .int .i64 code]) (by simp [results, Tryz.results5, go_sem, *]) rfl ?_
            have h1 := HN.out
            rw [HV.out, HE.out] at h1
            rw [h1]
            exact ⟨_, rfl, own_nil _ _ (Nat.le_refl _) _ _ _, New.fr N6 F.out (by omega)⟩
        · have er : r = 0 := by omega
          subst er
          have HR0 := Lib.hid (HE.out.symm.trans (gridAt_zero _ _ _))
          obtain ⟨Au, cu, rfl⟩ := own_sl3 HU.out
          have ⟨a0, af, al⟩ := A3.at1
          have ⟨r0, rf, rl⟩ := R4.at1
          have F := Lib.hid ((Fr.refl (w.heap.size + 1) (w.heap.size + 2) wr).setCell (p := ⟨w.heap.size + 1, 0, none⟩) (by simp) (by simp) (.slice Au acc.length cu))
          have HW := Lib.hid (((Own.of HU.out).fr F.out (.inr (by omega))).wide (by omega : w.heap.size ≤ _) F.out.size (Nat.le_refl _))
          go_wp2
          refine bodyPost_ret (v := .tuple #[.agg #[.slice Au acc.length cu], .int .i64 0, .int .i64 0]) (by simp [results, Tryz.results5, go_sem, *]) rfl ?_
          rw [HR0.out]
          exact ⟨_, rfl, HW.out, New.fr N4 F.out (by omega)⟩
end Go.Proofs.YtcbifdfcllaaaaaGreatDoor

/- The contracts of what the program's ReadGrid calls: readCode, gridRow. -/
namespace Go.Proofs.YtcbifdfcllaaaaaGreatDoor
open Go.RowKit Go.Deep
set_option linter.unusedVariables false
set_option linter.unusedSimpArgs false

theorem ownsRow_wide2 {w : World} {base base' C n : Nat} {e : TypeId} {v : Value} {xs : List Value} (h : w.ownsRow base e C v n xs) (hb : base' ≤ base) : w.ownsRow base' e C v n xs := by
  refine ⟨h.1, ?_⟩
  rcases h.2 with hn | ⟨g, cap, cur, hv, h1, hr⟩
  · exact .inl hn
  · exact .inr ⟨g, cap, cur, hv, Nat.le_trans hb h1, hr⟩
def rcV (G : List (ByteArray × Int)) (T : List (ByteArray × List Int)) (n : Nat) : Int := if setB G T then (if 20000 < n then 2 else 0) else 1
set_option maxHeartbeats 1000000 in
theorem c_readCode (lo hi : Nat) (gv tv : Value) (G : List (ByteArray × Int)) (T : List (ByteArray × List Int)) (sv : List Value) (s : ByteArray) (w : World) (h : RdS w lo hi gv tv G T sv) (hg : ∀ g ∈ G, g.1.size ≤ maxLen) (ht : ∀ t ∈ T, t.1.size ≤ maxLen) (hsz : s.size ≤ 1048576) :
    Calls Tryz.prog 21 #[.agg #[gv, tv], .string s] w fun e w' => e = .returned (.int .i64 (rcV G T s.size)) ∧ New w w' := by
  obtain ⟨A, c, B, d, rfl, rfl⟩ := h.form
  have HH := Lib.hid h
  clear h
  have n0 : New w (w.alloc (.cells #[.slice A G.length c, .slice B T.length d] 35)) := (New.same w).box _
  cases hs : setB G T
  · have E := Lib.hid (show rcV G T s.size = 1 by simp [rcV, hs])
    have HS := Lib.hid hs
    clear hs
    go_enter Tryz.func21, Tryz.ntmps21
    go_wp2_with fail
    generalize (w.alloc (.cells #[.slice A G.length c, .slice B T.length d] 35)) = W0 at *
    refine (c_implValidSet _ _ _ _ G T sv _ (HH.out.new n0) hg ht).mono ?_
    rintro e w1 ⟨rfl, n1⟩
    rw [HS.out]
    go_wp2
    go_ret
    exact ⟨ret_int E.out.symm, n0.step n1⟩
  · have HS := Lib.hid hs
    by_cases hn : 20000 < s.size
    · have E := Lib.hid (show rcV G T s.size = 2 by simp [rcV, hs, hn])
      have hd : decide ((20000 : Int) < (s.size : Int)) = true := by simp; omega
      clear hs
      go_enter Tryz.func21, Tryz.ntmps21
      go_wp2_with fail
      generalize (w.alloc (.cells #[.slice A G.length c, .slice B T.length d] 35)) = W0 at *
      refine (c_implValidSet _ _ _ _ G T sv _ (HH.out.new n0) hg ht).mono ?_
      rintro e w1 ⟨rfl, n1⟩
      rw [HS.out]
      go_wp2
      go_ret
      exact ⟨ret_int E.out.symm, n0.step n1⟩
    · have E := Lib.hid (show rcV G T s.size = 0 by simp [rcV, hs, hn])
      have hd : decide ((20000 : Int) < (s.size : Int)) = false := by simp; omega
      clear hs
      go_enter Tryz.func21, Tryz.ntmps21
      go_wp2_with fail
      generalize (w.alloc (.cells #[.slice A G.length c, .slice B T.length d] 35)) = W0 at *
      refine (c_implValidSet _ _ _ _ G T sv _ (HH.out.new n0) hg ht).mono ?_
      rintro e w1 ⟨rfl, n1⟩
      rw [HS.out]
      go_wp2
      go_ret
      exact ⟨ret_int E.out.symm, n0.step n1⟩

/-- a call hands back a row's tiles, in new memory where the code is 0, and the code -/
def GivesGr (w : World) (R : List Pl3 × Int) (E : Ending) (w' : World) : Prop :=
  ∃ v, E = .returned (.tuple #[v, .int .i64 R.2]) ∧ (R.2 = 0 → w'.ownsRow w.heap.size 85 3 v R.1.length (R.1.flatMap plCells)) ∧ New w w'
set_option maxRecDepth 20000 in
set_option maxHeartbeats 8000000 in
theorem c_gridRow (gv : Value) (B : Option Addr) (m d b0 : Nat) (s : ByteArray) (y : Int) (w : World) (hm : m ≤ 9223372036854775807) (hgv : gv.oneCell' = true) (hs : s.size ≤ 1048576) (hT : TabW w) (hE : ErrW w) (h500 : b0 ≤ 500) :
    Calls Tryz.prog 24 #[.agg #[gv, .slice B m d], .string s, .int .i64 y, .int .i64 b0] w (GivesGr w (rowG m y b0 0 (wds s 0 0) [])) := by
  obtain ⟨R, hR⟩ : ∃ R, rowG m y b0 0 (wds s 0 0) [] = R := ⟨_, rfl⟩
  rw [hR]
  obtain ⟨ws, hws⟩ : ∃ ws, wds s 0 0 = ws := ⟨_, rfl⟩
  have HSZ := Lib.hid (show ∀ t ∈ ws, t.size ≤ 1048576 from fun t ht => by rw [← hws] at ht; have := wds_size s _ 0 0 (Nat.le_refl _) t ht; omega)
  have hlen : ws.length ≤ 1048577 := by rw [← hws]; exact wds_len s 1048577 0 0 (by omega)
  have HT := Lib.hid hT
  have HEE := Lib.hid hE
  have n0 : New w (w.alloc (.cells #[gv, .slice B m d] 35)) := (New.same w).box _
  have B0 : BoxV (w.alloc (.cells #[gv, .slice B m d] 35)) w.heap.size [gv, .slice B m d] := .two (by go_simp) (by go_simp) (by go_simp) (by go_simp) (by simp)
  have CW := Lib.hid (c_implSplitWords s (w.alloc (.cells #[gv, .slice B m d] 35)) hs)
  rw [hws] at CW hR
  have HE0 : Hid (rowG m y b0 0 (ws.drop 0) [] = R) := Lib.hid (by simpa using hR)
  clear hws hR hT hE
  go_enter Tryz.func24, Tryz.ntmps24
  go_wp2_with fail
  generalize (w.alloc (.cells #[gv, .slice B m d] 35)) = W0 at *
  refine (CW.out).mono ?_
  rintro e w1 ⟨wv, rfl, hWo, n1⟩
  have HW := Lib.hid hWo.rd
  obtain ⟨A, c, rfl, _, ha⟩ := rd_form hWo.rd
  have HA := Lib.hid ha
  have N1 := n0.step n1
  have B1 := B0.new n1
  have hz1 := N1.size
  clear hWo ha CW n0 n1 B0
  go_wp2
  go_loopw [10, 19] (fun v i wr => ∃ (x : Nat) (acc : List Pl3), x ≤ ws.length ∧ i = .int .i64 x ∧ Hid (rowG m y b0 x (ws.drop x) acc = R) ∧ b0 + acc.length ≤ 500 ∧ Hid (wr.ownsRow w1.heap.size 85 3 v acc.length (acc.flatMap plCells)) ∧ New w1 wr) (fun _ i _ => ws.length - (intOf i).toNat)
  case atStart => exact ⟨0, [], Nat.zero_le _, rfl, HE0, by simpa using h500, Lib.hid (World.ownsRow_nil _ _ _ _), New.same _⟩
  case round =>
    clear HE0
    obtain ⟨x, acc, hx, rfl, HE, hl5, HU, hN⟩ := hrel
    have NW := N1.step hN
    by_cases hlt : x < ws.length
    · obtain ⟨b, off, hAe⟩ := HA.out (by omega)
      subst hAe
      have p0 : (0 : Int) ≤ (x : Int) := by omega
      have p1 : (x : Int) < (ws.length : Int) := by omega
      obtain ⟨x0, xl⟩ := rd_cell HW.out hN rfl (by omega) (show (ws.map Value.string)[x]? = some (.string ws[x]) by simp [hlt])
      have n2 : New wr (wr.alloc (.cells #[.int .i64 x, .int .i64 y] 81)) := (New.same wr).box _
      have P2 : BoxV (wr.alloc (.cells #[.int .i64 x, .int .i64 y] 81)) wr.heap.size [.int .i64 x, .int .i64 y] := .two (by go_simp) (by go_simp) (by go_simp) (by go_simp) (by simp)
      have CR := Lib.hid (c_implReadDecimal ws[x] (wr.alloc (.cells #[.int .i64 x, .int .i64 y] 81)) (HSZ.out _ (List.getElem_mem hlt)) (tab_new HT.out (NW.step n2)) (err_new HEE.out (NW.step n2)))
      go_upto_region 6 with fail
      clear x0 xl
      generalize (wr.alloc (.cells #[.int .i64 x, .int .i64 y] 81)) = W2 at *
      go_upto_region 7 with (go_at_call 50; refine (CR.out).mono ?_; rintro e w3 ⟨n, bb, rfl, hRd, n3⟩)
      have HRD := Lib.hid (rdN_of hRd)
      have n23 := n2.step n3
      have P3 := P2.new n3
      have B3 := B1.new (hN.step n23)
      have HU3 := Lib.hid (ownsRow_new HU.out n23)
      have N3 := hN.step n23
      have ⟨⟨q0, q1⟩, _, ql⟩ := P3.at2
      have ⟨⟨k0, k1⟩, _, kl⟩ := B3.at2
      have hz3 : w1.heap.size ≤ w3.heap.size := N3.size
      clear CR hRd HU n2 n3 n23 P2
      have CP := fun w => c_implValidPoint (x : Int) y w
      by_cases hd : ws[x] = dotS
      · have g0 := dot_yes hd
        have HD := Lib.hid hd
        clear hd
        cases hv : vpB x y
        · have hR : Hid (R = (acc, 6)) := Lib.hid (by rw [← HE.out]; exact rowG_bad hlt (by rw [wdBad_dot HD.out, hv]; rfl))
          simp only [hv] at CP
          have HP := Lib.hid CP
          clear CP hv
          go_wp2_with (go_at_call 52; refine (HP.out _).mono ?_; rintro e w5 ⟨rfl, n5⟩)
          go_ret2
          rw [hR.out]
          exact ⟨_, rfl, fun h => absurd h (by simp), (N1.step N3).step n5⟩
        · have hR : Hid (rowG m y b0 (x + 1) (ws.drop (x + 1)) acc = R) := Lib.hid (by rw [← HE.out]; exact (rowG_dot hlt (by rw [wdBad_dot HD.out, hv]; rfl) HD.out).symm)
          simp only [hv] at CP
          have HP := Lib.hid CP
          clear CP hv
          go_wp2_with (go_at_call 52; refine (HP.out _).mono ?_; rintro e w5 ⟨rfl, n5⟩)
          go_roundw
          case rel => exact ⟨x + 1, acc, by omega, by go_num, hR, hl5, Lib.hid (ownsRow_new HU3.out n5), N3.step n5⟩
          case measure => simp [intOf]; omega
      · have g0 := dot_no hd
        have HD := Lib.hid hd
        have HBD := Lib.hid (fun x' => wdBad_no (m := m) (x := x') (y := y) hd HRD.out)
        clear hd
        cases bb
        · have hR : Hid (R = (acc, 6)) := Lib.hid (by rw [← HE.out]; exact rowG_bad hlt (by rw [HBD.out]; rfl))
          clear CP
          go_wp2
          go_ret2
          rw [hR.out]
          exact ⟨_, rfl, fun h => absurd h (by simp), N1.step N3⟩
        · have CI := c_isTile gv B m d n w3 hm hgv
          cases hi : inB n 0 ((m : Int) - 1)
          · have hR : Hid (R = (acc, 6)) := Lib.hid (by rw [← HE.out]; exact rowG_bad hlt (by rw [HBD.out, hi]; rfl))
            rw [hi] at CI
            have HI := Lib.hid CI
            clear CP hi CI
            go_wp2_with (go_at_call 51; refine (HI.out).mono ?_; rintro e w4 ⟨rfl, n4⟩)
            go_ret2
            rw [hR.out]
            exact ⟨_, rfl, fun h => absurd h (by simp), (N1.step N3).step n4⟩
          · rw [hi] at CI
            have HI := Lib.hid CI
            cases hv : vpB x y
            · have hR : Hid (R = (acc, 6)) := Lib.hid (by rw [← HE.out]; exact rowG_bad hlt (by rw [HBD.out, hi, hv]; rfl))
              simp only [hv] at CP
              have HP := Lib.hid CP
              clear CP hi CI hv
              go_wp2_with (first | (go_at_call 51; refine (HI.out).mono ?_; rintro e w4 ⟨rfl, n4⟩; have ⟨⟨q0, q1⟩, _, ql⟩ := (P3.new n4).at2) | (go_at_call 52; refine (HP.out _).mono ?_; rintro e w5 ⟨rfl, n5⟩))
              go_ret2
              rw [hR.out]
              exact ⟨_, rfl, fun h => absurd h (by simp), ((N1.step N3).step n4).step n5⟩
            · simp only [hv] at CP
              have HP := Lib.hid CP
              have HB := Lib.hid (show wdBad m y x ws[x] = false by rw [HBD.out, hi, hv]; rfl)
              go_upto_region 10 with (first | (go_at_call 51; refine (HI.out).mono ?_; rintro e w4 ⟨rfl, n4⟩; have ⟨⟨q0, q1⟩, _, ql⟩ := (P3.new n4).at2) | (go_at_call 52; refine (HP.out _).mono ?_; rintro e w5 ⟨rfl, n5⟩))
              have HU5 := Lib.hid (ownsRow_new HU3.out (n4.step n5))
              have N5 := N3.step (n4.step n5)
              have hz5 : w1.heap.size ≤ w5.heap.size := N5.size
              have ⟨⟨r0, r1⟩, _, rl⟩ := (P3.new (n4.step n5)).at2
              obtain ⟨Au, cu, hUe⟩ := own_sl3 HU5.out
              subst hUe
              clear CP hi CI hv HBD q0 q1 ql k0 k1 kl
              by_cases hfull : 500 ≤ b0 + acc.length
              · have hR : Hid (R = (acc, 4)) := Lib.hid (by rw [← HE.out]; exact rowG_full hlt HB.out HD.out hfull)
                have g5 : decide ((500 : Int) ≤ (b0 : Int) + (acc.length : Int)) = true := by simp; omega
                go_wp2
                go_ret2
                rw [hR.out]
                exact ⟨_, rfl, fun h => absurd h (by simp), N1.step N5⟩
              · have hR : Hid (rowG m y b0 (x + 1) (ws.drop (x + 1)) (acc ++ [(((x : Int), y), (rdN ws[x]).1)]) = R) := Lib.hid (by rw [← HE.out]; exact (rowG_add hlt HB.out HD.out hfull).symm)
                have g5 : decide ((500 : Int) ≤ (b0 : Int) + (acc.length : Int)) = false := by simp; omega
                have HN := Lib.hid (show (rdN ws[x]).1 = n by rw [HRD.out])
                go_wp2_with (at_builtin; refine wpList_app1 rfl _ _ rfl row_Placed _ w1.heap.size HU5.out rfl [.int .i64 x, .int .i64 y, .int .i64 n] rfl rfl (by simp [Value.oneCell']) (by unfold maxLen; omega) (by omega) hz5 ?_; intro v1 w7 hown1 hb7 _ _)
                go_roundw
                case rel =>
                  refine ⟨x + 1, _, by omega, by go_num, hR, by rw [List.length_append]; simp only [List.length_cons, List.length_nil]; omega, Lib.hid ?_, N5.trans hb7⟩
                  rw [pl_snoc, HN.out, List.length_append]
                  exact hown1
                case measure => simp [intOf]; omega
    · have ex : x = ws.length := by omega
      subst ex
      have hR : Hid (R = (acc, 0)) := Lib.hid (by rw [← HE.out, rowG_end])
      go_wp2
      go_ret2
      rw [hR.out]
      exact ⟨_, rfl, fun _ => ownsRow_wide2 HU.out hz1, NW⟩
end Go.Proofs.YtcbifdfcllaaaaaGreatDoor
