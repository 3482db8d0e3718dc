/- Contracts of the functions on sets: tiles with a glue on a side, lonely sides. -/
import Derived.Test.YtailhgleiefbkaaSetFn2
namespace Go.Proofs.Ytailhgleiefbkaa
open Go.RowKit Go.Deep
set_option linter.unusedVariables false
set_option linter.unusedSimpArgs false

/-- the first k places at which a test holds -/
def pickN (p : Nat → Bool) (k : Nat) : List Int := ((List.range k).filter p).map Int.ofNat
theorem pickN_yes {p : Nat → Bool} {k : Nat} (h : p k = true) : pickN p (k + 1) = pickN p k ++ [(k : Int)] := by simp [pickN, List.range_succ, h]
theorem pickN_no {p : Nat → Bool} {k : Nat} (h : p k = false) : pickN p (k + 1) = pickN p k := by simp [pickN, List.range_succ, h]
theorem pickN_len (p : Nat → Bool) (k : Nat) : (pickN p k).length ≤ k := by
  have := List.length_filter_le p (List.range k)
  simpa [pickN] using this
theorem own_sl {w : World} {base : Nat} {e : TypeId} {v : Value} {n : Nat} {xs : List Value} (h : w.ownsRow base e 1 v n xs) : ∃ A c, v = .slice A n c := by
  obtain ⟨_, _, _, A, c, rfl, _⟩ := (Own.of h).rd
  exact ⟨A, c, rfl⟩
/-- a row's own block, wherever -/
theorem pick_step {w' : World} {base : Nat} {v : Value} {p : Nat → Bool} {k : Nat} (hp : p k = true) (h : w'.ownsRow base 2 1 v ((pickN p k).length + 1) ((pickN p k).map (Value.int .i64) ++ [.int .i64 (k : Int)])) : w'.ownsRow base 2 1 v (pickN p (k + 1)).length ((pickN p (k + 1)).map (Value.int .i64)) := by
  rw [pickN_yes hp, List.length_append, List.map_append]
  exact h

def twP (T : List (ByteArray × List Int)) (d g : Int) (k : Nat) : Bool := decide (sdV T k d.toNat = g)
def twC (G : List (ByteArray × Int)) (T : List (ByteArray × List Int)) (d g : Int) : Int := if setB G T then (if inB d 0 3 && inB g 0 G.length then 0 else 2) else 1
def twL (G : List (ByteArray × Int)) (T : List (ByteArray × List Int)) (d g : Int) : List Int := if setB G T && (inB d 0 3 && inB g 0 G.length) then pickN (twP T d g) T.length else []
theorem tw_no {G : List (ByteArray × Int)} {T : List (ByteArray × List Int)} {d g : Int} (h : setB G T = false) : twC G T d g = 1 ∧ twL G T d g = [] := by simp [twC, twL, h]
theorem tw_two {G : List (ByteArray × Int)} {T : List (ByteArray × List Int)} {d g : Int} (h : setB G T = true) (h2 : (inB d 0 3 && inB g 0 G.length) = false) : twC G T d g = 2 ∧ twL G T d g = [] := by simp [twC, twL, h, h2]
theorem tw_yes {G : List (ByteArray × Int)} {T : List (ByteArray × List Int)} {d g : Int} (h : setB G T = true) (h2 : (inB d 0 3 && inB g 0 G.length) = true) : twC G T d g = 0 ∧ twL G T d g = pickN (twP T d g) T.length := by simp [twC, twL, h, h2]
theorem twL_len (G : List (ByteArray × Int)) (T : List (ByteArray × List Int)) (d g : Int) : (twL G T d g).length ≤ 160 := by
  unfold twL
  split
  · rename_i h
    simp only [Bool.and_eq_true] at h
    have := pickN_len (twP T d g) T.length
    have := (set_in h.1).2.2.1
    omega
  · simp
theorem own_nil1 (w : World) (lo hi : Nat) (h : hi ≤ w.heap.size) (e : TypeId) : Own w lo hi e 1 (.slice none 0 0) 0 [] :=
  ⟨World.ownsRow_nil _ _ _ _, h, fun g hg => by cases hg⟩

set_option maxRecDepth 20000 in
set_option maxHeartbeats 4000000 in
theorem c_specTilesWith (lo hi : Nat) (gv tv : Value) (G : List (ByteArray × Int)) (T : List (ByteArray × List Int)) (sv : List Value) (d g : Int) (w : World) (h : RdS w lo hi gv tv G T sv) (hg : ∀ g ∈ G, g.1.size ≤ maxLen) (ht : ∀ t ∈ T, t.1.size ≤ maxLen) :
    Calls Try.prog 30 #[.agg #[gv, tv], .int .i64 d, .int .i64 g] w (GivesRowCode w 2 1 (twL G T d g).length ((twL G T d g).map (Value.int .i64)) (twC G T d g)) := by
  obtain ⟨A, c, B, d0, rfl, rfl⟩ := h.form
  have HH := Lib.hid h
  obtain ⟨A', c', e1, hm, ha⟩ := rd_form h.glues
  obtain ⟨B', d', e2, hm', hb⟩ := rd_form h.tiles.outer
  obtain ⟨rfl, rfl⟩ : A = A' ∧ c = c' := by simpa using e1
  obtain ⟨rfl, rfl⟩ : B = B' ∧ d0 = d' := by simpa using e2
  have HB := Lib.hid hb
  clear e1 e2 h ha hb
  have n0 : New w (w.alloc (.cells #[.slice A G.length c, .slice B T.length d0] 31)) := (New.same w).box _
  have B0 : BoxV (w.alloc (.cells #[.slice A G.length c, .slice B T.length d0] 31)) w.heap.size [.slice A G.length c, .slice B T.length d0] := .two (by go_simp) (by go_simp) (by go_simp) (by go_simp) (by simp)
  have hz : w.heap.size + 1 ≤ (w.alloc (.cells #[.slice A G.length c, .slice B T.length d0] 31)).heap.size := by simp
  cases hs : setB G T
  · have HE := Lib.hid (tw_no (d := d) (g := g) hs)
    have HS := Lib.hid hs
    clear hs
    go_enter Try.func30, Try.ntmps30
    go_wp2_with fail
    generalize (w.alloc (.cells #[.slice A G.length c, .slice B T.length d0] 31)) = W0 at *
    refine (c_l02Ok _ _ _ _ _ G T sv _ B0 (HH.out.new n0) hg ht).mono ?_
    rintro e w1 ⟨rfl, n1⟩
    rw [HS.out]
    have N1 := n0.step n1
    have B1 := B0.new n1
    have hz1 : w.heap.size + 1 ≤ w1.heap.size := Nat.le_trans hz n1.size
    have ⟨⟨x0, y0⟩, _, l0⟩ := B1.at2
    go_wp2
    go_ret2
    obtain ⟨e1, e2⟩ := HE.out
    rw [e1, e2]
    exact ⟨_, rfl, own_nil1 _ _ _ (Nat.le_refl _) _, N1⟩
  have HS := Lib.hid hs
  have ⟨i1, i2, i3, i4⟩ := set_in hs
  cases qd : inB d 0 3
  · have HE := Lib.hid (tw_two (d := d) (g := g) hs (by rw [qd]; rfl))
    have Qd := Lib.hid qd
    clear qd hs
    go_enter Try.func30, Try.ntmps30
    go_wp2_with fail
    generalize (w.alloc (.cells #[.slice A G.length c, .slice B T.length d0] 31)) = W0 at *
    refine (c_l02Ok _ _ _ _ _ G T sv _ B0 (HH.out.new n0) hg ht).mono ?_
    rintro e w1 ⟨rfl, n1⟩
    rw [HS.out]
    have N1 := n0.step n1
    have B1 := B0.new n1
    have hz1 : w.heap.size + 1 ≤ w1.heap.size := Nat.le_trans hz n1.size
    have ⟨⟨x0, y0⟩, _, l0⟩ := B1.at2
    go_wp2_with (first | (go_at_call 65; refine (c_l01Dir _ _).mono ?_; rintro e w8 ⟨rfl, rfl⟩; rw [Qd.out]) | (go_at_call 76; refine (c_l00In _ _ _ _).mono ?_; rintro e w8 ⟨rfl, rfl⟩; skip))
    go_ret2
    obtain ⟨e1, e2⟩ := HE.out
    rw [e1, e2]
    exact ⟨_, rfl, own_nil1 _ _ _ (Nat.le_refl _) _, N1⟩
  have Qd := Lib.hid qd
  cases qg : inB g 0 G.length
  · have HE := Lib.hid (tw_two (d := d) (g := g) hs (by rw [qd, qg]; rfl))
    have Qg := Lib.hid qg
    clear qd qg hs
    go_enter Try.func30, Try.ntmps30
    go_wp2_with fail
    generalize (w.alloc (.cells #[.slice A G.length c, .slice B T.length d0] 31)) = W0 at *
    refine (c_l02Ok _ _ _ _ _ G T sv _ B0 (HH.out.new n0) hg ht).mono ?_
    rintro e w1 ⟨rfl, n1⟩
    rw [HS.out]
    have N1 := n0.step n1
    have B1 := B0.new n1
    have hz1 : w.heap.size + 1 ≤ w1.heap.size := Nat.le_trans hz n1.size
    have ⟨⟨x0, y0⟩, _, l0⟩ := B1.at2
    go_wp2_with (first | (go_at_call 65; refine (c_l01Dir _ _).mono ?_; rintro e w8 ⟨rfl, rfl⟩; rw [Qd.out]) | (go_at_call 76; refine (c_l00In _ _ _ _).mono ?_; rintro e w8 ⟨rfl, rfl⟩; rw [Qg.out]))
    go_ret2
    obtain ⟨e1, e2⟩ := HE.out
    rw [e1, e2]
    exact ⟨_, rfl, own_nil1 _ _ _ (Nat.le_refl _) _, N1⟩
  have HE := Lib.hid (tw_yes (d := d) (g := g) hs (by rw [qd, qg]; rfl))
  have Qg := Lib.hid qg
  obtain ⟨dn, rfl⟩ : ∃ n : Nat, d = (n : Int) := ⟨d.toNat, by have := inB_iff.1 qd; omega⟩
  have hdl : dn < 4 := by have := inB_iff.1 qd; omega
  have p2 : (0 : Int) ≤ (dn : Int) := by omega
  have HI := Lib.hid i4
  clear qd qg hs i4
  go_enter Try.func30, Try.ntmps30
  go_wp2_with fail
  generalize (w.alloc (.cells #[.slice A G.length c, .slice B T.length d0] 31)) = W0 at *
  refine (c_l02Ok _ _ _ _ _ G T sv _ B0 (HH.out.new n0) hg ht).mono ?_
  rintro e w1 ⟨rfl, n1⟩
  rw [HS.out]
  have N1 := n0.step n1
  have B1 := B0.new n1
  have hz1 : w.heap.size + 1 ≤ w1.heap.size := Nat.le_trans hz n1.size
  have ⟨⟨x0, y0⟩, _, l0⟩ := B1.at2
  go_wp2_with (first | (go_at_call 65; refine (c_l01Dir _ _).mono ?_; rintro e w8 ⟨rfl, rfl⟩; rw [Qd.out]) | (go_at_call 76; refine (c_l00In _ _ _ _).mono ?_; rintro e w8 ⟨rfl, rfl⟩; rw [Qg.out]))
  go_loopw [8, 9] (fun v i wr => ∃ k : Nat, k ≤ T.length ∧ i = .int .i64 k ∧ wr.ownsRow w1.heap.size 2 1 v (pickN (twP T dn g) k).length ((pickN (twP T dn g) k).map (Value.int .i64)) ∧ New w1 wr) (fun _ i _ => T.length - (intOf i).toNat)
  case atStart => exact ⟨0, Nat.zero_le _, rfl, World.ownsRow_made w1 #[] 0 (Nat.le_refl _) (by omega) rfl, (New.same _).box _⟩
  case round =>
    obtain ⟨k, hk, rfl, hown, hN⟩ := hrel
    clear x0 y0 l0
    have ⟨⟨bx0, by0⟩, _, bl0⟩ := (B1.new hN).at2
    obtain ⟨Ar, cr, rfl⟩ := own_sl hown
    by_cases hlt : k < T.length
    · obtain ⟨b, off, hAe⟩ := HB.out (by omega)
      subst hAe
      have p0 : (0 : Int) ≤ (k : Int) := by omega
      have p1 : (k : Int) < (T.length : Int) := by omega
      have hd4 : dn < T[k].2.length := by have := (HI.out k hlt).1; omega
      have p3 : (dn : Int) < (T[k].2.length : Int) := by omega
      have hpl := pickN_len (twP T dn g) k
      have HW := Lib.hid (show twP T dn g k = decide (T[k].2[dn] = g) by unfold twP; rw [Int.toNat_natCast, sdV_at hlt hd4])
      obtain ⟨bs, os, m, ⟨z1, bw⟩, u0, ul⟩ := rd_side HH.out.tiles (N1.step hN) rfl hlt hd4
      have hz2 : w1.heap.size ≤ wr.heap.size := hN.size
      by_cases hq : T[k].2[dn] = g
      · have g2 : (T[k].2[dn] == g) = true := by simpa using hq
        have HP := Lib.hid (show twP T dn g k = true by rw [HW.out]; simpa using hq)
        clear hq
        go_wp2_with (at_builtin; refine wpList_app1 rfl _ _ rfl row_int64 _ w1.heap.size hown rfl [.int .i64 (k : Int)] rfl rfl (by simp [Value.oneCell']) (by unfold maxLen; omega) (by omega) hz2 ?_; intro v1 w3 hown1 hb3 _ _)
        have hN3 : New w1 w3 := hN.trans (hb3.mono (by omega))
        go_roundw
        case rel => exact ⟨k + 1, by omega, by go_num, pick_step HP.out hown1, hN3⟩
        case measure => simp [intOf]; omega
      · have g2 : (T[k].2[dn] == g) = false := by simpa using hq
        have HP := Lib.hid (show twP T dn g k = false by rw [HW.out]; simpa using hq)
        clear hq
        go_wp2
        go_roundw
        case rel => exact ⟨k + 1, by omega, by go_num, by rw [pickN_no HP.out]; exact hown, hN⟩
        case measure => simp [intOf]; omega
    · have hk' : k = T.length := by omega
      subst hk'
      go_wp2
      go_ret2
      obtain ⟨e1, e2⟩ := HE.out
      rw [e1, e2]
      exact ⟨_, rfl, (Own.of hown).wide (by omega) (Nat.le_refl _) (Nat.le_refl _), N1.step hN⟩

set_option maxRecDepth 20000 in
set_option maxHeartbeats 4000000 in
theorem c_implTilesWith (lo hi : Nat) (gv tv : Value) (G : List (ByteArray × Int)) (T : List (ByteArray × List Int)) (sv : List Value) (d g : Int) (w : World) (h : RdS w lo hi gv tv G T sv) (hg : ∀ g ∈ G, g.1.size ≤ maxLen) (ht : ∀ t ∈ T, t.1.size ≤ maxLen) :
    Calls Try.prog 31 #[.agg #[gv, tv], .int .i64 d, .int .i64 g] w (GivesRowCode w 2 1 (twL G T d g).length ((twL G T d g).map (Value.int .i64)) (twC G T d g)) := by
  obtain ⟨A, c, B, d0, rfl, rfl⟩ := h.form
  have HH := Lib.hid h
  obtain ⟨A', c', e1, hm, ha⟩ := rd_form h.glues
  obtain ⟨B', d', e2, hm', hb⟩ := rd_form h.tiles.outer
  obtain ⟨rfl, rfl⟩ : A = A' ∧ c = c' := by simpa using e1
  obtain ⟨rfl, rfl⟩ : B = B' ∧ d0 = d' := by simpa using e2
  have HB := Lib.hid hb
  clear e1 e2 h ha hb
  have n0 : New w (w.alloc (.cells #[.slice A G.length c, .slice B T.length d0] 31)) := (New.same w).box _
  have B0 : BoxV (w.alloc (.cells #[.slice A G.length c, .slice B T.length d0] 31)) w.heap.size [.slice A G.length c, .slice B T.length d0] := .two (by go_simp) (by go_simp) (by go_simp) (by go_simp) (by simp)
  have hz : w.heap.size + 1 ≤ (w.alloc (.cells #[.slice A G.length c, .slice B T.length d0] 31)).heap.size := by simp
  cases hs : setB G T
  · have HE := Lib.hid (tw_no (d := d) (g := g) hs)
    have HS := Lib.hid hs
    clear hs
    go_enter Try.func31, Try.ntmps31
    go_wp2_with fail
    generalize (w.alloc (.cells #[.slice A G.length c, .slice B T.length d0] 31)) = W0 at *
    refine (c_implValidSet _ _ _ _ G T sv _ (HH.out.new n0) hg ht).mono ?_
    rintro e w1 ⟨rfl, n1⟩
    rw [HS.out]
    have N1 := n0.step n1
    have B1 := B0.new n1
    have hz1 : w.heap.size + 1 ≤ w1.heap.size := Nat.le_trans hz n1.size
    have ⟨⟨x0, y0⟩, _, l0⟩ := B1.at2
    go_wp2
    go_ret2
    obtain ⟨e1, e2⟩ := HE.out
    rw [e1, e2]
    exact ⟨_, rfl, own_nil1 _ _ _ (Nat.le_refl _) _, N1⟩
  have HS := Lib.hid hs
  have ⟨i1, i2, i3, i4⟩ := set_in hs
  cases qd : inB d 0 3
  · have HE := Lib.hid (tw_two (d := d) (g := g) hs (by rw [qd]; rfl))
    have Qd := Lib.hid qd
    clear qd hs
    go_enter Try.func31, Try.ntmps31
    go_wp2_with fail
    generalize (w.alloc (.cells #[.slice A G.length c, .slice B T.length d0] 31)) = W0 at *
    refine (c_implValidSet _ _ _ _ G T sv _ (HH.out.new n0) hg ht).mono ?_
    rintro e w1 ⟨rfl, n1⟩
    rw [HS.out]
    have N1 := n0.step n1
    have B1 := B0.new n1
    have hz1 : w.heap.size + 1 ≤ w1.heap.size := Nat.le_trans hz n1.size
    have ⟨⟨x0, y0⟩, _, l0⟩ := B1.at2
    go_wp2_with (first | (go_at_call 68; refine (c_isDir _ _).mono ?_; rintro e w8 ⟨rfl, rfl⟩; rw [Qd.out]) | (go_at_call 55; refine (c_within _ _ _ _).mono ?_; rintro e w8 ⟨rfl, rfl⟩; skip))
    go_ret2
    obtain ⟨e1, e2⟩ := HE.out
    rw [e1, e2]
    exact ⟨_, rfl, own_nil1 _ _ _ (Nat.le_refl _) _, N1⟩
  have Qd := Lib.hid qd
  cases qg : inB g 0 G.length
  · have HE := Lib.hid (tw_two (d := d) (g := g) hs (by rw [qd, qg]; rfl))
    have Qg := Lib.hid qg
    clear qd qg hs
    go_enter Try.func31, Try.ntmps31
    go_wp2_with fail
    generalize (w.alloc (.cells #[.slice A G.length c, .slice B T.length d0] 31)) = W0 at *
    refine (c_implValidSet _ _ _ _ G T sv _ (HH.out.new n0) hg ht).mono ?_
    rintro e w1 ⟨rfl, n1⟩
    rw [HS.out]
    have N1 := n0.step n1
    have B1 := B0.new n1
    have hz1 : w.heap.size + 1 ≤ w1.heap.size := Nat.le_trans hz n1.size
    have ⟨⟨x0, y0⟩, _, l0⟩ := B1.at2
    go_wp2_with (first | (go_at_call 68; refine (c_isDir _ _).mono ?_; rintro e w8 ⟨rfl, rfl⟩; rw [Qd.out]) | (go_at_call 55; refine (c_within _ _ _ _).mono ?_; rintro e w8 ⟨rfl, rfl⟩; rw [Qg.out]))
    go_ret2
    obtain ⟨e1, e2⟩ := HE.out
    rw [e1, e2]
    exact ⟨_, rfl, own_nil1 _ _ _ (Nat.le_refl _) _, N1⟩
  have HE := Lib.hid (tw_yes (d := d) (g := g) hs (by rw [qd, qg]; rfl))
  have Qg := Lib.hid qg
  obtain ⟨dn, rfl⟩ : ∃ n : Nat, d = (n : Int) := ⟨d.toNat, by have := inB_iff.1 qd; omega⟩
  have hdl : dn < 4 := by have := inB_iff.1 qd; omega
  have p2 : (0 : Int) ≤ (dn : Int) := by omega
  have HI := Lib.hid i4
  clear qd qg hs i4
  go_enter Try.func31, Try.ntmps31
  go_wp2_with fail
  generalize (w.alloc (.cells #[.slice A G.length c, .slice B T.length d0] 31)) = W0 at *
  refine (c_implValidSet _ _ _ _ G T sv _ (HH.out.new n0) hg ht).mono ?_
  rintro e w1 ⟨rfl, n1⟩
  rw [HS.out]
  have N1 := n0.step n1
  have B1 := B0.new n1
  have hz1 : w.heap.size + 1 ≤ w1.heap.size := Nat.le_trans hz n1.size
  have ⟨⟨x0, y0⟩, _, l0⟩ := B1.at2
  go_wp2_with (first | (go_at_call 68; refine (c_isDir _ _).mono ?_; rintro e w8 ⟨rfl, rfl⟩; rw [Qd.out]) | (go_at_call 55; refine (c_within _ _ _ _).mono ?_; rintro e w8 ⟨rfl, rfl⟩; rw [Qg.out]))
  go_loopw [8, 30] (fun v i wr => ∃ k : Nat, k ≤ T.length ∧ i = .int .i64 k ∧ wr.ownsRow w1.heap.size 2 1 v (pickN (twP T dn g) k).length ((pickN (twP T dn g) k).map (Value.int .i64)) ∧ New w1 wr) (fun _ i _ => T.length - (intOf i).toNat)
  case atStart => exact ⟨0, Nat.zero_le _, rfl, World.ownsRow_nil _ _ _ _, New.same _⟩
  case round =>
    obtain ⟨k, hk, rfl, hown, hN⟩ := hrel
    clear x0 y0 l0
    have ⟨⟨bx0, by0⟩, _, bl0⟩ := (B1.new hN).at2
    obtain ⟨Ar, cr, rfl⟩ := own_sl hown
    by_cases hlt : k < T.length
    · obtain ⟨b, off, hAe⟩ := HB.out (by omega)
      subst hAe
      have p0 : (0 : Int) ≤ (k : Int) := by omega
      have p1 : (k : Int) < (T.length : Int) := by omega
      have hd4 : dn < T[k].2.length := by have := (HI.out k hlt).1; omega
      have p3 : (dn : Int) < (T[k].2.length : Int) := by omega
      have hpl := pickN_len (twP T dn g) k
      have HW := Lib.hid (show twP T dn g k = decide (T[k].2[dn] = g) by unfold twP; rw [Int.toNat_natCast, sdV_at hlt hd4])
      obtain ⟨At, mt, ⟨z0, z1⟩, bw, rx, ex⟩ := rd_tl HH.out.tiles (N1.step hN) rfl hlt
      obtain ⟨bs, os, hAt⟩ : ∃ b off, At = some ⟨b, off, none⟩ := by
        obtain ⟨_, _, e, _, hs⟩ := rd_form rx
        obtain ⟨b, off, hb⟩ := hs (by omega)
        exact ⟨b, off, by cases e; exact hb⟩
      subst hAt
      obtain ⟨u0, ul⟩ := rd_i rx (New.same _) rfl hd4
      have n7 : New wr (wr.alloc (.cells #[.string T[k].1, .slice (some ⟨bs, os, none⟩) T[k].2.length mt] 78)) := (New.same wr).box _
      have D7 : BoxV (wr.alloc (.cells #[.string T[k].1, .slice (some ⟨bs, os, none⟩) T[k].2.length mt] 78)) wr.heap.size [.string T[k].1, .slice (some ⟨bs, os, none⟩) T[k].2.length mt] := .two (by go_simp) (by go_simp) (by go_simp) (by go_simp) (by simp)
      have v0 := (n7.cell (p := ⟨bs, os + dn, none⟩) ul).trans u0
      go_upto_region 9 with fail
      have hown7 := ownsRow_new hown n7
      have hN7 := hN.step n7
      clear z0 z1 bw rx ex u0 bx0 by0 bl0
      have vl := Nat.lt_of_lt_of_le ul n7.size
      generalize (wr.alloc (.cells #[.string T[k].1, .slice (some ⟨bs, os, none⟩) T[k].2.length mt] 78)) = W7 at *
      have ⟨⟨t0, t1⟩, _, tl⟩ := D7.at2
      have hz2 : w1.heap.size ≤ W7.heap.size := hN7.size
      by_cases hq : T[k].2[dn] = g
      · have g2 : (T[k].2[dn] == g) = true := by simpa using hq
        have HP := Lib.hid (show twP T dn g k = true by rw [HW.out]; simpa using hq)
        clear hq
        go_wp2_with (at_builtin; refine wpList_app1 rfl _ _ rfl row_int64 _ w1.heap.size hown7 rfl [.int .i64 (k : Int)] rfl rfl (by simp [Value.oneCell']) (by unfold maxLen; omega) (by omega) hz2 ?_; intro v1 w3 hown1 hb3 _ _)
        have hN3 : New w1 w3 := hN7.trans (hb3.mono (by omega))
        go_roundw
        case rel => exact ⟨k + 1, by omega, by go_num, pick_step HP.out hown1, hN3⟩
        case measure => simp [intOf]; omega
      · have g2 : (T[k].2[dn] == g) = false := by simpa using hq
        have HP := Lib.hid (show twP T dn g k = false by rw [HW.out]; simpa using hq)
        clear hq
        go_wp2
        go_roundw
        case rel => exact ⟨k + 1, by omega, by go_num, by rw [pickN_no HP.out]; exact hown7, hN7⟩
        case measure => simp [intOf]; omega
    · have hk' : k = T.length := by omega
      subst hk'
      go_wp2
      go_ret2
      obtain ⟨e1, e2⟩ := HE.out
      rw [e1, e2]
      exact ⟨_, rfl, (Own.of hown).wide (by omega) (Nat.le_refl _) (Nat.le_refl _), N1.step hN⟩

def metB (T : List (ByteArray × List Int)) (d : Nat) (g : Int) : Bool := T.any fun u => decide (u.2.getD (opN d) 0 = g)
/-- is the side number q (four to a tile) lonely -/
def lonB (T : List (ByteArray × List Int)) (q : Nat) : Bool := decide (sdV T (q / 4) (q % 4) ≠ 0) && !metB T (q % 4) (sdV T (q / 4) (q % 4))
def lonN (T : List (ByteArray × List Int)) (m : Nat) : Nat := ((List.range m).filter (lonB T)).length
theorem lonN_yes {T : List (ByteArray × List Int)} {m : Nat} (h : lonB T m = true) : lonN T (m + 1) = lonN T m + 1 := by simp [lonN, List.range_succ, h]
theorem lonN_no {T : List (ByteArray × List Int)} {m : Nat} (h : lonB T m = false) : lonN T (m + 1) = lonN T m := by simp [lonN, List.range_succ, h]
theorem lonN_le (T : List (ByteArray × List Int)) (m : Nat) : lonN T m ≤ m := by
  have := List.length_filter_le (lonB T) (List.range m)
  simpa [lonN] using this
theorem lonB_at {T : List (ByteArray × List Int)} {i d : Nat} (hd : d < 4) (hi : i < T.length) (hl : d < T[i].2.length) : lonB T (4 * i + d) = (decide (T[i].2[d] ≠ 0) && !metB T d T[i].2[d]) := by
  have e1 : (4 * i + d) / 4 = i := by omega
  have e2 : (4 * i + d) % 4 = d := by omega
  unfold lonB
  rw [e1, e2, sdV_at hi hl]
def loV (G : List (ByteArray × Int)) (T : List (ByteArray × List Int)) : Int × Int := if setB G T then ((lonN T (4 * T.length) : Int), 0) else (0, 1)
theorem met_hit {T : List (ByteArray × List Int)} {d : Nat} {g : Int} {k : Nat} (hk : k < T.length) (h : T[k].2.getD (opN d) 0 = g) : metB T d g = true := List.any_eq_true.2 ⟨T[k], List.getElem_mem hk, by simpa using h⟩
theorem met_take {T : List (ByteArray × List Int)} {d : Nat} {g : Int} {k : Nat} (hk : k < T.length) : metB (T.take (k + 1)) d g = (metB (T.take k) d g || decide (T[k].2.getD (opN d) 0 = g)) := by
  unfold metB
  rw [List.take_succ_eq_append_getElem hk, List.any_append]
  simp
set_option maxRecDepth 20000 in
set_option maxHeartbeats 8000000 in
theorem c_specLonelySides (lo hi : Nat) (gv tv : Value) (G : List (ByteArray × Int)) (T : List (ByteArray × List Int)) (sv : List Value) (w : World) (h : RdS w lo hi gv tv G T sv) (hg : ∀ g ∈ G, g.1.size ≤ maxLen) (ht : ∀ t ∈ T, t.1.size ≤ maxLen) :
    Calls Try.prog 26 #[.agg #[gv, tv]] w fun e w' => e = .returned (ncV (loV G T)) ∧ New w w' := by
  obtain ⟨A, c, B, d0, rfl, rfl⟩ := h.form
  have HH := Lib.hid h
  obtain ⟨A', c', e1, hm, ha⟩ := rd_form h.glues
  obtain ⟨B', d', e2, hm', hb⟩ := rd_form h.tiles.outer
  obtain ⟨rfl, rfl⟩ : A = A' ∧ c = c' := by simpa using e1
  obtain ⟨rfl, rfl⟩ : B = B' ∧ d0 = d' := by simpa using e2
  have HB := Lib.hid hb
  clear e1 e2 h ha hb
  have n0 : New w (w.alloc (.cells #[.slice A G.length c, .slice B T.length d0] 31)) := (New.same w).box _
  have B0 : BoxV (w.alloc (.cells #[.slice A G.length c, .slice B T.length d0] 31)) w.heap.size [.slice A G.length c, .slice B T.length d0] := .two (by go_simp) (by go_simp) (by go_simp) (by go_simp) (by simp)
  have hz : w.heap.size + 1 ≤ (w.alloc (.cells #[.slice A G.length c, .slice B T.length d0] 31)).heap.size := by simp
  cases hs : setB G T
  · have E := Lib.hid (show loV G T = (0, 1) by simp [loV, hs])
    have HS := Lib.hid hs
    clear hs
    go_enter Try.func26, Try.ntmps26
    go_wp2_with fail
    generalize (w.alloc (.cells #[.slice A G.length c, .slice B T.length d0] 31)) = W0 at *
    refine (c_l02Ok _ _ _ _ _ G T sv _ B0 (HH.out.new n0) hg ht).mono ?_
    rintro e w1 ⟨rfl, n1⟩
    rw [HS.out]
    go_wp2
    go_ret2
    exact ⟨by rw [E.out]; rfl, n0.step n1⟩
  have E := Lib.hid (show loV G T = ((lonN T (4 * T.length) : Int), 0) by simp [loV, hs])
  have HS := Lib.hid hs
  have ⟨i1, i2, i3, i4⟩ := set_in hs
  have HI := Lib.hid i4
  clear hs i4
  go_enter Try.func26, Try.ntmps26
  go_wp2_with fail
  generalize (w.alloc (.cells #[.slice A G.length c, .slice B T.length d0] 31)) = W0 at *
  refine (c_l02Ok _ _ _ _ _ G T sv _ B0 (HH.out.new n0) hg ht).mono ?_
  rintro e w1 ⟨rfl, n1⟩
  rw [HS.out]
  have N1 := n0.step n1
  have B1 := B0.new n1
  clear B0 n0 n1
  go_wp2
  go_loopw [4, 5] (fun c i wr => ∃ k : Nat, k ≤ T.length ∧ i = .int .i64 k ∧ c = .int .i64 (lonN T (4 * k) : Nat) ∧ New w1 wr) (fun _ i _ => T.length - (intOf i).toNat)
  case atStart => exact ⟨0, Nat.zero_le _, rfl, rfl, New.same _⟩
  case round =>
    obtain ⟨k, hk, rfl, rfl, hN⟩ := hrel
    have ⟨⟨bx0, by0⟩, _, bl0⟩ := (B1.new hN).at2
    by_cases hlt : k < T.length
    · have p0 : (0 : Int) ≤ (k : Int) := by omega
      have p1 : (k : Int) < (T.length : Int) := by omega
      go_wp2
      clear bx0 by0 bl0
      go_loopw [4, 6] (fun c i wr => ∃ d : Nat, d ≤ 4 ∧ i = .int .i64 d ∧ c = .int .i64 (lonN T (4 * k + d) : Nat) ∧ New w1 wr) (fun _ i _ => 4 - (intOf i).toNat)
      case atStart => exact ⟨0, by omega, rfl, rfl, hN⟩
      case round =>
        obtain ⟨d, hd, rfl, rfl, hM⟩ := hrel
        have ⟨⟨bx0, by0⟩, _, bl0⟩ := (B1.new hM).at2
        by_cases hdl : d < 4
        · have r2 : (0 : Int) ≤ (d : Int) := by omega
          have r3 : (d : Int) < 4 := by omega
          have hd4 : d < T[k].2.length := by have := (HI.out k hlt).1; omega
          have r4 : (d : Int) < (T[k].2.length : Int) := by omega
          have HL := Lib.hid (lonB_at hdl hlt hd4)
          obtain ⟨b, off, hAe⟩ := HB.out (by omega)
          subst hAe
          obtain ⟨bs, os, m, ⟨z1, bw⟩, u0, ul⟩ := rd_side HH.out.tiles (N1.step hM) rfl hlt hd4
          go_wp2
          clear bx0 by0 bl0 z1 bw u0 ul
          go_loopw [8, 9] (fun q i wr => ∃ j : Nat, j ≤ T.length ∧ i = .int .i64 j ∧ q = .bool (T[k].2[d] == 0 || metB (T.take j) d T[k].2[d]) ∧ New w1 wr) (fun _ i _ => T.length - (intOf i).toNat)
          case atStart => exact ⟨0, by omega, rfl, by simp [metB], hM⟩
          case round =>
            obtain ⟨j, hj, rfl, rfl, hL⟩ := hrel
            have ⟨⟨bx0, by0⟩, _, bl0⟩ := (B1.new hL).at2
            by_cases hjl : j < T.length
            · have s0 : (0 : Int) ≤ (j : Int) := by omega
              have s1 : (j : Int) < (T.length : Int) := by omega
              have hoj : opN d < T[j].2.length := by have := (HI.out j hjl).1; have : opN d < 4 := Nat.mod_lt _ (by omega); omega
              have s2 : (0 : Int) ≤ (opN d : Int) := by omega
              have s3 : (opN d : Int) < (T[j].2.length : Int) := by omega
              obtain ⟨bs', os', m', ⟨z1, bw⟩, u0, ul⟩ := rd_side HH.out.tiles (N1.step hL) rfl hjl hoj
              have HT := Lib.hid (met_take (d := d) (g := T[k].2[d]) hjl)
              have HG := Lib.hid (show T[j].2.getD (opN d) 0 = T[j].2[opN d] by simp [List.getD_eq_getElem?_getD, hoj])
              have lb := Later.cell by0 bl0
              have lz := Later.cell z1 bw
              have lu := Later.cell u0 ul
              have C1 := Lib.hid (fun (w : World) => c_specOpposite d hdl w)
              cases hq : (T[k].2[d] == 0 || metB (T.take j) d T[k].2[d])
              · have HR := Lib.hid (show (T[k].2[d] == 0 || metB (T.take (j + 1)) d T[k].2[d]) = (T[j].2[opN d] == T[k].2[d]) by
                  rw [HT.out, HG.out, ← Bool.or_assoc, hq, Bool.false_or]
                  rfl)
                clear hq
                go_upto_region 15 with fail
                (refine wp_region_later (by kernel_rfl) (by kernel_rfl) ?_; (repeat (go_big_quiet_step ((first | (go_at_call 70; exact later_same (C1.out _)))))); refine wpQuiet_nil ?_; intro wq hw'; obtain ⟨⟨wz, nq⟩, hwz⟩ := hw'; have hwz' : wq = wz := hwz; subst hwz'; clear hwz)
                clear lb lz lu
                go_wp2
                go_roundw
                case rel => exact ⟨j + 1, by omega, by go_num, by rw [HR.out], hL.step nq⟩
                case measure => simp [intOf]; omega
              · have HR := Lib.hid (show (T[k].2[d] == 0 || metB (T.take (j + 1)) d T[k].2[d]) = true by
                  rw [HT.out, ← Bool.or_assoc, hq, Bool.true_or])
                clear hq
                go_upto_region 15 with fail
                (refine wp_region_later (by kernel_rfl) (by kernel_rfl) ?_; (repeat (go_big_quiet_step (fail))); refine wpQuiet_nil ?_; intro wq hw'; obtain ⟨⟨wz, nq⟩, hwz⟩ := hw'; have hwz' : wq = wz := hwz; subst hwz'; clear hwz)
                clear lb lz lu
                go_wp2
                go_roundw
                case rel => exact ⟨j + 1, by omega, by go_num, by rw [HR.out], hL.step nq⟩
                case measure => simp [intOf]; omega
            · have hj' : j = T.length := by omega
              subst hj'
              have HT := Lib.hid (show T.take T.length = T from List.take_length)
              have hc := lonN_le T (4 * k + d)
              cases hq : (T[k].2[d] == 0 || metB T d T[k].2[d])
              · have HR := Lib.hid (lonN_yes (T := T) (m := 4 * k + d) (by
                  rw [HL.out]
                  simp only [Bool.or_eq_false_iff] at hq
                  rw [hq.2]
                  have h0 := hq.1
                  simp at h0
                  simp [h0]))
                have HQ := Lib.hid hq
                clear hq
                rw [HT.out, HQ.out]
                go_wp2
                go_roundw
                case rel => exact ⟨d + 1, by omega, by go_num, by rw [show 4 * k + (d + 1) = 4 * k + d + 1 by omega, HR.out]; go_num, hL⟩
                case measure => simp [intOf]; omega
              · have HR := Lib.hid (lonN_no (T := T) (m := 4 * k + d) (by
                  rw [HL.out]
                  cases h0 : (T[k].2[d] == 0)
                  · rw [h0, Bool.false_or] at hq
                    rw [hq]; simp
                  · have h1 : T[k].2[d] = 0 := by simpa using h0
                    simp [h1]))
                have HQ := Lib.hid hq
                clear hq
                rw [HT.out, HQ.out]
                go_wp2
                go_roundw
                case rel => exact ⟨d + 1, by omega, by go_num, by rw [show 4 * k + (d + 1) = 4 * k + d + 1 by omega, HR.out], hL⟩
                case measure => simp [intOf]; omega
        · have hd' : d = 4 := by omega
          subst hd'
          go_wp2
          go_roundw
          case rel => exact ⟨k + 1, by omega, by go_num, by rw [show 4 * (k + 1) = 4 * k + 4 by omega], hM⟩
          case measure => simp [intOf]; omega
    · have hk' : k = T.length := by omega
      subst hk'
      go_wp2
      go_ret2
      exact ⟨by rw [E.out]; rfl, N1.step hN⟩

end Go.Proofs.Ytailhgleiefbkaa
