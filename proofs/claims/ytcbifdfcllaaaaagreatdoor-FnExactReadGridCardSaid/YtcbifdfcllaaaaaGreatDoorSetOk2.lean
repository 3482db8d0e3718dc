/- The test of a set in plain words, and the contract of the reference's test. -/
import Derived.Test.YtcbifdfcllaaaaaGreatDoorSameSet
import Derived.Test.YtcbifdfcllaaaaaGreatDoorName
import Derived.Maps.OwnOps
import Derived.Maps.OwnSet
import Derived.Maps.Views
namespace Go.Proofs.YtcbifdfcllaaaaaGreatDoor
open Go.RowKit Go.Deep
set_option linter.unusedVariables false
set_option linter.unusedSimpArgs false

/-- has the element's name not come before -/
def newAt {α : Type} (xs : List (ByteArray × α)) (k : Nat) (s : ByteArray) : Bool := !(xs.take k).any fun g => decide (g.1 = s)
def nmP {α : Type} (s : ByteArray) : (ByteArray × α) → Bool := fun g => decide (g.1 = s)
theorem newAt_idx {α : Type} {xs : List (ByteArray × α)} {k : Nat} (hk : k < xs.length) : decide (idxF (nmP xs[k].1) xs = (k : Int)) = newAt xs k xs[k].1 := by
  unfold newAt
  cases h : (xs.take k).any fun g => decide (g.1 = xs[k].1)
  · refine decide_eq_true (idxF_hit _ _ k hk (fun j hj hjk => ?_) (by simp [nmP]))
    have := (List.any_eq_false.1 h) xs[j] (List.mem_take_iff_getElem.2 ⟨j, by omega, rfl⟩)
    simpa [nmP] using this
  · refine decide_eq_false (fun e => ?_)
    obtain ⟨g, hg, hp⟩ := List.any_eq_true.1 h
    obtain ⟨j, hj, rfl⟩ := List.mem_take_iff_getElem.1 hg
    have hjl : j < xs.length := by omega
    have hjk : j < k := by omega
    -- the first place is at most j
    have hle : ∀ (ys : List (ByteArray × α)) (j : Nat) (hj : j < ys.length) (p : ByteArray × α → Bool), p ys[j] = true → idxF p ys ≤ (j : Int) := by
      intro ys
      induction ys with
      | nil => intro j hj; simp at hj
      | cons y r ih =>
        intro j hj p hp
        simp only [idxF]
        split
        · omega
        · rename_i hy
          cases j with
          | zero => exact absurd (by simpa using hp) hy
          | succ j =>
            have := ih j (by simpa using hj) p (by simpa using hp)
            split <;> omega
    have := hle xs j hjl (nmP xs[k].1) (by simpa [nmP] using hp)
    omega

/-- a glue of a valid set -/
def gOk (G : List (ByteArray × Int)) (k : Nat) : Bool := nameB (G.getD k default).1 && (inB (G.getD k default).2 1 4 && newAt G k (G.getD k default).1)
/-- a tile of a valid set with n glues -/
def tOk (n : Nat) (T : List (ByteArray × List Int)) (k : Nat) : Bool := nameB (T.getD k default).1 && (decide ((T.getD k default).2.length = 4) && (newAt T k (T.getD k default).1 && (T.getD k default).2.all fun g => inB g 0 n))
def gsOk (G : List (ByteArray × Int)) : Bool := (List.range G.length).all (gOk G)
def tsOk (n : Nat) (T : List (ByteArray × List Int)) : Bool := (List.range T.length).all (tOk n T)
/-- a valid set -/
def setB (G : List (ByteArray × Int)) (T : List (ByteArray × List Int)) : Bool := (decide (G.length ≤ 200) && inB T.length 1 160) && (gsOk G && tsOk G.length T)
theorem gOk_at {G : List (ByteArray × Int)} {k : Nat} (hk : k < G.length) : gOk G k = (nameB G[k].1 && (inB G[k].2 1 4 && newAt G k G[k].1)) := by
  simp [gOk, List.getD_eq_getElem?_getD, hk]
theorem tOk_at {n : Nat} {T : List (ByteArray × List Int)} {k : Nat} (hk : k < T.length) : tOk n T k = (nameB T[k].1 && (decide (T[k].2.length = 4) && (newAt T k T[k].1 && T[k].2.all fun g => inB g 0 n))) := by
  simp [tOk, List.getD_eq_getElem?_getD, hk]
theorem rng_hit {p : Nat → Bool} {n k : Nat} (hk : k < n) (h : p k = false) : (List.range n).all p = false := by
  cases he : (List.range n).all p
  · rfl
  · rw [List.all_eq_true.1 he k (List.mem_range.2 hk)] at h; cases h
theorem rng_miss {p : Nat → Bool} {n : Nat} (h : ∀ k, k < n → p k = true) : (List.range n).all p = true := List.all_eq_true.2 fun k hk => h k (List.mem_range.1 hk)
theorem more_ {p : Nat → Bool} {k : Nat} (h : ∀ j, j < k → p j = true) (hk : p k = true) : ∀ j, j < k + 1 → p j = true := by
  intro j hj
  by_cases e : j = k
  · subst e; exact hk
  · exact h j (by omega)
theorem set_big {G : List (ByteArray × Int)} {T : List (ByteArray × List Int)} (h : (decide (G.length ≤ 200) && inB T.length 1 160) = false) : setB G T = false := by simp [setB, h]
theorem set_g {G : List (ByteArray × Int)} {T : List (ByteArray × List Int)} {k : Nat} (hk : k < G.length) (h : gOk G k = false) : setB G T = false := by simp [setB, gsOk, rng_hit hk h]
theorem set_t {G : List (ByteArray × Int)} {T : List (ByteArray × List Int)} {k : Nat} (hk : k < T.length) (h : tOk G.length T k = false) : setB G T = false := by simp [setB, tsOk, rng_hit hk h]
theorem set_yes {G : List (ByteArray × Int)} {T : List (ByteArray × List Int)} (h : (decide (G.length ≤ 200) && inB T.length 1 160) = true) (hg : ∀ k, k < G.length → gOk G k = true) (ht : ∀ k, k < T.length → tOk G.length T k = true) : setB G T = true := by
  simp only [setB, gsOk, tsOk, rng_miss hg, rng_miss ht, h, Bool.and_true]
/-- what a valid set keeps to -/
theorem set_in {G : List (ByteArray × Int)} {T : List (ByteArray × List Int)} (h : setB G T = true) : G.length ≤ 200 ∧ 1 ≤ T.length ∧ T.length ≤ 160 ∧ ∀ k (hk : k < T.length), T[k].2.length = 4 ∧ ∀ d (hd : d < T[k].2.length), 0 ≤ T[k].2[d] ∧ T[k].2[d] ≤ G.length := by
  simp only [setB, Bool.and_eq_true, decide_eq_true_eq] at h
  obtain ⟨⟨h1, h2⟩, _, h4⟩ := h
  obtain ⟨a, b⟩ := inB_iff.1 h2
  refine ⟨h1, by omega, by omega, fun k hk => ?_⟩
  have := List.all_eq_true.1 h4 k (List.mem_range.2 hk)
  rw [tOk_at hk] at this
  simp only [Bool.and_eq_true, decide_eq_true_eq] at this
  refine ⟨this.2.1, fun d hd => ?_⟩
  have := List.all_eq_true.1 this.2.2.2 T[k].2[d] (List.getElem_mem hd)
  exact inB_iff.1 this
theorem set_str {G : List (ByteArray × Int)} {T : List (ByteArray × List Int)} (h : setB G T = true) {k : Nat} (hk : k < G.length) : 1 ≤ G[k].2 ∧ G[k].2 ≤ 4 := by
  simp only [setB, Bool.and_eq_true] at h
  have := List.all_eq_true.1 h.2.1 k (List.mem_range.2 hk)
  rw [gOk_at hk] at this
  simp only [Bool.and_eq_true] at this
  exact inB_iff.1 this.2.1
theorem all_in {zs : List Int} {n : Nat} (h : ∀ d (hd : d < zs.length), inB zs[d] 0 n = true) : (zs.all fun g => inB g 0 n) = true := List.all_eq_true.2 fun g hg => by
  obtain ⟨d, hd, rfl⟩ := List.getElem_of_mem hg
  exact h d hd
theorem all_out {zs : List Int} {n d : Nat} (hd : d < zs.length) (h : inB zs[d] 0 n = false) : (zs.all fun g => inB g 0 n) = false := by
  cases he : zs.all fun g => inB g 0 n
  · rfl
  · rw [List.all_eq_true.1 he zs[d] (List.getElem_mem hd)] at h; cases h

set_option maxHeartbeats 1000000 in
theorem c_l02Glue (b0 lo hi : Nat) (gv tv : Value) (G : List (ByteArray × Int)) (T : List (ByteArray × List Int)) (sv : List Value) (s : ByteArray) (w : World) (B0 : BoxV w b0 [gv, tv]) (h : RdS w lo hi gv tv G T sv) (hn : G.length ≤ 1048576) :
    Calls Tryz.prog 37 #[.pointer (some ⟨b0, 0, none⟩), .string s] w fun e w' => e = .returned (.int .i64 (idxF (nmP s) G + 1)) ∧ New w w' := by
  have HH := Lib.hid h
  have HB := Lib.hid B0
  obtain ⟨A, c, B, d, rfl, rfl⟩ := h.form
  have ha := rd_form h.glues
  have hb := rd_form h.tiles.outer
  obtain ⟨A', c', e1, _, ha⟩ := ha
  obtain ⟨B', d', e2, _, hb⟩ := hb
  obtain ⟨rfl, rfl⟩ : A = A' ∧ c = c' := by simpa using e1
  obtain ⟨rfl, rfl⟩ : B = B' ∧ d = d' := by simpa using e2
  have HA := Lib.hid ha
  clear ha hb e1 e2 h B0
  go_enter Tryz.func37, Tryz.ntmps37
  go_wp2
  go_loopw [5] (fun i wr => ∃ k : Nat, k ≤ G.length ∧ i = .int .i64 k ∧ Hid (∀ j (hj : j < G.length), j < k → nmP s G[j] = false) ∧ New w wr) (fun i _ => G.length - (intOf i).toNat)
  case atStart => exact ⟨0, Nat.zero_le _, rfl, Lib.hid (fun j _ hj => absurd hj (Nat.not_lt_zero _)), New.same _⟩
  case round =>
    obtain ⟨k, hk, rfl, HJ, hN⟩ := hrel
    have ⟨⟨bx0, by0⟩, _, bl0⟩ := (HB.out.new hN).at2
    by_cases hlt : k < G.length
    · obtain ⟨b, off, hAe⟩ := HA.out (by omega)
      subst hAe
      have p0 : (0 : Int) ≤ (k : Int) := by omega
      have p1 : (k : Int) < (G.length : Int) := by omega
      obtain ⟨⟨x0, x1⟩, bw⟩ := rd_gl HH.out.glues hN rfl hlt
      by_cases hp : G[k].1 = s
      · have g0 := sEq_yes hp
        have HP := Lib.hid (idxF_hit (nmP s) G k hlt HJ.out (by simp [nmP, hp]))
        clear hp
        go_wp2
        go_ret
        exact ⟨congrArg (fun q => Ending.returned (.int .i64 q)) (by rw [HP.out]), hN⟩
      · have g0 := sEq_no hp
        have HP := Lib.hid (show nmP s G[k] = false by simp [nmP, hp])
        clear hp
        go_wp2
        go_roundw
        case rel =>
          refine ⟨k + 1, by omega, by go_num, Lib.hid (fun j hj hjk => ?_), hN⟩
          by_cases e : j = k
          · subst e; exact HP.out
          · exact HJ.out j hj (by omega)
        case measure => simp [intOf]; omega
    · have hk' : k = G.length := by omega
      subst hk'
      have HP := Lib.hid (idxF_miss (nmP s) G (fun j hj => HJ.out j hj hj))
      go_wp2
      go_ret
      exact ⟨congrArg (fun q => Ending.returned (.int .i64 q)) (by rw [HP.out] <;> rfl), hN⟩

set_option maxHeartbeats 1000000 in
theorem c_l02Tile (b0 lo hi : Nat) (gv tv : Value) (G : List (ByteArray × Int)) (T : List (ByteArray × List Int)) (sv : List Value) (s : ByteArray) (w : World) (B0 : BoxV w b0 [gv, tv]) (h : RdS w lo hi gv tv G T sv) (hn : T.length ≤ 1048576) :
    Calls Tryz.prog 38 #[.pointer (some ⟨b0, 0, none⟩), .string s] w fun e w' => e = .returned (.int .i64 (idxF (nmP s) T)) ∧ New w w' := by
  have HH := Lib.hid h
  have HB := Lib.hid B0
  obtain ⟨A, c, B, d, rfl, rfl⟩ := h.form
  have ha := rd_form h.glues
  have hb := rd_form h.tiles.outer
  obtain ⟨A', c', e1, _, ha⟩ := ha
  obtain ⟨B', d', e2, _, hb⟩ := hb
  obtain ⟨rfl, rfl⟩ : A = A' ∧ c = c' := by simpa using e1
  obtain ⟨rfl, rfl⟩ : B = B' ∧ d = d' := by simpa using e2
  have HA := Lib.hid hb
  clear ha hb e1 e2 h B0
  go_enter Tryz.func38, Tryz.ntmps38
  go_wp2
  go_loopw [5] (fun i wr => ∃ k : Nat, k ≤ T.length ∧ i = .int .i64 k ∧ Hid (∀ j (hj : j < T.length), j < k → nmP s T[j] = false) ∧ New w wr) (fun i _ => T.length - (intOf i).toNat)
  case atStart => exact ⟨0, Nat.zero_le _, rfl, Lib.hid (fun j _ hj => absurd hj (Nat.not_lt_zero _)), New.same _⟩
  case round =>
    obtain ⟨k, hk, rfl, HJ, hN⟩ := hrel
    have ⟨⟨bx0, by0⟩, _, bl0⟩ := (HB.out.new hN).at2
    by_cases hlt : k < T.length
    · obtain ⟨b, off, hAe⟩ := HA.out (by omega)
      subst hAe
      have p0 : (0 : Int) ≤ (k : Int) := by omega
      have p1 : (k : Int) < (T.length : Int) := by omega
      obtain ⟨Ax, mx, ⟨x0, x1⟩, bw, rx, _⟩ := rd_tl HH.out.tiles hN rfl hlt
      by_cases hp : T[k].1 = s
      · have g0 := sEq_yes hp
        have HP := Lib.hid (idxF_hit (nmP s) T k hlt HJ.out (by simp [nmP, hp]))
        clear hp
        go_wp2
        go_ret
        exact ⟨congrArg (fun q => Ending.returned (.int .i64 q)) (by rw [HP.out]), hN⟩
      · have g0 := sEq_no hp
        have HP := Lib.hid (show nmP s T[k] = false by simp [nmP, hp])
        clear hp
        go_wp2
        go_roundw
        case rel =>
          refine ⟨k + 1, by omega, by go_num, Lib.hid (fun j hj hjk => ?_), hN⟩
          by_cases e : j = k
          · subst e; exact HP.out
          · exact HJ.out j hj (by omega)
        case measure => simp [intOf]; omega
    · have hk' : k = T.length := by omega
      subst hk'
      have HP := Lib.hid (idxF_miss (nmP s) T (fun j hj => HJ.out j hj hj))
      go_wp2
      go_ret
      exact ⟨congrArg (fun q => Ending.returned (.int .i64 q)) (by rw [HP.out] <;> rfl), hN⟩

set_option maxRecDepth 20000 in
set_option maxHeartbeats 8000000 in
theorem c_l02Ok (b0 lo hi : Nat) (gv tv : Value) (G : List (ByteArray × Int)) (T : List (ByteArray × List Int)) (sv : List Value) (w : World) (B0 : BoxV w b0 [gv, tv]) (h : RdS w lo hi gv tv G T sv) (hg : ∀ g ∈ G, g.1.size ≤ maxLen) (ht : ∀ t ∈ T, t.1.size ≤ maxLen) :
    Calls Tryz.prog 15 #[.pointer (some ⟨b0, 0, none⟩)] w fun e w' => e = .returned (.bool (setB G T)) ∧ New w w' := by
  have HH := Lib.hid h
  have HB := Lib.hid B0
  have HG := Lib.hid hg
  have HT := Lib.hid ht
  obtain ⟨A, c, B, d, rfl, rfl⟩ := h.form
  obtain ⟨A', c', e1, hm, ha⟩ := rd_form h.glues
  obtain ⟨B', d', e2, hm', hb⟩ := rd_form h.tiles.outer
  obtain ⟨rfl, rfl⟩ : A = A' ∧ c = c' := by simpa using e1
  obtain ⟨rfl, rfl⟩ : B = B' ∧ d = d' := by simpa using e2
  have HA := Lib.hid ha
  have HC := Lib.hid hb
  have ⟨⟨bx0, by0⟩, _, bl0⟩ := B0.at2
  clear ha hb e1 e2 h B0 hg ht
  by_cases l1 : 200 < G.length
  · have HS := Lib.hid (set_big (G := G) (T := T) (by simp <;> omega))
    have b1 : decide ((200 : Int) < (G.length : Int)) = true := by simp <;> omega
    go_enter Tryz.func15, Tryz.ntmps15
    go_wp2
    go_ret
    exact ⟨ret_bool HS.out.symm, New.same _⟩
  have b1 : decide ((200 : Int) < (G.length : Int)) = false := by simp <;> omega
  by_cases l2 : T.length < 1
  · have HS := Lib.hid (set_big (G := G) (T := T) (by rw [inB_no (by omega)]; simp))
    have b2 : decide ((T.length : Int) < 1) = true := by simp <;> omega
    go_enter Tryz.func15, Tryz.ntmps15
    go_wp2
    go_ret
    exact ⟨ret_bool HS.out.symm, New.same _⟩
  have b2 : decide ((T.length : Int) < 1) = false := by simp <;> omega
  by_cases l3 : 160 < T.length
  · have HS := Lib.hid (set_big (G := G) (T := T) (by rw [inB_no (by omega)]; simp))
    have b3 : decide ((160 : Int) < (T.length : Int)) = true := by simp <;> omega
    go_enter Tryz.func15, Tryz.ntmps15
    go_wp2
    go_ret
    exact ⟨ret_bool HS.out.symm, New.same _⟩
  have b3 : decide ((160 : Int) < (T.length : Int)) = false := by simp <;> omega
  have HY := Lib.hid (show (decide (G.length ≤ 200) && inB T.length 1 160) = true by rw [inB_yes (by omega) (by omega)]; simp <;> omega)
  go_enter Tryz.func15, Tryz.ntmps15
  go_wp2
  clear bx0 by0 bl0 b1 b2 b3
  go_loopw [3, 4] (fun i _ wr => ∃ k : Nat, k ≤ G.length ∧ i = .int .i64 k ∧ Hid (∀ j, j < k → gOk G j = true) ∧ New w wr) (fun i _ _ => G.length - (intOf i).toNat)
  case atStart => exact ⟨0, Nat.zero_le _, rfl, Lib.hid (fun j hj => absurd hj (Nat.not_lt_zero _)), New.same _⟩
  case round =>
    obtain ⟨k, hk, rfl, HJ, hN⟩ := hrel
    have ⟨⟨bx0, by0⟩, _, bl0⟩ := (HB.out.new hN).at2
    by_cases hlt : k < G.length
    · obtain ⟨b, off, hAe⟩ := HA.out (by omega)
      subst hAe
      have p0 : (0 : Int) ≤ (k : Int) := by omega
      have p1 : (k : Int) < (G.length : Int) := by omega
      obtain ⟨⟨x0, x1⟩, bw⟩ := rd_gl HH.out.glues hN rfl hlt
      have hsz := HG.out G[k] (List.getElem_mem hlt)
      have HO := Lib.hid (gOk_at hlt)
      have HI := Lib.hid (newAt_idx hlt)
      have N1 : New wr (wr.alloc (.cells #[.string G[k].1, .int .i64 G[k].2] 72)) := (New.same wr).box _
      have C1 := Lib.hid (fun (w : World) => c_specIsName G[k].1 w hsz)
      have C2 := Lib.hid (fun (w : World) => c_l00In G[k].2 1 4 w)
      have C3 := Lib.hid (c_l02Glue b0 lo hi _ _ G T sv G[k].1 _ ((HB.out.new hN).new N1) ((HH.out.new hN).new N1) (by omega))
      have e1 : IntKind.i64.wrap ((k : Int) + 1) = (k : Int) + 1 := IntWalk.i64_in _ (by omega)
      cases q1 : nameB G[k].1
      · have HS := Lib.hid (set_g (T := T) hlt (by rw [HO.out, q1]; rfl))
        have Q1 := Lib.hid q1
        clear q1
        go_wp2_with (go_at_call 35; refine (C1.out _).mono ?_; rintro e w1 ⟨rfl, rfl⟩; rw [Q1.out])
        go_ret
        exact ⟨ret_bool HS.out.symm, hN.step N1⟩
      · have Q1 := Lib.hid q1
        cases q2 : inB G[k].2 1 4
        · have HS := Lib.hid (set_g (T := T) hlt (by rw [HO.out, q1, q2]; rfl))
          have Q2 := Lib.hid q2
          clear q1 q2
          go_wp2_with (first | (go_at_call 35; refine (C1.out _).mono ?_; rintro e w1 ⟨rfl, rfl⟩; rw [Q1.out]) | (go_at_call 36; refine (C2.out _).mono ?_; rintro e w1 ⟨rfl, rfl⟩; rw [Q2.out]))
          go_ret
          exact ⟨ret_bool HS.out.symm, hN.step N1⟩
        · have Q2 := Lib.hid q2
          cases q3 : newAt G k G[k].1
          · have HS := Lib.hid (set_g (T := T) hlt (by rw [HO.out, q1, q2, q3]; rfl))
            have q4 : (idxF (nmP G[k].1) G + 1 != (k : Int) + 1) = true := by
              have := HI.out
              rw [q3] at this
              have := of_decide_eq_false this
              simp; omega
            clear q1 q2 q3
            go_wp2_with (first | (go_at_call 35; refine (C1.out _).mono ?_; rintro e w1 ⟨rfl, rfl⟩; rw [Q1.out]) | (go_at_call 36; refine (C2.out _).mono ?_; rintro e w1 ⟨rfl, rfl⟩; rw [Q2.out]) | (go_at_call 37; refine (C3.out).mono ?_; rintro e w1 ⟨rfl, n3⟩))
            go_ret
            exact ⟨ret_bool HS.out.symm, (hN.step N1).step n3⟩
          · have HP := Lib.hid (more_ HJ.out (by rw [HO.out, q1, q2, q3]; rfl))
            have q4 : (idxF (nmP G[k].1) G + 1 != (k : Int) + 1) = false := by
              have := HI.out
              rw [q3] at this
              have := of_decide_eq_true this
              simp; omega
            clear q1 q2 q3
            go_wp2_with (first | (go_at_call 35; refine (C1.out _).mono ?_; rintro e w1 ⟨rfl, rfl⟩; rw [Q1.out]) | (go_at_call 36; refine (C2.out _).mono ?_; rintro e w1 ⟨rfl, rfl⟩; rw [Q2.out]) | (go_at_call 37; refine (C3.out).mono ?_; rintro e w1 ⟨rfl, n3⟩))
            go_roundw
            case rel => exact ⟨k + 1, by omega, by go_num, HP, (hN.step N1).step n3⟩
            case measure => simp [intOf]; omega
    · have hk' : k = G.length := by omega
      subst hk'
      have HX := Lib.hid HJ.out
      clear HJ
      go_wp2
      clear bx0 by0 bl0
      go_loopw [5, 6, 7] (fun i _ _ wr => ∃ k : Nat, k ≤ T.length ∧ i = .int .i64 k ∧ Hid (∀ j, j < k → tOk G.length T j = true) ∧ New w wr) (fun i _ _ _ => T.length - (intOf i).toNat)
      case atStart => exact ⟨0, Nat.zero_le _, rfl, Lib.hid (fun j hj => absurd hj (Nat.not_lt_zero _)), hN⟩
      case round =>
        obtain ⟨k, hk, rfl, HJ, hM⟩ := hrel
        have ⟨⟨bx0, by0⟩, _, bl0⟩ := (HB.out.new hM).at2
        by_cases hlt : k < T.length
        · obtain ⟨b, off, hAe⟩ := HC.out (by omega)
          subst hAe
          have p0 : (0 : Int) ≤ (k : Int) := by omega
          have p1 : (k : Int) < (T.length : Int) := by omega
          obtain ⟨Ax, mx, ⟨x0, x1⟩, bw, rx, _⟩ := rd_tl HH.out.tiles hM rfl hlt
          have hsz := HT.out T[k] (List.getElem_mem hlt)
          have HO := Lib.hid (tOk_at (n := G.length) hlt)
          have HI := Lib.hid (newAt_idx hlt)
          have N1 : New wr (wr.alloc (.cells #[.string T[k].1, .slice Ax T[k].2.length mx] 76)) := (New.same wr).box _
          have D7 : BoxV (wr.alloc (.cells #[.string T[k].1, .slice Ax T[k].2.length mx] 76)) wr.heap.size [.string T[k].1, .slice Ax T[k].2.length mx] := .two (by go_simp) (by go_simp) (by go_simp) (by go_simp) (by simp)
          have C1 := Lib.hid (fun (w : World) => c_specIsName T[k].1 w hsz)
          have C3 := Lib.hid (c_l02Tile b0 lo hi _ _ G T sv T[k].1 _ ((HB.out.new hM).new N1) ((HH.out.new hM).new N1) (by omega))
          cases q1 : nameB T[k].1
          · have HS := Lib.hid (set_t hlt (by rw [HO.out, q1]; rfl))
            have Q1 := Lib.hid q1
            clear q1
            go_wp2_with (go_at_call 35; refine (C1.out _).mono ?_; rintro e w1 ⟨rfl, rfl⟩; rw [Q1.out])
            go_ret
            exact ⟨ret_bool HS.out.symm, hM.step N1⟩
          · have Q1 := Lib.hid q1
            by_cases q2 : T[k].2.length = 4
            · have b4 : ((T[k].2.length : Int) != 4) = false := by simp <;> omega
              cases q3 : newAt T k T[k].1
              · have HS := Lib.hid (set_t hlt (by rw [HO.out, q1, q3]; simp))
                have q4 : (idxF (nmP T[k].1) T != (k : Int)) = true := by
                  have := HI.out
                  rw [q3] at this
                  have := of_decide_eq_false this
                  simpa using this
                have Q2 := Lib.hid q2
                clear q1 q2 q3
                go_wp2_with (first | (go_at_call 35; refine (C1.out _).mono ?_; rintro e w1 ⟨rfl, rfl⟩; rw [Q1.out]) | (go_at_call 38; refine (C3.out).mono ?_; rintro e w1 ⟨rfl, n3⟩))
                go_ret
                exact ⟨ret_bool HS.out.symm, (hM.step N1).step n3⟩
              · have q4 : (idxF (nmP T[k].1) T != (k : Int)) = false := by
                  have := HI.out
                  rw [q3] at this
                  have := of_decide_eq_true this
                  simpa using this
                have HO2 := Lib.hid (show tOk G.length T k = T[k].2.all fun g => inB g 0 G.length by rw [HO.out, q1, q3, decide_eq_true q2]; rfl)
                have Q2 := Lib.hid q2
                clear q1 q2 q3
                go_wp2_with (first | (go_at_call 35; refine (C1.out _).mono ?_; rintro e w1 ⟨rfl, rfl⟩; rw [Q1.out]) | (go_at_call 38; refine (C3.out).mono ?_; rintro e w1 ⟨rfl, n3⟩))
                have hM3 := (hM.step N1).step n3
                have D8 := D7.new n3
                have hr3 := (rx.new N1).new n3
                generalize wr.heap.size = bt at *
                clear bx0 by0 bl0 x0 x1 bw b4 q4 D7 C3 N1 n3 rx
                go_loopw [7] (fun i wq => ∃ d : Nat, d ≤ 4 ∧ i = .int .i64 d ∧ Hid (∀ j (hj : j < T[k].2.length), j < d → inB T[k].2[j] 0 G.length = true) ∧ New w1 wq) (fun i _ => 4 - (intOf i).toNat)
                case atStart => exact ⟨0, by omega, rfl, Lib.hid (fun j _ hj => absurd hj (Nat.not_lt_zero _)), New.same _⟩
                case round =>
                  obtain ⟨d, hd, rfl, HD, hL⟩ := hrel
                  have ⟨⟨bx0, by0⟩, _, bl0⟩ := (HB.out.new (hM3.step hL)).at2
                  have ⟨⟨z0, z1⟩, _, zl⟩ := (D8.new hL).at2
                  by_cases hdl : d < 4
                  · have hd4 : d < T[k].2.length := by rw [Q2.out]; exact hdl
                    obtain ⟨bs, os, hAs⟩ : ∃ b off, Ax = some ⟨b, off, none⟩ := by
                      obtain ⟨_, _, e, _, hs⟩ := rd_form hr3
                      obtain ⟨b, off, hb⟩ := hs (by omega)
                      exact ⟨b, off, by cases e; exact hb⟩
                    subst hAs
                    obtain ⟨y0, yl⟩ := rd_i hr3 hL rfl hd4
                    have r0 : (0 : Int) ≤ (d : Int) := by omega
                    have r1 : (d : Int) < 4 := by omega
                    have r2 : (d : Int) < (T[k].2.length : Int) := by omega
                    have lb0 := Later.cell bx0 bl0
                    have lz := Later.cell z1 zl
                    have ly := Later.cell y0 yl
                    cases q5 : inB T[k].2[d] 0 G.length
                    · have HS := Lib.hid (set_t hlt (by rw [HO2.out, all_out hd4 q5]))
                      have C5 := Lib.hid (fun (w : World) => q5 ▸ c_l00In T[k].2[d] 0 G.length w)
                      clear q5
                      go_upto_region 18 with fail
                      (refine wp_region_later (by kernel_rfl) (by kernel_rfl) ?_; (repeat (go_big_quiet_step ((first | (go_at_call 36; exact later_same (C5.out _)))))); refine wpQuiet_nil ?_; intro wq hw'; obtain ⟨⟨wz, nq⟩, hwz⟩ := hw'; have hwz' : wq = wz := hwz; subst hwz'; clear hwz)
                      clear lb0 lz ly
                      go_wp2
                      go_ret
                      exact ⟨ret_bool HS.out.symm, (hM3.step hL).step nq⟩
                    · have Q5 := Lib.hid q5
                      have C5 := Lib.hid (fun (w : World) => q5 ▸ c_l00In T[k].2[d] 0 G.length w)
                      clear q5
                      go_upto_region 18 with fail
                      (refine wp_region_later (by kernel_rfl) (by kernel_rfl) ?_; (repeat (go_big_quiet_step ((first | (go_at_call 36; exact later_same (C5.out _)))))); refine wpQuiet_nil ?_; intro wq hw'; obtain ⟨⟨wz, nq⟩, hwz⟩ := hw'; have hwz' : wq = wz := hwz; subst hwz'; clear hwz)
                      clear lb0 lz ly
                      go_wp2
                      go_roundw
                      case rel =>
                        refine ⟨d + 1, by omega, by go_num, Lib.hid (fun j hj hjd => ?_), hL.step nq⟩
                        by_cases e : j = d
                        · subst e; exact Q5.out
                        · exact HD.out j hj (by omega)
                      case measure => simp [intOf]; omega
                  · have hd' : d = 4 := by omega
                    subst hd'
                    have HP := Lib.hid (more_ HJ.out (by rw [HO2.out]; exact all_in fun d hd => HD.out d hd (by have := Q2.out; omega)))
                    go_wp2
                    go_roundw
                    case rel => exact ⟨k + 1, by omega, by go_num, HP, hM3.step hL⟩
                    case measure => simp [intOf]; omega
            · have HS := Lib.hid (set_t hlt (by rw [HO.out, decide_eq_false q2]; simp))
              have b4 : ((T[k].2.length : Int) != 4) = true := by simp <;> omega
              clear q1 q2
              go_wp2_with (go_at_call 35; refine (C1.out _).mono ?_; rintro e w1 ⟨rfl, rfl⟩; rw [Q1.out])
              go_ret
              exact ⟨ret_bool HS.out.symm, hM.step N1⟩
        · have hk' : k = T.length := by omega
          subst hk'
          have HS := Lib.hid (set_yes HY.out HX.out HJ.out)
          go_wp2
          go_ret
          exact ⟨ret_bool HS.out.symm, hM⟩

end Go.Proofs.YtcbifdfcllaaaaaGreatDoor

/- A map from names to true, as a word: which names it holds. -/
namespace Go.Proofs.YtcbifdfcllaaaaaGreatDoor
open Go.RowKit Go.Deep
set_option linter.unusedVariables false
set_option linter.unusedSimpArgs false

section
variable {H : Type}
theorem atKey_fold (u z : DataW H) (k : Lit) : ∀ (acc : List Lit) (m : DataW H), Maps.IsMap m → (∀ x ∈ acc, WideAt.IsKeyLit x) → (acc.foldl (fun m x => m.put x u) m).atKey k z = if acc.any (fun x => x.sameKey k) then u else m.atKey k z
  | [], m, _, _ => by simp
  | x :: r, m, hm, h => by
    rw [List.foldl_cons, atKey_fold u z k r (m.put x u) (hm.put x u) (fun y hy => h y (by simp [hy])), List.any_cons]
    by_cases e : k = x
    · subst e
      rw [Maps.atKey_put_same hm (h k (by simp)), WideAt.sameKey_self (h k (by simp))]
      simp
    · rw [Maps.atKey_put_other e, Maps.sameKey_ne (fun e' => e e'.symm)]
      simp
theorem atKey_setOf (u z : DataW H) (k : Lit) (acc : List Lit) (h : ∀ x ∈ acc, WideAt.IsKeyLit x) : (Maps.setOf u acc).atKey k z = if acc.any (fun x => x.sameKey k) then u else z := by
  rw [Maps.setOf, atKey_fold u z k acc _ Maps.isMap_empty h]
  rfl
theorem plainElem_bool_inv {P : Program} {e : TypeId} (he : P.underlying e = some .bool) {v : Value} {z : DataW H × List MemPlace} (h : plainElem P e v = some z) : ∃ x, v = .bool x ∧ z = (.lit (.bool x), []) := by
  unfold plainElem at h
  rw [he] at h
  cases v <;> simp at h
  exact ⟨_, rfl, h.symm⟩
end

/-- the name as a key -/
def keyL (s : ByteArray) : Lit := .string s.data.toList
/-- has a name come -/
def seenB (ns : List ByteArray) (s : ByteArray) : Bool := ns.any fun n => decide (n = s)
theorem keyL_any (ns : List ByteArray) (s : ByteArray) : (ns.map keyL).any (fun x => x.sameKey (keyL s)) = seenB ns s := by
  rw [List.any_map]
  unfold seenB
  congr 1
  funext n
  by_cases e : n = s
  · subst e
    simp only [Function.comp, decide_true]
    exact WideAt.sameKey_self (by simp [keyL, WideAt.IsKeyLit])
  · simp only [Function.comp, decide_eq_false e]
    exact Maps.sameKey_ne (fun h => e (Go.WideShapes.bytes_inj (by simpa [keyL] using h)))
theorem newAt_seen {α : Type} (xs : List (ByteArray × α)) (k : Nat) (s : ByteArray) : newAt xs k s = !seenB ((xs.take k).map Prod.fst) s := by
  unfold newAt seenB
  rw [List.any_map]
  rfl

/-- block b is a map that holds the names ns, each with true -/
def Seen (w : World) (b : Nat) (ns : List ByteArray) : Prop :=
  w.ownsMap (H := Unit) Tryz.prog 9 (plainElem Tryz.prog 4) b ns.length (Maps.setOf (.lit (.bool true)) (ns.map keyL))
theorem Seen.lt {w : World} {b : Nat} {ns : List ByteArray} (h : Seen w b ns) : b < w.heap.size := World.ownsMap.lt h
theorem Seen.new {w w' : World} {b : Nat} {ns : List ByteArray} (h : Seen w b ns) (n : New w w') : Seen w' b ns := by
  have hl := h.lt
  obtain ⟨es, clock, hb, r⟩ := h
  exact ⟨es, clock, (n.block b hl).trans hb, r⟩
theorem Seen.below {w w' : World} {b B : Nat} {ns : List ByteArray} (h : Seen w b ns) (n : Below B w w') (hb : b < B) : Seen w' b ns := by
  have hl := h.lt
  obtain ⟨es, clock, hb', r⟩ := h
  exact ⟨es, clock, (n.block b hb).trans hb', r⟩
theorem Seen.made (w : World) : Seen (w.alloc (.map #[] 0)) w.heap.size [] := World.ownsMap_made w _ _ _
theorem zero_bool (w : World) : (zeroValue 4).run Tryz.prog w = .ok (.bool false) w := by kernel_rfl
theorem und_seen : Tryz.prog.underlying 107 = some (.map 9 4) := Tryz.underlying107
theorem keys_seen : Maps.Keyed Tryz.prog 9 := Maps.string_keyed Tryz.underlying9
theorem key_seen {s : ByteArray} (hs : s.size ≤ maxLen) : Go.keyOf Tryz.prog 9 (.string s) = some (keyL s) := WideMaps.keyOf_string_mk (P := Tryz.prog) Tryz.underlying9 hs
/-- a look-up -/
theorem Seen.look {w : World} {b : Nat} {ns : List ByteArray} (h : Seen w b ns) {s : ByteArray} (hs : s.size ≤ maxLen) : (Instr.lookup 107 (.map (some b)) (.string s) false).run Tryz.prog w = .ok (.bool (seenB ns s)) w := by
  obtain ⟨v, ps, hrun, hv⟩ := World.ownsMap.lookup h keys_seen und_seen (zero_bool w) (plainElem_bool Tryz.underlying4 false) (key_seen hs)
  obtain ⟨x, rfl, hx⟩ := plainElem_bool_inv Tryz.underlying4 hv
  rw [atKey_setOf _ _ _ _ (by intro x hx; obtain ⟨s, _, rfl⟩ := List.mem_map.1 hx; simp [keyL, WideAt.IsKeyLit]), keyL_any] at hx
  rw [hrun]
  cases hq : seenB ns s
  · rw [hq] at hx
    simp at hx
    rw [hx.1]
  · rw [hq] at hx
    simp at hx
    rw [hx.1]
/-- a name is put in -/
theorem Seen.put {w' : World} {b : Nat} {ns : List ByteArray} {s : ByteArray} (h : w'.ownsMap (H := Unit) Tryz.prog 9 (plainElem Tryz.prog 4) b (ns.length + 1) ((Maps.setOf (.lit (.bool true)) (ns.map keyL)).put (keyL s) (.lit (.bool true)))) : Seen w' b (ns ++ [s]) := by
  unfold Seen
  rw [List.map_append, List.map_cons, List.map_nil, Maps.setOf_snoc, List.length_append]
  exact h
end Go.Proofs.YtcbifdfcllaaaaaGreatDoor

/- The contract of the program's test of a set. -/
namespace Go.Proofs.YtcbifdfcllaaaaaGreatDoor
open Go.RowKit Go.Deep
set_option linter.unusedVariables false
set_option linter.unusedSimpArgs false

theorem enters_vs1 : EntersIt Tryz.prog 70 := enters_of Tryz.func70 (by kernel_rfl) rfl

set_option maxHeartbeats 400000 in
theorem tests_vs1 (b0 : Nat) (A : Option Addr) (n c : Nat) (tv : Value) (zs : List Int) (w : World) (B0 : BoxV w b0 [.slice A n c, tv]) : Tests Tryz.prog 70 #[.pointer (some ⟨b0, 0, none⟩)] (Value.int .i64) (fun g => !inB g 0 n) zs w := by
  intro x W _ hN
  have ⟨⟨bx0, _⟩, _, bl0⟩ := (B0.new hN).at2
  show Calls _ _ #[.int .i64 x, .pointer (some ⟨b0, 0, none⟩)] W _
  go_enter Tryz.func70, Tryz.ntmps70
  go_wp2_with (go_at_call 67; refine (c_within _ _ _ _).mono ?_; rintro e w' ⟨rfl, rfl⟩)
  go_ret
  exact ⟨rfl, New.same _⟩

theorem any_all (zs : List Int) (n : Nat) : (zs.any fun g => !inB g 0 n) = !(zs.all fun g => inB g 0 n) := by
  induction zs with
  | nil => rfl
  | cons x r ih => simp [ih]

set_option maxRecDepth 20000 in
set_option maxHeartbeats 8000000 in
theorem c_implValidSet (lo hi : Nat) (gv tv : Value) (G : List (ByteArray × Int)) (T : List (ByteArray × List Int)) (sv : List Value) (w : World) (h : RdS w lo hi gv tv G T sv) (hg : ∀ g ∈ G, g.1.size ≤ maxLen) (ht : ∀ t ∈ T, t.1.size ≤ maxLen) :
    Calls Tryz.prog 45 #[.agg #[gv, tv]] w fun e w' => e = .returned (.bool (setB G T)) ∧ New w w' := by
  have HH := Lib.hid h
  have HG := Lib.hid hg
  have HT := Lib.hid ht
  obtain ⟨A, c, B, d, rfl, rfl⟩ := h.form
  obtain ⟨A', c', e1, hm, ha⟩ := rd_form h.glues
  obtain ⟨B', d', e2, hm', hb⟩ := rd_form h.tiles.outer
  obtain ⟨rfl, rfl⟩ : A = A' ∧ c = c' := by simpa using e1
  obtain ⟨rfl, rfl⟩ : B = B' ∧ d = d' := by simpa using e2
  have HA := Lib.hid ha
  have HC := Lib.hid hb
  have N0 : New w (w.alloc (.cells #[.slice A G.length c, .slice B T.length d] 35)) := (New.same w).box _
  have B0 : BoxV (w.alloc (.cells #[.slice A G.length c, .slice B T.length d] 35)) w.heap.size [.slice A G.length c, .slice B T.length d] := .two (by go_simp) (by go_simp) (by go_simp) (by go_simp) (by simp)
  have Z0 : w.heap.size + 1 ≤ (w.alloc (.cells #[.slice A G.length c, .slice B T.length d] 35)).heap.size := by simp
  have hmm := @run_makeMap Tryz.prog
  clear ha hb e1 e2 h hg ht
  by_cases l1 : 200 < G.length
  · have HS := Lib.hid (set_big (G := G) (T := T) (by simp <;> omega))
    have b1 : decide ((200 : Int) < (G.length : Int)) = true := by simp <;> omega
    go_enter Tryz.func45, Tryz.ntmps45
    go_wp2
    go_ret
    exact ⟨ret_bool HS.out.symm, N0⟩
  have b1 : decide ((200 : Int) < (G.length : Int)) = false := by simp <;> omega
  cases l2 : inB T.length 1 160
  · have HS := Lib.hid (set_big (G := G) (T := T) (by rw [l2]; simp))
    have L2 := Lib.hid l2
    clear l2
    go_enter Tryz.func45, Tryz.ntmps45
    go_wp2_with (go_at_call 67; refine (c_within _ _ _ _).mono ?_; rintro e w' ⟨rfl, rfl⟩; rw [L2.out])
    go_ret
    exact ⟨ret_bool HS.out.symm, N0⟩
  have L2 := Lib.hid l2
  have HY := Lib.hid (show (decide (G.length ≤ 200) && inB T.length 1 160) = true by rw [l2]; simp <;> omega)
  obtain ⟨l3, l4⟩ := inB_iff.1 l2
  clear l2
  have M0 : New w ((w.alloc (.cells #[.slice A G.length c, .slice B T.length d] 35)).alloc (.map #[] 0)) := N0.box _
  have B1 := B0.new ((New.same (w.alloc (.cells #[.slice A G.length c, .slice B T.length d] 35))).box (.map #[] 0))
  have S0 : Seen ((w.alloc (.cells #[.slice A G.length c, .slice B T.length d] 35)).alloc (.map #[] 0)) (w.heap.size + 1) [] := by
    have := Seen.made (w.alloc (.cells #[.slice A G.length c, .slice B T.length d] 35))
    simpa using this
  have Z1 : w.heap.size + 2 ≤ ((w.alloc (.cells #[.slice A G.length c, .slice B T.length d] 35)).alloc (.map #[] 0)).heap.size := by simp
  go_enter Tryz.func45, Tryz.ntmps45
  go_wp2_with (go_at_call 67; refine (c_within _ _ _ _).mono ?_; rintro e w' ⟨rfl, rfl⟩; rw [L2.out])
  generalize ((w.alloc (.cells #[.slice A G.length c, .slice B T.length d] 35)).alloc (.map #[] 0)) = W0 at *
  clear b1 B0 N0 Z0
  go_loopw [5, 24] (fun _ i wr => ∃ k : Nat, k ≤ G.length ∧ i = .int .i64 k ∧ Hid (∀ j, j < k → gOk G j = true) ∧ Seen wr (w.heap.size + 1) ((G.take k).map Prod.fst) ∧ BoxV wr w.heap.size [.slice A G.length c, .slice B T.length d] ∧ New w wr) (fun _ i _ => G.length - (intOf i).toNat)
  case atStart => exact ⟨0, Nat.zero_le _, rfl, Lib.hid (fun j hj => absurd hj (Nat.not_lt_zero _)), S0, B1, M0⟩
  case round =>
    obtain ⟨k, hk, rfl, HJ, hS, D0, hN⟩ := hrel
    clear S0 B1 M0
    by_cases hlt : k < G.length
    · obtain ⟨b, off, hAe⟩ := HA.out (by omega)
      subst hAe
      have p0 : (0 : Int) ≤ (k : Int) := by omega
      have p1 : (k : Int) < (G.length : Int) := by omega
      obtain ⟨⟨x0, x1⟩, bw⟩ := rd_gl HH.out.glues hN rfl hlt
      have hsz := HG.out G[k] (List.getElem_mem hlt)
      have HO := Lib.hid (gOk_at hlt)
      have HI := Lib.hid (newAt_seen G k G[k].1)
      have N1 : New wr (wr.alloc (.cells #[.string G[k].1, .int .i64 G[k].2] 72)) := (New.same wr).box _
      have D7 : BoxV (wr.alloc (.cells #[.string G[k].1, .int .i64 G[k].2] 72)) wr.heap.size [.string G[k].1, .int .i64 G[k].2] := .two (by go_simp) (by go_simp) (by go_simp) (by go_simp) (by simp)
      have D1 := D0.new N1
      have hS1 := hS.new N1
      have hN1 := hN.step N1
      have hsl := hS.lt
      go_upto_region 7 with fail
      generalize (wr.alloc (.cells #[.string G[k].1, .int .i64 G[k].2] 72)) = W7 at *
      clear x0 x1 bw D0 hS hN
      have ⟨⟨y0, y1⟩, _, yl⟩ := D7.at2
      have hlk := hS1.look hsz
      have C1 := Lib.hid (fun (w : World) => c_implIsName G[k].1 w hsz)
      have C2 := Lib.hid (fun (w : World) => c_within G[k].2 1 4 w)
      cases q1 : nameB G[k].1
      · have HS := Lib.hid (set_g (T := T) hlt (by rw [HO.out, q1]; rfl))
        have Q1 := Lib.hid q1
        clear q1
        go_wp2_with (go_at_call 68; refine (C1.out _).mono ?_; rintro e w1 ⟨rfl, rfl⟩; rw [Q1.out])
        go_ret
        exact ⟨ret_bool HS.out.symm, hN1⟩
      · have Q1 := Lib.hid q1
        cases q3 : seenB ((G.take k).map Prod.fst) G[k].1
        · cases q2 : inB G[k].2 1 4
          · have HS := Lib.hid (set_g (T := T) hlt (by rw [HO.out, q1, q2]; rfl))
            have Q2 := Lib.hid q2
            rw [q3] at hlk
            clear q1 q2 q3
            go_wp2_with (first | (go_at_call 68; refine (C1.out _).mono ?_; rintro e w1 ⟨rfl, rfl⟩; rw [Q1.out]) | (go_at_call 67; refine (C2.out _).mono ?_; rintro e w1 ⟨rfl, rfl⟩; rw [Q2.out]))
            go_ret
            exact ⟨ret_bool HS.out.symm, hN1⟩
          · have HP := Lib.hid (more_ HJ.out (by rw [HO.out, q1, q2, HI.out, q3]; rfl))
            have Q2 := Lib.hid q2
            rw [q3] at hlk
            clear q1 q2 q3
            go_wp2_with (first | (go_at_call 68; refine (C1.out _).mono ?_; rintro e w1 ⟨rfl, rfl⟩; rw [Q1.out]) | (go_at_call 67; refine (C2.out _).mono ?_; rintro e w1 ⟨rfl, rfl⟩; rw [Q2.out]) | (at_mapUpdate; refine wpList_mapUpdate_own _ rfl _ _ _ 107 rfl 9 4 keys_seen und_seen _ (w.heap.size + 1) _ _ rfl hS1 (by unfold maxLen; simp; omega) _ _ _ rfl rfl (key_seen hsz) _ [] (plainElem_bool Tryz.underlying4 true) ?_; intro w8 hown8 hgrow8))
            have hz7 := hS1.lt
            have hS8 := Seen.put hown8
            have NB : Below (w.heap.size + 1) W7 w8 := (Below.refl _ W7).grown hgrow8 (by omega) (fun k e => by cases e; exact Nat.le_refl _)
            have D8 := D1.below NB (Nat.lt_succ_self _)
            have hN8 : New w w8 := hN1.trans (NB.mono (by omega))
            have HS8 := Lib.hid (show Seen w8 (w.heap.size + 1) ((G.take (k + 1)).map Prod.fst) by rw [List.take_succ_eq_append_getElem hlt, List.map_append]; exact hS8)
            clear hown8 hgrow8 NB hS8 hlk hS1 D1 hN1 y0 y1 yl D7
            go_wp2
            go_roundw
            case rel => exact ⟨k + 1, by omega, by go_num, HP, HS8.out, D8, hN8⟩
            case measure => simp [intOf]; omega
        · have HS := Lib.hid (set_g (T := T) hlt (by rw [HO.out, HI.out, q3]; simp))
          rw [q3] at hlk
          clear q1 q3
          go_wp2_with (first | (go_at_call 68; refine (C1.out _).mono ?_; rintro e w1 ⟨rfl, rfl⟩; rw [Q1.out]))
          go_ret
          exact ⟨ret_bool HS.out.symm, hN1⟩
    · have hk' : k = G.length := by omega
      subst hk'
      have HX := Lib.hid HJ.out
      clear HJ
      have hsl := hS.lt
      have M0 : New w (wr.alloc (.map #[] 0)) := hN.box _
      have B1 := D0.new ((New.same wr).box (.map #[] 0))
      have S0 := Seen.made wr
      have ⟨⟨bx0, by0⟩, _, bl0⟩ := D0.at2
      go_wp2
      clear bx0 by0 bl0
      generalize (wr.alloc (.map #[] 0)) = W1 at *
      generalize hbm : wr.heap.size = bm at *
      clear hS D0 hN
      go_loopw [8, 52] (fun _ i wr => ∃ k : Nat, k ≤ T.length ∧ i = .int .i64 k ∧ Hid (∀ j, j < k → tOk G.length T j = true) ∧ Seen wr bm ((T.take k).map Prod.fst) ∧ BoxV wr w.heap.size [.slice A G.length c, .slice B T.length d] ∧ New w wr) (fun _ i _ => T.length - (intOf i).toNat)
      case atStart => exact ⟨0, Nat.zero_le _, rfl, Lib.hid (fun j hj => absurd hj (Nat.not_lt_zero _)), S0, B1, M0⟩
      case round =>
        obtain ⟨k, hk, rfl, HJ, hS, D0, hN⟩ := hrel
        clear S0 B1 M0
        by_cases hlt : k < T.length
        · obtain ⟨b, off, hAe⟩ := HC.out (by omega)
          subst hAe
          have p0 : (0 : Int) ≤ (k : Int) := by omega
          have p1 : (k : Int) < (T.length : Int) := by omega
          obtain ⟨Ax, mx, ⟨x0, x1⟩, bw, rx, ex⟩ := rd_tl HH.out.tiles hN rfl hlt
          have HR := Lib.hid (rd_tl_at HH.out.tiles hlt ex)
          clear ex
          have hsz := HT.out T[k] (List.getElem_mem hlt)
          have HO := Lib.hid (tOk_at (n := G.length) hlt)
          have HI := Lib.hid (newAt_seen T k T[k].1)
          have N1 : New wr (wr.alloc (.cells #[.string T[k].1, .slice Ax T[k].2.length mx] 76)) := (New.same wr).box _
          have D7 : BoxV (wr.alloc (.cells #[.string T[k].1, .slice Ax T[k].2.length mx] 76)) wr.heap.size [.string T[k].1, .slice Ax T[k].2.length mx] := .two (by go_simp) (by go_simp) (by go_simp) (by go_simp) (by simp)
          have D1 := D0.new N1
          have hS1 := hS.new N1
          have hN1 := hN.step N1
          have hr1 := rx.new N1
          have hsl := hS.lt
          go_upto_region 15 with fail
          generalize (wr.alloc (.cells #[.string T[k].1, .slice Ax T[k].2.length mx] 76)) = W7 at *
          generalize hbt : wr.heap.size = bt at *
          clear x0 x1 bw D0 hS hN rx
          have ⟨⟨y0, y1⟩, _, yl⟩ := D7.at2
          have hlk := hS1.look hsz
          have C1 := Lib.hid (fun (w : World) => c_implIsName T[k].1 w hsz)
          cases q1 : nameB T[k].1
          · have HS := Lib.hid (set_t hlt (by rw [HO.out, q1]; rfl))
            have Q1 := Lib.hid q1
            clear q1
            go_wp2_with (go_at_call 68; refine (C1.out _).mono ?_; rintro e w1 ⟨rfl, rfl⟩; rw [Q1.out])
            go_ret
            exact ⟨ret_bool HS.out.symm, hN1⟩
          · have Q1 := Lib.hid q1
            cases q3 : seenB ((T.take k).map Prod.fst) T[k].1
            · by_cases q2 : T[k].2.length = 4
              · have b4 : ((T[k].2.length : Int) != 4) = false := by simp <;> omega
                have HO2 := Lib.hid (show tOk G.length T k = T[k].2.all fun g => inB g 0 G.length by rw [HO.out, q1, HI.out, q3, decide_eq_true q2]; rfl)
                rw [q3] at hlk
                clear q1 q2 q3
                go_wp2_with (first | (go_at_call 68; refine (C1.out _).mono ?_; rintro e w1 ⟨rfl, rfl⟩; rw [Q1.out]) | (at_mapUpdate; refine wpList_mapUpdate_own _ rfl _ _ _ 107 rfl 9 4 keys_seen und_seen _ bm _ _ rfl hS1 (by unfold maxLen; simp; omega) _ _ _ rfl rfl (key_seen hsz) _ [] (plainElem_bool Tryz.underlying4 true) ?_; intro w8 hown8 hgrow8; have NB : Below bm W7 w8 := (Below.refl _ W7).grown hgrow8 (by omega) (fun k e => by cases e; exact Nat.le_refl _); have NT : Fr bm (bm + 1) W7 w8 := ⟨hgrow8.os, hgrow8.tape, hgrow8.output, hgrow8.size, fun k hk hne => hgrow8.block k hk (fun e => by cases e; omega)⟩; have D9 := D7.fr NT (.inr (by omega)); have D8 := D1.below NB (by omega); clear y0 y1 yl; have ⟨⟨y0, y1⟩, _, yl⟩ := D9.at2))
                have hS8 := Seen.put hown8
                have hN8 : New w w8 := hN1.trans (NB.mono (by omega))
                have HS8 := Lib.hid (show Seen w8 bm ((T.take (k + 1)).map Prod.fst) by rw [List.take_succ_eq_append_getElem hlt, List.map_append]; exact hS8)
                have hr8 := HR.out.new hN8
                have HC1 := Lib.hid (c_containsFunc_int64 _ _ _ enters_vs1 _ _ _ T[k].2 w8 hr8 (tests_vs1 w.heap.size A G.length c _ _ w8 D8))
                clear hown8 hgrow8 NB NT hS8 hS1 hlk hr8 hr1 D1 hN1 D7
                refine (HC1.out).mono ?_
                rintro e w9 ⟨rfl, n9⟩
                rw [any_all]
                cases q5 : T[k].2.all fun g => inB g 0 G.length
                · have HS := Lib.hid (set_t hlt (by rw [HO2.out, q5]))
                  clear q5
                  go_wp2
                  go_ret
                  exact ⟨ret_bool HS.out.symm, hN8.step n9⟩
                · have HP := Lib.hid (more_ HJ.out (by rw [HO2.out, q5]))
                  have hS9 := HS8.out.new n9
                  have D10 := D8.new n9
                  clear q5 HC1 y0 y1 yl D9
                  go_wp2
                  go_roundw
                  case rel => exact ⟨k + 1, by omega, by go_num, HP, hS9, D10, hN8.step n9⟩
                  case measure => simp [intOf]; omega
              · have HS := Lib.hid (set_t hlt (by rw [HO.out, decide_eq_false q2]; simp))
                have b4 : ((T[k].2.length : Int) != 4) = true := by simp <;> omega
                rw [q3] at hlk
                clear q1 q2 q3
                go_wp2_with (go_at_call 68; refine (C1.out _).mono ?_; rintro e w1 ⟨rfl, rfl⟩; rw [Q1.out])
                go_ret
                exact ⟨ret_bool HS.out.symm, hN1⟩
            · have HS := Lib.hid (set_t hlt (by rw [HO.out, HI.out, q3]; simp))
              rw [q3] at hlk
              clear q1 q3
              go_wp2_with (go_at_call 68; refine (C1.out _).mono ?_; rintro e w1 ⟨rfl, rfl⟩; rw [Q1.out])
              go_ret
              exact ⟨ret_bool HS.out.symm, hN1⟩
        · have hk' : k = T.length := by omega
          subst hk'
          have HS := Lib.hid (set_yes HY.out HX.out HJ.out)
          go_wp2
          go_ret
          exact ⟨ret_bool HS.out.symm, hN⟩
end Go.Proofs.YtcbifdfcllaaaaaGreatDoor
