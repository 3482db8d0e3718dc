/- The test of a set in plain words, and the contract of the reference's test. -/
import Derived.Test.YtcbifdfcllaaaaaSameSet
import Derived.Test.YtcbifdfcllaaaaaName
namespace Go.Proofs.Ytcbifdfcllaaaaa
open Go.RowKit Go.Deep
set_option linter.unusedVariables false
set_option linter.unusedSimpArgs false

/-- has the element's name not come before -/
def newAt {α : Type} (xs : List (ByteArray × α)) (k : Nat) (s : ByteArray) : Bool := !(xs.take k).any fun g => decide (g.1 = s)
def nmP {α : Type} (s : ByteArray) : (ByteArray × α) → Bool := fun g => decide (g.1 = s)
theorem newAt_idx {α : Type} {xs : List (ByteArray × α)} {k : Nat} (hk : k < xs.length) : decide (idxF (nmP xs[k].1) xs = (k : Int)) = newAt xs k xs[k].1 := by
  unfold newAt
  cases h : (xs.take k).any fun g => decide (g.1 = xs[k].1)
  · refine decide_eq_true (idxF_hit _ _ k hk (fun j hj hjk => ?_) (by simp [nmP]))
    have := (List.any_eq_false.1 h) xs[j] (List.mem_take_iff_getElem.2 ⟨j, by omega, rfl⟩)
    simpa [nmP] using this
  · refine decide_eq_false (fun e => ?_)
    obtain ⟨g, hg, hp⟩ := List.any_eq_true.1 h
    obtain ⟨j, hj, rfl⟩ := List.mem_take_iff_getElem.1 hg
    have hjl : j < xs.length := by omega
    have hjk : j < k := by omega
    -- the first place is at most j
    have hle : ∀ (ys : List (ByteArray × α)) (j : Nat) (hj : j < ys.length) (p : ByteArray × α → Bool), p ys[j] = true → idxF p ys ≤ (j : Int) := by
      intro ys
      induction ys with
      | nil => intro j hj; simp at hj
      | cons y r ih =>
        intro j hj p hp
        simp only [idxF]
        split
        · omega
        · rename_i hy
          cases j with
          | zero => exact absurd (by simpa using hp) hy
          | succ j =>
            have := ih j (by simpa using hj) p (by simpa using hp)
            split <;> omega
    have := hle xs j hjl (nmP xs[k].1) (by simpa [nmP] using hp)
    omega

/-- a glue of a valid set -/
def gOk (G : List (ByteArray × Int)) (k : Nat) : Bool := nameB (G.getD k default).1 && (inB (G.getD k default).2 1 4 && newAt G k (G.getD k default).1)
/-- a tile of a valid set with n glues -/
def tOk (n : Nat) (T : List (ByteArray × List Int)) (k : Nat) : Bool := nameB (T.getD k default).1 && (decide ((T.getD k default).2.length = 4) && (newAt T k (T.getD k default).1 && (T.getD k default).2.all fun g => inB g 0 n))
def gsOk (G : List (ByteArray × Int)) : Bool := (List.range G.length).all (gOk G)
def tsOk (n : Nat) (T : List (ByteArray × List Int)) : Bool := (List.range T.length).all (tOk n T)
/-- a valid set -/
def setB (G : List (ByteArray × Int)) (T : List (ByteArray × List Int)) : Bool := (decide (G.length ≤ 200) && inB T.length 1 160) && (gsOk G && tsOk G.length T)
theorem gOk_at {G : List (ByteArray × Int)} {k : Nat} (hk : k < G.length) : gOk G k = (nameB G[k].1 && (inB G[k].2 1 4 && newAt G k G[k].1)) := by
  simp [gOk, List.getD_eq_getElem?_getD, hk]
theorem tOk_at {n : Nat} {T : List (ByteArray × List Int)} {k : Nat} (hk : k < T.length) : tOk n T k = (nameB T[k].1 && (decide (T[k].2.length = 4) && (newAt T k T[k].1 && T[k].2.all fun g => inB g 0 n))) := by
  simp [tOk, List.getD_eq_getElem?_getD, hk]
theorem rng_hit {p : Nat → Bool} {n k : Nat} (hk : k < n) (h : p k = false) : (List.range n).all p = false := by
  cases he : (List.range n).all p
  · rfl
  · rw [List.all_eq_true.1 he k (List.mem_range.2 hk)] at h; cases h
theorem rng_miss {p : Nat → Bool} {n : Nat} (h : ∀ k, k < n → p k = true) : (List.range n).all p = true := List.all_eq_true.2 fun k hk => h k (List.mem_range.1 hk)
theorem more_ {p : Nat → Bool} {k : Nat} (h : ∀ j, j < k → p j = true) (hk : p k = true) : ∀ j, j < k + 1 → p j = true := by
  intro j hj
  by_cases e : j = k
  · subst e; exact hk
  · exact h j (by omega)
theorem set_big {G : List (ByteArray × Int)} {T : List (ByteArray × List Int)} (h : (decide (G.length ≤ 200) && inB T.length 1 160) = false) : setB G T = false := by simp [setB, h]
theorem set_g {G : List (ByteArray × Int)} {T : List (ByteArray × List Int)} {k : Nat} (hk : k < G.length) (h : gOk G k = false) : setB G T = false := by simp [setB, gsOk, rng_hit hk h]
theorem set_t {G : List (ByteArray × Int)} {T : List (ByteArray × List Int)} {k : Nat} (hk : k < T.length) (h : tOk G.length T k = false) : setB G T = false := by simp [setB, tsOk, rng_hit hk h]
theorem set_yes {G : List (ByteArray × Int)} {T : List (ByteArray × List Int)} (h : (decide (G.length ≤ 200) && inB T.length 1 160) = true) (hg : ∀ k, k < G.length → gOk G k = true) (ht : ∀ k, k < T.length → tOk G.length T k = true) : setB G T = true := by
  simp only [setB, gsOk, tsOk, rng_miss hg, rng_miss ht, h, Bool.and_true]
/-- what a valid set keeps to -/
theorem set_in {G : List (ByteArray × Int)} {T : List (ByteArray × List Int)} (h : setB G T = true) : G.length ≤ 200 ∧ 1 ≤ T.length ∧ T.length ≤ 160 ∧ ∀ k (hk : k < T.length), T[k].2.length = 4 ∧ ∀ d (hd : d < T[k].2.length), 0 ≤ T[k].2[d] ∧ T[k].2[d] ≤ G.length := by
  simp only [setB, Bool.and_eq_true, decide_eq_true_eq] at h
  obtain ⟨⟨h1, h2⟩, _, h4⟩ := h
  obtain ⟨a, b⟩ := inB_iff.1 h2
  refine ⟨h1, by omega, by omega, fun k hk => ?_⟩
  have := List.all_eq_true.1 h4 k (List.mem_range.2 hk)
  rw [tOk_at hk] at this
  simp only [Bool.and_eq_true, decide_eq_true_eq] at this
  refine ⟨this.2.1, fun d hd => ?_⟩
  have := List.all_eq_true.1 this.2.2.2 T[k].2[d] (List.getElem_mem hd)
  exact inB_iff.1 this
theorem set_str {G : List (ByteArray × Int)} {T : List (ByteArray × List Int)} (h : setB G T = true) {k : Nat} (hk : k < G.length) : 1 ≤ G[k].2 ∧ G[k].2 ≤ 4 := by
  simp only [setB, Bool.and_eq_true] at h
  have := List.all_eq_true.1 h.2.1 k (List.mem_range.2 hk)
  rw [gOk_at hk] at this
  simp only [Bool.and_eq_true] at this
  exact inB_iff.1 this.2.1
theorem all_in {zs : List Int} {n : Nat} (h : ∀ d (hd : d < zs.length), inB zs[d] 0 n = true) : (zs.all fun g => inB g 0 n) = true := List.all_eq_true.2 fun g hg => by
  obtain ⟨d, hd, rfl⟩ := List.getElem_of_mem hg
  exact h d hd
theorem all_out {zs : List Int} {n d : Nat} (hd : d < zs.length) (h : inB zs[d] 0 n = false) : (zs.all fun g => inB g 0 n) = false := by
  cases he : zs.all fun g => inB g 0 n
  · rfl
  · rw [List.all_eq_true.1 he zs[d] (List.getElem_mem hd)] at h; cases h

set_option maxHeartbeats 1000000 in
theorem c_l02Glue (b0 lo hi : Nat) (gv tv : Value) (G : List (ByteArray × Int)) (T : List (ByteArray × List Int)) (sv : List Value) (s : ByteArray) (w : World) (B0 : BoxV w b0 [gv, tv]) (h : RdS w lo hi gv tv G T sv) (hn : G.length ≤ 1048576) :
    Calls Try.prog 39 #[.pointer (some ⟨b0, 0, none⟩), .string s] w fun e w' => e = .returned (.int .i64 (idxF (nmP s) G + 1)) ∧ New w w' := by
  have HH := Lib.hid h
  have HB := Lib.hid B0
  obtain ⟨A, c, B, d, rfl, rfl⟩ := h.form
  have ha := rd_form h.glues
  have hb := rd_form h.tiles.outer
  obtain ⟨A', c', e1, _, ha⟩ := ha
  obtain ⟨B', d', e2, _, hb⟩ := hb
  obtain ⟨rfl, rfl⟩ : A = A' ∧ c = c' := by simpa using e1
  obtain ⟨rfl, rfl⟩ : B = B' ∧ d = d' := by simpa using e2
  have HA := Lib.hid ha
  clear ha hb e1 e2 h B0
  go_enter Try.func39, Try.ntmps39
  go_wp2
  go_loopw [5] (fun i wr => ∃ k : Nat, k ≤ G.length ∧ i = .int .i64 k ∧ Hid (∀ j (hj : j < G.length), j < k → nmP s G[j] = false) ∧ New w wr) (fun i _ => G.length - (intOf i).toNat)
  case atStart => exact ⟨0, Nat.zero_le _, rfl, Lib.hid (fun j _ hj => absurd hj (Nat.not_lt_zero _)), New.same _⟩
  case round =>
    obtain ⟨k, hk, rfl, HJ, hN⟩ := hrel
    have ⟨⟨bx0, by0⟩, _, bl0⟩ := (HB.out.new hN).at2
    by_cases hlt : k < G.length
    · obtain ⟨b, off, hAe⟩ := HA.out (by omega)
      subst hAe
      have p0 : (0 : Int) ≤ (k : Int) := by omega
      have p1 : (k : Int) < (G.length : Int) := by omega
      obtain ⟨⟨x0, x1⟩, bw⟩ := rd_gl HH.out.glues hN rfl hlt
      by_cases hp : G[k].1 = s
      · have g0 := sEq_yes hp
        have HP := Lib.hid (idxF_hit (nmP s) G k hlt HJ.out (by simp [nmP, hp]))
        clear hp
        go_wp2
        go_ret
        exact ⟨congrArg (fun q => Ending.returned (.int .i64 q)) (by rw [HP.out]), hN⟩
      · have g0 := sEq_no hp
        have HP := Lib.hid (show nmP s G[k] = false by simp [nmP, hp])
        clear hp
        go_wp2
        go_roundw
        case rel =>
          refine ⟨k + 1, by omega, by go_num, Lib.hid (fun j hj hjk => ?_), hN⟩
          by_cases e : j = k
          · subst e; exact HP.out
          · exact HJ.out j hj (by omega)
        case measure => simp [intOf]; omega
    · have hk' : k = G.length := by omega
      subst hk'
      have HP := Lib.hid (idxF_miss (nmP s) G (fun j hj => HJ.out j hj hj))
      go_wp2
      go_ret
      exact ⟨congrArg (fun q => Ending.returned (.int .i64 q)) (by rw [HP.out] <;> rfl), hN⟩

set_option maxHeartbeats 1000000 in
theorem c_l02Tile (b0 lo hi : Nat) (gv tv : Value) (G : List (ByteArray × Int)) (T : List (ByteArray × List Int)) (sv : List Value) (s : ByteArray) (w : World) (B0 : BoxV w b0 [gv, tv]) (h : RdS w lo hi gv tv G T sv) (hn : T.length ≤ 1048576) :
    Calls Try.prog 40 #[.pointer (some ⟨b0, 0, none⟩), .string s] w fun e w' => e = .returned (.int .i64 (idxF (nmP s) T)) ∧ New w w' := by
  have HH := Lib.hid h
  have HB := Lib.hid B0
  obtain ⟨A, c, B, d, rfl, rfl⟩ := h.form
  have ha := rd_form h.glues
  have hb := rd_form h.tiles.outer
  obtain ⟨A', c', e1, _, ha⟩ := ha
  obtain ⟨B', d', e2, _, hb⟩ := hb
  obtain ⟨rfl, rfl⟩ : A = A' ∧ c = c' := by simpa using e1
  obtain ⟨rfl, rfl⟩ : B = B' ∧ d = d' := by simpa using e2
  have HA := Lib.hid hb
  clear ha hb e1 e2 h B0
  go_enter Try.func40, Try.ntmps40
  go_wp2
  go_loopw [5] (fun i wr => ∃ k : Nat, k ≤ T.length ∧ i = .int .i64 k ∧ Hid (∀ j (hj : j < T.length), j < k → nmP s T[j] = false) ∧ New w wr) (fun i _ => T.length - (intOf i).toNat)
  case atStart => exact ⟨0, Nat.zero_le _, rfl, Lib.hid (fun j _ hj => absurd hj (Nat.not_lt_zero _)), New.same _⟩
  case round =>
    obtain ⟨k, hk, rfl, HJ, hN⟩ := hrel
    have ⟨⟨bx0, by0⟩, _, bl0⟩ := (HB.out.new hN).at2
    by_cases hlt : k < T.length
    · obtain ⟨b, off, hAe⟩ := HA.out (by omega)
      subst hAe
      have p0 : (0 : Int) ≤ (k : Int) := by omega
      have p1 : (k : Int) < (T.length : Int) := by omega
      obtain ⟨Ax, mx, ⟨x0, x1⟩, bw, rx, _⟩ := rd_tl HH.out.tiles hN rfl hlt
      by_cases hp : T[k].1 = s
      · have g0 := sEq_yes hp
        have HP := Lib.hid (idxF_hit (nmP s) T k hlt HJ.out (by simp [nmP, hp]))
        clear hp
        go_wp2
        go_ret
        exact ⟨congrArg (fun q => Ending.returned (.int .i64 q)) (by rw [HP.out]), hN⟩
      · have g0 := sEq_no hp
        have HP := Lib.hid (show nmP s T[k] = false by simp [nmP, hp])
        clear hp
        go_wp2
        go_roundw
        case rel =>
          refine ⟨k + 1, by omega, by go_num, Lib.hid (fun j hj hjk => ?_), hN⟩
          by_cases e : j = k
          · subst e; exact HP.out
          · exact HJ.out j hj (by omega)
        case measure => simp [intOf]; omega
    · have hk' : k = T.length := by omega
      subst hk'
      have HP := Lib.hid (idxF_miss (nmP s) T (fun j hj => HJ.out j hj hj))
      go_wp2
      go_ret
      exact ⟨congrArg (fun q => Ending.returned (.int .i64 q)) (by rw [HP.out] <;> rfl), hN⟩

set_option maxRecDepth 20000 in
set_option maxHeartbeats 8000000 in
theorem c_l02Ok (b0 lo hi : Nat) (gv tv : Value) (G : List (ByteArray × Int)) (T : List (ByteArray × List Int)) (sv : List Value) (w : World) (B0 : BoxV w b0 [gv, tv]) (h : RdS w lo hi gv tv G T sv) (hg : ∀ g ∈ G, g.1.size ≤ maxLen) (ht : ∀ t ∈ T, t.1.size ≤ maxLen) :
    Calls Try.prog 16 #[.pointer (some ⟨b0, 0, none⟩)] w fun e w' => e = .returned (.bool (setB G T)) ∧ New w w' := by
  have HH := Lib.hid h
  have HB := Lib.hid B0
  have HG := Lib.hid hg
  have HT := Lib.hid ht
  obtain ⟨A, c, B, d, rfl, rfl⟩ := h.form
  obtain ⟨A', c', e1, hm, ha⟩ := rd_form h.glues
  obtain ⟨B', d', e2, hm', hb⟩ := rd_form h.tiles.outer
  obtain ⟨rfl, rfl⟩ : A = A' ∧ c = c' := by simpa using e1
  obtain ⟨rfl, rfl⟩ : B = B' ∧ d = d' := by simpa using e2
  have HA := Lib.hid ha
  have HC := Lib.hid hb
  have ⟨⟨bx0, by0⟩, _, bl0⟩ := B0.at2
  clear ha hb e1 e2 h B0 hg ht
  by_cases l1 : 200 < G.length
  · have HS := Lib.hid (set_big (G := G) (T := T) (by simp <;> omega))
    have b1 : decide ((200 : Int) < (G.length : Int)) = true := by simp <;> omega
    go_enter Try.func16, Try.ntmps16
    go_wp2
    go_ret
    exact ⟨ret_bool HS.out.symm, New.same _⟩
  have b1 : decide ((200 : Int) < (G.length : Int)) = false := by simp <;> omega
  by_cases l2 : T.length < 1
  · have HS := Lib.hid (set_big (G := G) (T := T) (by rw [inB_no (by omega)]; simp))
    have b2 : decide ((T.length : Int) < 1) = true := by simp <;> omega
    go_enter Try.func16, Try.ntmps16
    go_wp2
    go_ret
    exact ⟨ret_bool HS.out.symm, New.same _⟩
  have b2 : decide ((T.length : Int) < 1) = false := by simp <;> omega
  by_cases l3 : 160 < T.length
  · have HS := Lib.hid (set_big (G := G) (T := T) (by rw [inB_no (by omega)]; simp))
    have b3 : decide ((160 : Int) < (T.length : Int)) = true := by simp <;> omega
    go_enter Try.func16, Try.ntmps16
    go_wp2
    go_ret
    exact ⟨ret_bool HS.out.symm, New.same _⟩
  have b3 : decide ((160 : Int) < (T.length : Int)) = false := by simp <;> omega
  have HY := Lib.hid (show (decide (G.length ≤ 200) && inB T.length 1 160) = true by rw [inB_yes (by omega) (by omega)]; simp <;> omega)
  go_enter Try.func16, Try.ntmps16
  go_wp2
  clear bx0 by0 bl0 b1 b2 b3
  go_loopw [3, 4] (fun i _ wr => ∃ k : Nat, k ≤ G.length ∧ i = .int .i64 k ∧ Hid (∀ j, j < k → gOk G j = true) ∧ New w wr) (fun i _ _ => G.length - (intOf i).toNat)
  case atStart => exact ⟨0, Nat.zero_le _, rfl, Lib.hid (fun j hj => absurd hj (Nat.not_lt_zero _)), New.same _⟩
  case round =>
    obtain ⟨k, hk, rfl, HJ, hN⟩ := hrel
    have ⟨⟨bx0, by0⟩, _, bl0⟩ := (HB.out.new hN).at2
    by_cases hlt : k < G.length
    · obtain ⟨b, off, hAe⟩ := HA.out (by omega)
      subst hAe
      have p0 : (0 : Int) ≤ (k : Int) := by omega
      have p1 : (k : Int) < (G.length : Int) := by omega
      obtain ⟨⟨x0, x1⟩, bw⟩ := rd_gl HH.out.glues hN rfl hlt
      have hsz := HG.out G[k] (List.getElem_mem hlt)
      have HO := Lib.hid (gOk_at hlt)
      have HI := Lib.hid (newAt_idx hlt)
      have N1 : New wr (wr.alloc (.cells #[.string G[k].1, .int .i64 G[k].2] 46)) := (New.same wr).box _
      have C1 := Lib.hid (fun (w : World) => c_specIsName G[k].1 w hsz)
      have C2 := Lib.hid (fun (w : World) => c_l00In G[k].2 1 4 w)
      have C3 := Lib.hid (c_l02Glue b0 lo hi _ _ G T sv G[k].1 _ ((HB.out.new hN).new N1) ((HH.out.new hN).new N1) (by omega))
      have e1 : IntKind.i64.wrap ((k : Int) + 1) = (k : Int) + 1 := IntWalk.i64_in _ (by omega)
      cases q1 : nameB G[k].1
      · have HS := Lib.hid (set_g (T := T) hlt (by rw [HO.out, q1]; rfl))
        have Q1 := Lib.hid q1
        clear q1
        go_wp2_with (go_at_call 37; refine (C1.out _).mono ?_; rintro e w1 ⟨rfl, rfl⟩; rw [Q1.out])
        go_ret
        exact ⟨ret_bool HS.out.symm, hN.step N1⟩
      · have Q1 := Lib.hid q1
        cases q2 : inB G[k].2 1 4
        · have HS := Lib.hid (set_g (T := T) hlt (by rw [HO.out, q1, q2]; rfl))
          have Q2 := Lib.hid q2
          clear q1 q2
          go_wp2_with (first | (go_at_call 37; refine (C1.out _).mono ?_; rintro e w1 ⟨rfl, rfl⟩; rw [Q1.out]) | (go_at_call 38; refine (C2.out _).mono ?_; rintro e w1 ⟨rfl, rfl⟩; rw [Q2.out]))
          go_ret
          exact ⟨ret_bool HS.out.symm, hN.step N1⟩
        · have Q2 := Lib.hid q2
          cases q3 : newAt G k G[k].1
          · have HS := Lib.hid (set_g (T := T) hlt (by rw [HO.out, q1, q2, q3]; rfl))
            have q4 : (idxF (nmP G[k].1) G + 1 != (k : Int) + 1) = true := by
              have := HI.out
              rw [q3] at this
              have := of_decide_eq_false this
              simp; omega
            clear q1 q2 q3
            go_wp2_with (first | (go_at_call 37; refine (C1.out _).mono ?_; rintro e w1 ⟨rfl, rfl⟩; rw [Q1.out]) | (go_at_call 38; refine (C2.out _).mono ?_; rintro e w1 ⟨rfl, rfl⟩; rw [Q2.out]) | (go_at_call 39; refine (C3.out).mono ?_; rintro e w1 ⟨rfl, n3⟩))
            go_ret
            exact ⟨ret_bool HS.out.symm, (hN.step N1).step n3⟩
          · have HP := Lib.hid (more_ HJ.out (by rw [HO.out, q1, q2, q3]; rfl))
            have q4 : (idxF (nmP G[k].1) G + 1 != (k : Int) + 1) = false := by
              have := HI.out
              rw [q3] at this
              have := of_decide_eq_true this
              simp; omega
            clear q1 q2 q3
            go_wp2_with (first | (go_at_call 37; refine (C1.out _).mono ?_; rintro e w1 ⟨rfl, rfl⟩; rw [Q1.out]) | (go_at_call 38; refine (C2.out _).mono ?_; rintro e w1 ⟨rfl, rfl⟩; rw [Q2.out]) | (go_at_call 39; refine (C3.out).mono ?_; rintro e w1 ⟨rfl, n3⟩))
            go_roundw
            case rel => exact ⟨k + 1, by omega, by go_num, HP, (hN.step N1).step n3⟩
            case measure => simp [intOf]; omega
    · have hk' : k = G.length := by omega
      subst hk'
      have HX := Lib.hid HJ.out
      clear HJ
      go_wp2
      clear bx0 by0 bl0
      go_loopw [5, 6, 7] (fun i _ _ wr => ∃ k : Nat, k ≤ T.length ∧ i = .int .i64 k ∧ Hid (∀ j, j < k → tOk G.length T j = true) ∧ New w wr) (fun i _ _ _ => T.length - (intOf i).toNat)
      case atStart => exact ⟨0, Nat.zero_le _, rfl, Lib.hid (fun j hj => absurd hj (Nat.not_lt_zero _)), hN⟩
      case round =>
        obtain ⟨k, hk, rfl, HJ, hM⟩ := hrel
        have ⟨⟨bx0, by0⟩, _, bl0⟩ := (HB.out.new hM).at2
        by_cases hlt : k < T.length
        · obtain ⟨b, off, hAe⟩ := HC.out (by omega)
          subst hAe
          have p0 : (0 : Int) ≤ (k : Int) := by omega
          have p1 : (k : Int) < (T.length : Int) := by omega
          obtain ⟨Ax, mx, ⟨x0, x1⟩, bw, rx, _⟩ := rd_tl HH.out.tiles hM rfl hlt
          have hsz := HT.out T[k] (List.getElem_mem hlt)
          have HO := Lib.hid (tOk_at (n := G.length) hlt)
          have HI := Lib.hid (newAt_idx hlt)
          have N1 : New wr (wr.alloc (.cells #[.string T[k].1, .slice Ax T[k].2.length mx] 48)) := (New.same wr).box _
          have D7 : BoxV (wr.alloc (.cells #[.string T[k].1, .slice Ax T[k].2.length mx] 48)) wr.heap.size [.string T[k].1, .slice Ax T[k].2.length mx] := .two (by go_simp) (by go_simp) (by go_simp) (by go_simp) (by simp)
          have C1 := Lib.hid (fun (w : World) => c_specIsName T[k].1 w hsz)
          have C3 := Lib.hid (c_l02Tile b0 lo hi _ _ G T sv T[k].1 _ ((HB.out.new hM).new N1) ((HH.out.new hM).new N1) (by omega))
          cases q1 : nameB T[k].1
          · have HS := Lib.hid (set_t hlt (by rw [HO.out, q1]; rfl))
            have Q1 := Lib.hid q1
            clear q1
            go_wp2_with (go_at_call 37; refine (C1.out _).mono ?_; rintro e w1 ⟨rfl, rfl⟩; rw [Q1.out])
            go_ret
            exact ⟨ret_bool HS.out.symm, hM.step N1⟩
          · have Q1 := Lib.hid q1
            by_cases q2 : T[k].2.length = 4
            · have b4 : ((T[k].2.length : Int) != 4) = false := by simp <;> omega
              cases q3 : newAt T k T[k].1
              · have HS := Lib.hid (set_t hlt (by rw [HO.out, q1, q3]; simp))
                have q4 : (idxF (nmP T[k].1) T != (k : Int)) = true := by
                  have := HI.out
                  rw [q3] at this
                  have := of_decide_eq_false this
                  simpa using this
                have Q2 := Lib.hid q2
                clear q1 q2 q3
                go_wp2_with (first | (go_at_call 37; refine (C1.out _).mono ?_; rintro e w1 ⟨rfl, rfl⟩; rw [Q1.out]) | (go_at_call 40; refine (C3.out).mono ?_; rintro e w1 ⟨rfl, n3⟩))
                go_ret
                exact ⟨ret_bool HS.out.symm, (hM.step N1).step n3⟩
              · have q4 : (idxF (nmP T[k].1) T != (k : Int)) = false := by
                  have := HI.out
                  rw [q3] at this
                  have := of_decide_eq_true this
                  simpa using this
                have HO2 := Lib.hid (show tOk G.length T k = T[k].2.all fun g => inB g 0 G.length by rw [HO.out, q1, q3, decide_eq_true q2]; rfl)
                have Q2 := Lib.hid q2
                clear q1 q2 q3
                go_wp2_with (first | (go_at_call 37; refine (C1.out _).mono ?_; rintro e w1 ⟨rfl, rfl⟩; rw [Q1.out]) | (go_at_call 40; refine (C3.out).mono ?_; rintro e w1 ⟨rfl, n3⟩))
                have hM3 := (hM.step N1).step n3
                have D8 := D7.new n3
                have hr3 := (rx.new N1).new n3
                generalize wr.heap.size = bt at *
                clear bx0 by0 bl0 x0 x1 bw b4 q4 D7 C3 N1 n3 rx
                go_loopw [7] (fun i wq => ∃ d : Nat, d ≤ 4 ∧ i = .int .i64 d ∧ Hid (∀ j (hj : j < T[k].2.length), j < d → inB T[k].2[j] 0 G.length = true) ∧ New w1 wq) (fun i _ => 4 - (intOf i).toNat)
                case atStart => exact ⟨0, by omega, rfl, Lib.hid (fun j _ hj => absurd hj (Nat.not_lt_zero _)), New.same _⟩
                case round =>
                  obtain ⟨d, hd, rfl, HD, hL⟩ := hrel
                  have ⟨⟨bx0, by0⟩, _, bl0⟩ := (HB.out.new (hM3.step hL)).at2
                  have ⟨⟨z0, z1⟩, _, zl⟩ := (D8.new hL).at2
                  by_cases hdl : d < 4
                  · have hd4 : d < T[k].2.length := by rw [Q2.out]; exact hdl
                    obtain ⟨bs, os, hAs⟩ : ∃ b off, Ax = some ⟨b, off, none⟩ := by
                      obtain ⟨_, _, e, _, hs⟩ := rd_form hr3
                      obtain ⟨b, off, hb⟩ := hs (by omega)
                      exact ⟨b, off, by cases e; exact hb⟩
                    subst hAs
                    obtain ⟨y0, yl⟩ := rd_i hr3 hL rfl hd4
                    have r0 : (0 : Int) ≤ (d : Int) := by omega
                    have r1 : (d : Int) < 4 := by omega
                    have r2 : (d : Int) < (T[k].2.length : Int) := by omega
                    have lb0 := Later.cell bx0 bl0
                    have lz := Later.cell z1 zl
                    have ly := Later.cell y0 yl
                    cases q5 : inB T[k].2[d] 0 G.length
                    · have HS := Lib.hid (set_t hlt (by rw [HO2.out, all_out hd4 q5]))
                      have C5 := Lib.hid (fun (w : World) => q5 ▸ c_l00In T[k].2[d] 0 G.length w)
                      clear q5
                      go_upto_region 18 with fail
                      (refine wp_region_later (by kernel_rfl) (by kernel_rfl) ?_; (repeat (go_big_quiet_step ((first | (go_at_call 38; exact later_same (C5.out _)))))); refine wpQuiet_nil ?_; intro wq hw'; obtain ⟨⟨wz, nq⟩, hwz⟩ := hw'; have hwz' : wq = wz := hwz; subst hwz'; clear hwz)
                      clear lb0 lz ly
                      go_wp2
                      go_ret
                      exact ⟨ret_bool HS.out.symm, (hM3.step hL).step nq⟩
                    · have Q5 := Lib.hid q5
                      have C5 := Lib.hid (fun (w : World) => q5 ▸ c_l00In T[k].2[d] 0 G.length w)
                      clear q5
                      go_upto_region 18 with fail
                      (refine wp_region_later (by kernel_rfl) (by kernel_rfl) ?_; (repeat (go_big_quiet_step ((first | (go_at_call 38; exact later_same (C5.out _)))))); refine wpQuiet_nil ?_; intro wq hw'; obtain ⟨⟨wz, nq⟩, hwz⟩ := hw'; have hwz' : wq = wz := hwz; subst hwz'; clear hwz)
                      clear lb0 lz ly
                      go_wp2
                      go_roundw
                      case rel =>
                        refine ⟨d + 1, by omega, by go_num, Lib.hid (fun j hj hjd => ?_), hL.step nq⟩
                        by_cases e : j = d
                        · subst e; exact Q5.out
                        · exact HD.out j hj (by omega)
                      case measure => simp [intOf]; omega
                  · have hd' : d = 4 := by omega
                    subst hd'
                    have HP := Lib.hid (more_ HJ.out (by rw [HO2.out]; exact all_in fun d hd => HD.out d hd (by have := Q2.out; omega)))
                    go_wp2
                    go_roundw
                    case rel => exact ⟨k + 1, by omega, by go_num, HP, hM3.step hL⟩
                    case measure => simp [intOf]; omega
            · have HS := Lib.hid (set_t hlt (by rw [HO.out, decide_eq_false q2]; simp))
              have b4 : ((T[k].2.length : Int) != 4) = true := by simp <;> omega
              clear q1 q2
              go_wp2_with (go_at_call 37; refine (C1.out _).mono ?_; rintro e w1 ⟨rfl, rfl⟩; rw [Q1.out])
              go_ret
              exact ⟨ret_bool HS.out.symm, hM.step N1⟩
        · have hk' : k = T.length := by omega
          subst hk'
          have HS := Lib.hid (set_yes HY.out HX.out HJ.out)
          go_wp2
          go_ret
          exact ⟨ret_bool HS.out.symm, hM⟩

end Go.Proofs.Ytcbifdfcllaaaaa
