/- Contracts of the laws' own marks on glues, tiles and sets. -/
import Derived.Test.YtcbifdfcllaaaaaGreatDoorMarkText
import Derived.Test.YtcbifdfcllaaaaaGreatDoorSet
import Derived.Test.YtcbifdfcllaaaaaGreatDoorInts
namespace Go.Proofs.YtcbifdfcllaaaaaGreatDoor
open Go.RowKit Go.Deep
set_option linter.unusedVariables false
set_option linter.unusedSimpArgs false

theorem Own.put {w : World} {lo hi g n c C : Nat} {e : TypeId} {xs : List Value} (h : Own w lo hi e C (.slice (some ⟨g, 0, none⟩) n c) n xs) (j : Nat) (u : Value) : Own (w.setCell ⟨g, j, none⟩ u) lo hi e C (.slice (some ⟨g, 0, none⟩) n c) n (xs.set j u) := by
  obtain ⟨h1, h2, h3⟩ := h
  exact ⟨(h1.stored j u).1, by simpa [World.setCell] using h2, h3⟩
theorem Own.form {w : World} {lo hi n C : Nat} {e : TypeId} {v : Value} {xs : List Value} (h : Own w lo hi e C v n xs) (hn : 0 < n) : ∃ g c, v = .slice (some ⟨g, 0, none⟩) n c ∧ lo ≤ g ∧ g < hi ∧ ∀ j, w.frozen? ⟨g, j, none⟩ = false := by
  obtain ⟨h1, h2, h3⟩ := h
  have hh := h1
  rcases h1.2 with ⟨rfl, rfl⟩ | ⟨g, c, cur, rfl, hb, _⟩
  · omega
  · exact ⟨g, c, rfl, hb, h3 g rfl, fun j => hh.frozenAt j⟩
/-- one of the rows takes other numbers -/
theorem OwnEach.upd {e : TypeId} {w : World} : ∀ {lo hi : Nat} {xs : List (List Int)} {sv : List Value} {k : Nat}, OwnEach e w lo hi xs sv → ∀ hk : k < xs.length, ∃ a b u, lo ≤ a ∧ a ≤ b ∧ b ≤ hi ∧ sv[k]? = some u ∧ Own w a b e 1 u xs[k].length (xs[k].map (Value.int .i64)) ∧
    ∀ w' ys, Fr a b w w' → Own w' a b e 1 u ys.length (ys.map (Value.int .i64)) → OwnEach e w' lo hi (xs.set k ys) sv
  | _, _, [], _, _, _, hk => absurd hk (by simp)
  | _, _, _ :: _, [], _, h, _ => h.elim
  | lo, hi, x :: xs, v :: sv, 0, h, hk => by
    obtain ⟨m, a, b, c⟩ := h
    have hl := c.le
    exact ⟨lo, m, v, Nat.le_refl _, a, hl.1, rfl, b, fun w' ys f o => ⟨m, a, o, c.fr f (.inr (Nat.le_refl _))⟩⟩
  | lo, hi, x :: xs, v :: sv, k + 1, h, hk => by
    obtain ⟨m, a, b, c⟩ := h
    obtain ⟨p, q, u, h1, h2, h3, h4, h5, h6⟩ := c.upd (by simpa using hk : k < xs.length)
    exact ⟨p, q, u, by omega, h2, h3, by simpa using h4, by simpa using h5, fun w' ys f o => ⟨m, a, b.fr f (.inl h1), by simpa using h6 w' ys f o⟩⟩

def mkG (m n : Nat) : List (ByteArray × Int) := (List.range n).map fun k => (mtS (m + 2 * k), ((m + 2 * k + 1 : Nat) : Int))
theorem mkG_len (m n : Nat) : (mkG m n).length = n := by simp [mkG]
theorem mkG_succ (m n : Nat) : mkG m (n + 1) = mkG m n ++ [(mtS (m + 2 * n), ((m + 2 * n + 1 : Nat) : Int))] := by simp [mkG, List.range_succ]
theorem mkG_get {m n k : Nat} (h : k < (mkG m n).length) : (mkG m n)[k] = (mtS (m + 2 * k), ((m + 2 * k + 1 : Nat) : Int)) := by simp [mkG]
def mkT (m : Nat) : List (ByteArray × List Int) → List (ByteArray × List Int)
  | [] => []
  | t :: r => (mtS m, marks ((m + 1 : Nat) : Int) t.2.length) :: mkT (m + 1 + t.2.length) r
def cntT : List (ByteArray × List Int) → Nat
  | [] => 0
  | t :: r => 1 + t.2.length + cntT r
theorem mkT_len : ∀ (T : List (ByteArray × List Int)) (m : Nat), (mkT m T).length = T.length
  | [], _ => rfl
  | _ :: r, _ => by simp [mkT, mkT_len r]
theorem cntT_snoc : ∀ (A : List (ByteArray × List Int)) (t : ByteArray × List Int), cntT (A ++ [t]) = cntT A + (1 + t.2.length)
  | [], t => by simp [cntT]
  | a :: A, t => by simp only [List.cons_append, cntT, cntT_snoc A t]; omega
theorem mkT_snoc : ∀ (A : List (ByteArray × List Int)) (t : ByteArray × List Int) (m : Nat), mkT m (A ++ [t]) = mkT m A ++ [(mtS (m + cntT A), marks ((m + cntT A + 1 : Nat) : Int) t.2.length)]
  | [], t, m => by simp [mkT, cntT]
  | a :: A, t, m => by
    simp only [List.cons_append, mkT, cntT, mkT_snoc A t]
    rw [show m + 1 + a.2.length + cntT A = m + (1 + a.2.length + cntT A) by omega]
theorem cntT_take {T : List (ByteArray × List Int)} {k : Nat} (hk : k < T.length) : cntT (T.take (k + 1)) = cntT (T.take k) + 1 + T[k].2.length := by
  rw [List.take_succ_eq_append_getElem hk, cntT_snoc]; omega
theorem cntT_le {T : List (ByteArray × List Int)} {b : Nat} (h : ∀ t ∈ T, t.2.length ≤ b) : cntT T ≤ T.length * (b + 1) := by
  induction T with
  | nil => simp [cntT]
  | cons t r ih =>
    have h1 := h t (List.mem_cons_self ..)
    have h2 := ih fun x hx => h x (List.mem_cons_of_mem _ hx)
    simp only [cntT, List.length_cons, Nat.add_mul, Nat.one_mul]
    omega
theorem cntT_app : ∀ (A B : List (ByteArray × List Int)), cntT (A ++ B) = cntT A + cntT B
  | [], B => by simp [cntT]
  | a :: A, B => by simp only [List.cons_append, cntT, cntT_app A B]; omega
theorem cntT_take_le (T : List (ByteArray × List Int)) (k : Nat) : cntT (T.take k) ≤ cntT T := by
  have h := cntT_app (T.take k) (T.drop k)
  rw [List.take_append_drop] at h
  omega
theorem mkT_set {m : Nat} {T : List (ByteArray × List Int)} {k : Nat} (hk : k < T.length) :
    (mkT m (T.take k) ++ T.drop k).set k (mtS (m + cntT (T.take k)), marks ((m + cntT (T.take k) + 1 : Nat) : Int) T[k].2.length) = mkT m (T.take (k + 1)) ++ T.drop (k + 1) := by
  have hl : (mkT m (T.take k)).length = k := by rw [mkT_len]; simp; omega
  rw [List.take_succ_eq_append_getElem hk, mkT_snoc, List.set_append_right (h := by omega), hl, Nat.sub_self, List.drop_eq_getElem_cons hk, List.set_cons_zero, List.append_assoc]
  rfl
theorem mkT_at {m : Nat} {T : List (ByteArray × List Int)} {k : Nat} (hk : k < T.length) : (mkT m (T.take k) ++ T.drop k)[k]? = some T[k] := by
  have hl : (mkT m (T.take k)).length = k := by rw [mkT_len]; simp; omega
  rw [List.getElem?_append_right (by omega), hl, List.drop_eq_getElem_cons hk]
  simp
theorem mkT_lenAt {m : Nat} {T : List (ByteArray × List Int)} {k : Nat} (hk : k ≤ T.length) : (mkT m (T.take k) ++ T.drop k).length = T.length := by
  rw [List.length_append, mkT_len]; simp; omega
theorem nestC_set : ∀ (T : List (ByteArray × List Int)) (sv : List Value) (k : Nat) (s : ByteArray) (x : List Int), sv.length = T.length → k < T.length → (nestC tlM T sv).set (k * 2) (.string s) = nestC tlM (T.set k (s, x)) sv
  | [], _, _, _, _, _, h => absurd h (by simp)
  | _ :: _, [], _, _, _, h, _ => absurd h (by simp)
  | t :: T, v :: sv, 0, s, x, _, _ => rfl
  | t :: T, v :: sv, k + 1, s, x, h, hk => by
    have ih := nestC_set T sv k s x (by simpa using h) (by simpa using hk)
    show (Value.string t.1 :: v :: nestC tlM T sv).set ((k + 1) * 2) _ = Value.string t.1 :: v :: nestC tlM (T.set k (s, x)) sv
    rw [show (k + 1) * 2 = k * 2 + 1 + 1 by omega, List.set_cons_succ, List.set_cons_succ, ih]

theorem markG_step {w : World} {base g n c : Nat} {e : TypeId} {m k : Nat} (h : Fill w base e 2 g n c ((mkG m k).flatMap glC)) (hk : k < n) :
    Fill ((w.setCell ⟨g, k * 2, none⟩ (.string (mtS (m + 2 * k)))).setCell ⟨g, k * 2 + 1, none⟩ (.int .i64 ((m + 2 * k + 1 : Nat) : Int))) base e 2 g n c ((mkG m (k + 1)).flatMap glC) := by
  have hl : ((mkG m k).flatMap glC).length = k * 2 := by rw [gl_len, mkG_len]
  have h1 := h.put (by omega) (.string (mtS (m + 2 * k)))
  have hl1 : ((mkG m k).flatMap glC ++ [Value.string (mtS (m + 2 * k))]).length = k * 2 + 1 := by simp [hl]
  have h2 := h1.put (by omega) (.int .i64 ((m + 2 * k + 1 : Nat) : Int))
  rw [hl1, hl] at h2
  rw [mkG_succ, List.flatMap_append]
  simpa [glC] using h2

set_option maxHeartbeats 2000000 in
theorem c_markGlueS (lo hi : Nat) (v : Value) (n : Nat) (xs : List Value) (m : Nat) (w : World) (h : Own w lo hi 72 2 v n xs) (h1 : m + n * 2 ≤ 4611686018427387904) :
    Calls Tryz.prog 29 #[v, .int .i64 m] w fun e w' => e = .returned (.int .i64 ((m + 2 * n : Nat) : Int)) ∧ Own w' lo hi 72 2 v n ((mkG m n).flatMap glC) ∧ Fr lo hi w w' := by
  obtain ⟨hown, hh, hg⟩ := h
  rcases hown.2 with ⟨rfl, rfl⟩ | ⟨g, c, cur, rfl, hb, hr⟩
  · go_enter Tryz.func29, Tryz.ntmps29
    go_wp2
    go_rounds 1
    go_ret
    exact ⟨ret_int (by simp), ⟨⟨by simp [mkG], .inl ⟨rfl, rfl⟩⟩, hh, hg⟩, Fr.refl _ _ _⟩
  · have hgh := hg g rfl
    have F0 : Fill w lo 72 2 g n c [] := Fill.start hown
    clear hr hown
    go_enter Tryz.func29, Tryz.ntmps29
    go_wp2
    go_loopw [1, 5] (fun q i wr => ∃ k q0 : Nat, k ≤ n ∧ i = .int .i64 k ∧ q = .int .i64 q0 ∧ Hid (q0 = m + 2 * k) ∧ q0 + 2 * (n - k) ≤ 4611686018427387904 ∧ Fill wr lo 72 2 g n c ((mkG m k).flatMap glC) ∧ Fr lo hi w wr) (fun _ i _ => n - (intOf i).toNat)
    case atStart => exact ⟨0, m, Nat.zero_le _, rfl, rfl, Lib.hid rfl, by omega, F0, Fr.refl _ _ _⟩
    case round =>
      obtain ⟨k, q0, hk, rfl, rfl, HQ, b1, hF, hN⟩ := hrel
      by_cases hlt : k < n
      · obtain ⟨u0, hu0⟩ := hF.cell (j := k * 2) (by omega)
        go_wp2_with fail
        refine (c_markText q0 _ (by omega)).mono ?_
        rintro e w2 ⟨rfl, n2⟩
        have hF2 := hF.new n2
        have hN2 := hN.trans (Fr.of_new (lo := lo) (hi := hi) n2)
        obtain ⟨u0, hu0⟩ := hF2.cell (j := k * 2) (by omega)
        obtain ⟨u1, hu1⟩ := hF2.cell (j := k * 2 + 1) (by omega)
        have hf0 := hF2.free (k * 2)
        have hf1 := hF2.free (k * 2 + 1)
        have S := Lib.hid (markG_step hF2 hlt)
        have T := Lib.hid ((hN2.setCell (p := ⟨g, k * 2, none⟩) hb hgh (.string (mtS (m + 2 * k)))).setCell (p := ⟨g, k * 2 + 1, none⟩) hb hgh (.int .i64 ((m + 2 * k + 1 : Nat) : Int)))
        rw [← HQ.out] at S T
        clear hF hN n2 hF2 hN2
        go_wp2
        go_roundw
        case rel => exact ⟨k + 1, q0 + 1 + 1, by omega, by go_num, by go_num, Lib.hid (by have := HQ.out; omega), by omega, S.out, T.out⟩
        case measure => simp [intOf]; omega
      · have hk' : k = n := by omega
        subst hk'
        have E := Lib.hid (show (q0 : Int) = ((m + 2 * k : Nat) : Int) by rw [HQ.out])
        go_wp2
        go_ret
        exact ⟨ret_int E.out, ⟨hF.done (by rw [gl_len, mkG_len]), Nat.le_trans hh hN.size, fun g' hg' => by simp [Value.ownBlock] at hg'; omega⟩, hN⟩

set_option maxHeartbeats 4000000 in
theorem c_markTileS (lo hi : Nat) (v : Value) (T : List (ByteArray × List Int)) (sv : List Value) (m : Nat) (w : World) (h : OwnN tlM Prod.snd 2 76 2 w lo hi v T sv) (h1 : m + cntT T ≤ 4611686018427387904) :
    Calls Tryz.prog 30 #[v, .int .i64 m] w fun e w' => e = .returned (.int .i64 ((m + cntT T : Nat) : Int)) ∧ OwnN tlM Prod.snd 2 76 2 w' lo hi v (mkT m T) sv ∧ Fr lo hi w w' := by
  have hsl := h.rd.len
  obtain ⟨mid, hm, hO, hE⟩ := h
  have hEl := hE.le
  by_cases hz : T.length = 0
  · obtain rfl : T = [] := List.eq_nil_of_length_eq_zero hz
    obtain ⟨A, c, rfl, _⟩ := rd_form hO.rd
    go_enter Tryz.func30, Tryz.ntmps30
    go_wp2
    go_rounds 1
    go_ret
    exact ⟨ret_int (by simp [cntT]), ⟨mid, hm, hO, hE⟩, Fr.refl _ _ _⟩
  · obtain ⟨g, c, rfl, hg0, hg1, _⟩ := hO.form (by omega)
    have H0 : Hid (Own w lo mid 76 2 (.slice (some ⟨g, 0, none⟩) T.length c) T.length (nestC tlM (mkT m (T.take 0) ++ T.drop 0) sv) ∧ OwnEach 2 w mid hi ((mkT m (T.take 0) ++ T.drop 0).map Prod.snd) sv) := Lib.hid (by simpa [mkT] using ⟨hO, hE⟩)
    have hTm : T.length ≤ 9223372036854775807 := hO.rd.2.1
    have hEb := hEl.1
    clear hO hE
    have HC := fun k (hk : k < T.length) => cntT_take (T := T) hk
    have HC' := Lib.hid HC
    clear HC
    go_enter Tryz.func30, Tryz.ntmps30
    go_wp2
    go_loopw [1, 5] (fun q i wr => ∃ k q0 : Nat, k ≤ T.length ∧ i = .int .i64 k ∧ q = .int .i64 q0 ∧ Hid (q0 = m + cntT (T.take k)) ∧ Hid (Own wr lo mid 76 2 (.slice (some ⟨g, 0, none⟩) T.length c) T.length (nestC tlM (mkT m (T.take k) ++ T.drop k) sv) ∧ OwnEach 2 wr mid hi ((mkT m (T.take k) ++ T.drop k).map Prod.snd) sv) ∧ Fr lo hi w wr) (fun _ i _ => T.length - (intOf i).toNat)
    case atStart => exact ⟨0, m, Nat.zero_le _, rfl, rfl, Lib.hid (by simp [cntT]), H0, Fr.refl _ _ _⟩
    case round =>
      obtain ⟨k, q0, hk, rfl, rfl, HQ, HO, hN⟩ := hrel
      clear H0
      by_cases hlt : k < T.length
      · have hql : q0 + 1 + T[k].2.length ≤ 4611686018427387904 := by
          have := HQ.out
          have := HC'.out k hlt
          have h3 : cntT (T.take (k + 1)) ≤ cntT T := cntT_take_le T (k + 1)
          omega
        go_wp2_with fail
        refine (c_markText q0 _ (by omega)).mono ?_
        rintro e w2 ⟨rfl, n2⟩
        obtain ⟨hO, hE⟩ := HO.out
        have hO2 := hO.new n2
        have hE2 := hE.new n2
        have hN2 := hN.trans (Fr.of_new (lo := lo) (hi := hi) n2)
        clear hO hE HO
        have hTk := mkT_at (m := m) hlt
        have hTl := mkT_lenAt (m := m) (T := T) (k := k) (by omega)
        generalize hT' : mkT m (T.take k) ++ T.drop k = T' at *
        have hlt' : k < T'.length := by omega
        have hTe : T'[k] = T[k] := by rw [List.getElem?_eq_getElem hlt'] at hTk; simpa using hTk
        have hk' : k < sv.length := by omega
        obtain ⟨z0, zl⟩ := rd_cell hO2.rd (New.same w2) rfl (by omega) (tl_get0 hlt' hk')
        obtain ⟨z1, _⟩ := rd_cell hO2.rd (New.same w2) rfl (by omega) (tl_get1 hlt' hk')
        obtain ⟨g', c', eg, _, _, hf⟩ := hO2.form (by omega)
        obtain ⟨rfl, rfl⟩ : g = g' ∧ c = c' := by simpa using eg
        have f0 := hf (k * 2)
        have fc : Fr lo mid w2 (w2.setCell ⟨g, k * 2, none⟩ (.string (mtS q0))) := (Fr.refl _ _ _).setCell (p := ⟨g, k * 2, none⟩) hg0 hg1 _
        have fh : Fr lo hi w (w2.setCell ⟨g, k * 2, none⟩ (.string (mtS q0))) := hN2.setCell (p := ⟨g, k * 2, none⟩) hg0 (by show g < hi; omega) _
        have HO2 := Lib.hid (hO2.put (k * 2) (.string (mtS q0)))
        obtain ⟨a, b, u, p1, p2, p3, p4, p5, p6⟩ := (hE2.fr fc (.inr (Nat.le_refl _))).upd (k := k) (by simpa using hlt')
        simp only [List.getElem_map, hTe] at p5
        have eu : u = sv[k] := by rw [List.getElem?_eq_getElem hk'] at p4; simpa using p4.symm
        rw [← eu] at z1
        obtain ⟨A, ca, rfl, _, _⟩ := rd_form p5.rd
        have HP := Lib.hid p5
        have HU := Lib.hid p6
        have HS : Hid (T'.set k (mtS q0, marks ((q0 : Int) + 1) T[k].2.length) = mkT m (T.take (k + 1)) ++ T.drop (k + 1)) := by
          have := mkT_set (m := m) hlt
          rw [← HQ.out, hT'] at this
          exact Lib.hid this
        have HL := Lib.hid (nestC_set T' sv k (mtS q0) (marks ((q0 : Int) + 1) T[k].2.length) (by omega) hlt')
        simp only [Nat.zero_add] at z0 z1
        clear p5 p6 hf hO2 hE2 eg eu p4 hTk hTe hT'
        go_wp2_with fail
        refine (c_markInt64S a b _ _ _ _ _ HP.out (by omega) (by omega)).mono ?_
        rintro e w3 ⟨rfl, hM, f3⟩
        have HM := Lib.hid hM
        clear hM
        go_wp2
        go_roundw
        case rel =>
          refine ⟨k + 1, q0 + 1 + T[k].2.length, by omega, by go_num, by simp, Lib.hid (by have := HC'.out k hlt; have := HQ.out; omega), Lib.hid ⟨?_, ?_⟩, fh.trans (f3.wide (by omega) (by omega))⟩
          · rw [← HS.out, ← HL.out]
            exact HO2.out.fr f3 (.inl p1)
          · rw [← HS.out, List.map_set]
            exact HU.out w3 _ f3 (by rw [marks_len]; exact HM.out)
        case measure => simp [intOf]; omega
      · have hk' : k = T.length := by omega
        subst hk'
        have E := Lib.hid (show (q0 : Int) = ((m + cntT T : Nat) : Int) by rw [HQ.out, List.take_length])
        have ⟨hO, hE⟩ := HO.out
        rw [List.take_length, List.drop_length, List.append_nil] at hO hE
        have HO' := Lib.hid hO
        have HE' := Lib.hid hE
        clear hO hE
        go_wp2
        go_ret
        exact ⟨ret_int E.out, ⟨mid, hm, by rw [mkT_len]; exact HO'.out, HE'.out⟩, hN⟩

/-- A call marks a set: it hands back the next number; the set holds the marks; nothing else has turned. -/
def MarkedS (w : World) (lo hi : Nat) (gv tv : Value) (G : List (ByteArray × Int)) (T : List (ByteArray × List Int)) (sv : List Value) (m : Nat) (E : Ending) (w' : World) : Prop :=
  E = .returned (.int .i64 ((m + 2 * G.length + cntT T : Nat) : Int)) ∧ OwnS w' lo hi gv tv (mkG m G.length) (mkT (m + 2 * G.length) T) sv ∧ Fr lo hi w w'

set_option maxHeartbeats 2000000 in
theorem c_markTileSet (lo hi : Nat) (gv tv : Value) (G : List (ByteArray × Int)) (T : List (ByteArray × List Int)) (sv : List Value) (m : Nat) (w : World) (h : OwnS w lo hi gv tv G T sv) (h1 : m + 2 * G.length + cntT T ≤ 4611686018427387904) :
    Calls Tryz.prog 10 #[.agg #[gv, tv], .int .i64 m] w (MarkedS w lo hi gv tv G T sv m) := by
  have hbd := h.bounds
  obtain ⟨A, c, B, d, rfl, rfl⟩ := h.rd.form
  obtain ⟨mid, hm, hO, hT⟩ := h
  have hTb := hT.bounds
  have n0 : New w (w.alloc (.cells #[.slice A G.length c, .slice B T.length d] 35)) := (New.same w).box _
  have B0 : BoxV (w.alloc (.cells #[.slice A G.length c, .slice B T.length d] 35)) w.heap.size [.slice A G.length c, .slice B T.length d] := .two (by go_simp) (by go_simp) (by go_simp) (by go_simp) (by simp)
  have HO := Lib.hid (hO.new n0)
  have HT := Lib.hid (hT.new n0)
  clear hO hT
  go_enter Tryz.func10, Tryz.ntmps10
  go_wp2_with fail
  generalize (w.alloc (.cells #[.slice A G.length c, .slice B T.length d] 35)) = W0 at *
  have q0 := n0.size
  refine (c_markGlueS lo mid _ _ _ m _ HO.out (by omega)).mono ?_
  rintro e w1 ⟨rfl, hG, f1⟩
  have q1 := f1.size
  have B1 := B0.fr f1 (by omega)
  have HT1 := Lib.hid (HT.out.fr f1 (.inr (Nat.le_refl _)))
  have HG := Lib.hid hG
  clear hG B0 HT
  obtain ⟨⟨c1, d1⟩, _, z1⟩ := B1.at2
  go_wp2_with fail
  refine (c_markTileS mid hi _ _ _ (m + 2 * G.length) _ HT1.out (by omega)).mono ?_
  rintro e w2 ⟨rfl, hT2, f2⟩
  have HT2 := Lib.hid hT2
  clear hT2 c1 d1 z1
  go_wp2
  go_ret
  refine ⟨rfl, ⟨mid, hm, ?_, HT2.out⟩, ((Fr.of_new n0).trans (f1.wide (Nat.le_refl _) (by omega))).trans (f2.wide hm (Nat.le_refl _))⟩
  rw [mkG_len]
  exact HG.out.fr f2 (.inl (Nat.le_refl _))
end Go.Proofs.YtcbifdfcllaaaaaGreatDoor
