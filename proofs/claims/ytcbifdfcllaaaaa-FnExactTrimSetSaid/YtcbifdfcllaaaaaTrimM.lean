/- Marks on a trimmed set and its numbers, whose blocks lie anywhere (no block twice); and the laws' look at marks on a set. -/
import Derived.Test.YtcbifdfcllaaaaaTight
namespace Go.Proofs.Ytcbifdfcllaaaaa
open Go.RowKit Go.Deep
set_option linter.unusedVariables false
set_option linter.unusedSimpArgs false

theorem own_tight {w : World} {base C n : Nat} {e : TypeId} {v : Value} {xs : List Value} (h : w.ownsRow base e C v n xs) : ∃ a b, base ≤ a ∧ Own w a b e C v n xs ∧ ∀ j, a ≤ j → j < b → v.ownBlock = some j := by
  have hl := h.lt
  have hh := h
  obtain ⟨h1, h2⟩ := h
  rcases h2 with ⟨rfl, rfl⟩ | ⟨g, cap, cur, rfl, hb, hg, hr⟩
  · exact ⟨base, 0, Nat.le_refl _, ⟨⟨h1, .inl ⟨rfl, rfl⟩⟩, Nat.zero_le _, fun g hg => by cases hg⟩, fun j _ hj => absurd hj (Nat.not_lt_zero _)⟩
  · have h3 := hl g rfl
    refine ⟨g, g + 1, h3.1, ⟨⟨h1, .inr ⟨g, cap, cur, rfl, Nat.le_refl _, hg, hr⟩⟩, h3.2, fun g' hg' => ?_⟩, fun j h1 h2 => ?_⟩
    · have : g = g' := by simpa [Value.ownBlock] using hg'
      omega
    · have : j = g := by omega
      subst this
      rfl

section
variable {w w' : World} {base : Nat} {gv tv av : Value} {G G' : List (ByteArray × Int)} {T : List (ByteArray × List Int)} {A A' : List Int} {sv : List Value} {a b : Nat}
theorem off_of {u v : Value} (h : ∀ g, u.ownBlock = some g → v.ownBlock ≠ some g) (ht : ∀ j, a ≤ j → j < b → u.ownBlock = some j) : ∀ g, v.ownBlock = some g → g < a ∨ b ≤ g := by
  intro g hg
  by_cases h1 : a ≤ g
  · by_cases h2 : g < b
    · exact absurd hg (h g (ht g h1 h2))
    · exact .inr (by omega)
  · exact .inl (by omega)
theorem off_of' {u v : Value} (h : ∀ g, v.ownBlock = some g → u.ownBlock ≠ some g) (ht : ∀ j, a ≤ j → j < b → u.ownBlock = some j) : ∀ g, v.ownBlock = some g → g < a ∨ b ≤ g :=
  off_of (fun g hu hv => h g hv hu) ht
theorem OwnTrim.parts (h : OwnTrim w base gv tv av G T A sv) : ((∀ g, gv.ownBlock = some g → tv.ownBlock ≠ some g) ∧ (∀ g, gv.ownBlock = some g → av.ownBlock ≠ some g) ∧ ∀ v ∈ sv, ∀ g, gv.ownBlock = some g → v.ownBlock ≠ some g) ∧
    ((∀ g, tv.ownBlock = some g → av.ownBlock ≠ some g) ∧ ∀ v ∈ sv, ∀ g, tv.ownBlock = some g → v.ownBlock ≠ some g) ∧ (∀ v ∈ sv, ∀ g, av.ownBlock = some g → v.ownBlock ≠ some g) ∧
    ∀ i j (hi : i < sv.length) (hj : j < sv.length), i ≠ j → ∀ g, sv[i].ownBlock = some g → sv[j].ownBlock ≠ some g := by
  have hd := h.dst
  unfold Dst at hd
  simp only [List.pairwise_cons, List.mem_cons, forall_eq_or_imp] at hd
  obtain ⟨⟨g1, g2, g3⟩, ⟨t1, t2⟩, a1, d1⟩ := hd
  refine ⟨⟨g1, g2, g3⟩, ⟨t1, t2⟩, a1, fun i j hi hj hne g hgi hgj => ?_⟩
  rw [List.pairwise_iff_getElem] at d1
  by_cases c : i < j
  · exact d1 i j hi hj c g hgi hgj
  · exact d1 j i hj hi (by omega) g hgj hgi
theorem OwnTrim.swapG (h : OwnTrim w base gv tv av G T A sv) (f : Fr a b w w') (ht : ∀ j, a ≤ j → j < b → gv.ownBlock = some j) (ho : w'.ownsRow base 46 2 gv G'.length (G'.flatMap glC)) : OwnTrim w' base gv tv av G' T A sv := by
  obtain ⟨⟨g1, g2, g3⟩, _, _, _⟩ := h.parts
  exact ⟨ho, ownsRow_fr h.row f (off_of g1 ht), ownsRow_fr h.at_ f (off_of g2 ht), h.len, fun k hk hk' => ownsRow_fr (h.each k hk hk') f (off_of (g3 _ (List.getElem_mem _)) ht), h.dst⟩
theorem OwnTrim.swapA (h : OwnTrim w base gv tv av G T A sv) (f : Fr a b w w') (ht : ∀ j, a ≤ j → j < b → av.ownBlock = some j) (ho : w'.ownsRow base 2 1 av A'.length (A'.map (Value.int .i64))) : OwnTrim w' base gv tv av G T A' sv := by
  obtain ⟨⟨g1, g2, g3⟩, ⟨t1, t2⟩, a1, _⟩ := h.parts
  exact ⟨ownsRow_fr h.gl f (off_of' g2 ht), ownsRow_fr h.row f (off_of' t1 ht), ho, h.len, fun k hk hk' => ownsRow_fr (h.each k hk hk') f (off_of (a1 _ (List.getElem_mem _)) ht), h.dst⟩
/-- a name is written -/
theorem OwnTrim.name {g c k : Nat} {s : ByteArray} (h : OwnTrim w base gv (.slice (some ⟨g, 0, none⟩) T.length c) av G T A sv) (hk : k < T.length) : OwnTrim (w.setCell ⟨g, k * 2, none⟩ (.string s)) base gv (.slice (some ⟨g, 0, none⟩) T.length c) av G (T.set k (s, T[k].2)) A sv := by
  obtain ⟨⟨g1, g2, g3⟩, ⟨t1, t2⟩, a1, d1⟩ := h.parts
  have f : Fr g (g + 1) w (w.setCell ⟨g, k * 2, none⟩ (.string s)) := (Fr.refl _ _ _).setCell (p := ⟨g, k * 2, none⟩) (Nat.le_refl _) (Nat.lt_succ_self _) _
  have ht : ∀ j, g ≤ j → j < g + 1 → (Value.slice (some ⟨g, 0, none⟩) T.length c).ownBlock = some j := fun j h1 h2 => by
    have : j = g := by omega
    subst this
    rfl
  have hs := (h.row.stored (k * 2) (.string s)).1
  rw [nestC_set T sv k s T[k].2 h.len hk] at hs
  refine ⟨ownsRow_fr h.gl f (off_of' g1 ht), by rw [List.length_set]; exact hs, ownsRow_fr h.at_ f (off_of t1 ht), by rw [List.length_set]; exact h.len, fun j hj hj' => ?_, h.dst⟩
  have hj2 : j < T.length := by simpa using hj
  have e : (T.set k (s, T[k].2))[j].2 = T[j].2 := by
    rw [List.getElem_set]
    by_cases e : k = j
    · subst e; simp
    · simp [e]
  rw [e]
  exact ownsRow_fr (h.each j hj2 hj') f (off_of (t2 _ (List.getElem_mem _)) ht)
/-- the sides of a tile are written -/
theorem OwnTrim.sides {k : Nat} {ys : List Int} (h : OwnTrim w base gv tv av G T A sv) (hk : k < T.length) (hk' : k < sv.length) (f : Fr a b w w') (ht : ∀ j, a ≤ j → j < b → sv[k].ownBlock = some j) (ho : w'.ownsRow base 2 1 sv[k] ys.length (ys.map (Value.int .i64))) :
    OwnTrim w' base gv tv av G (T.set k (T[k].1, ys)) A sv := by
  obtain ⟨⟨g1, g2, g3⟩, ⟨t1, t2⟩, a1, d1⟩ := h.parts
  have hm := List.getElem_mem hk'
  refine ⟨ownsRow_fr h.gl f (off_of' (g3 _ hm) ht), ?_, ownsRow_fr h.at_ f (off_of' (a1 _ hm) ht), by rw [List.length_set]; exact h.len, fun j hj hj' => ?_, h.dst⟩
  · have e : nestC tlM (T.set k (T[k].1, ys)) sv = nestC tlM T sv := by
      rw [← nestC_set T sv k T[k].1 ys h.len hk]
      apply List.ext_getElem?
      intro j
      rw [List.getElem?_set]
      by_cases e : k * 2 = j
      · subst e
        rw [if_pos rfl, tl_get0 hk hk']
        have hl := nestC_len (mk := tlM) (C := 2) (fun _ _ => rfl) T sv h.len
        rw [if_pos (by omega)]
      · rw [if_neg e]
    rw [e, List.length_set]
    exact ownsRow_fr h.row f (off_of' (t2 _ hm) ht)
  · have hj2 : j < T.length := by simpa using hj
    by_cases e : k = j
    · subst e
      simp only [List.getElem_set_self]
      exact ho
    · simp only [List.getElem_set_ne e]
      exact ownsRow_fr (h.each j hj2 hj') f (off_of (d1 k j hk' hj' e) ht)
end

/-- .. and the blocks lie below hi -/
structure OwnTI (w : World) (lo hi : Nat) (gv tv av : Value) (G : List (ByteArray × Int)) (T : List (ByteArray × List Int)) (A : List Int) (sv : List Value) : Prop where
  own : OwnTrim w lo gv tv av G T A sv
  top : hi ≤ w.heap.size
  lt : ∀ v ∈ gv :: tv :: av :: sv, ∀ g, v.ownBlock = some g → g < hi
section
variable {w w' : World} {lo hi lo' hi' : Nat} {gv tv av : Value} {G : List (ByteArray × Int)} {T : List (ByteArray × List Int)} {A : List Int} {sv : List Value}
theorem OwnTI.of (h : OwnTrim w lo gv tv av G T A sv) : OwnTI w lo w.heap.size gv tv av G T A sv := ⟨h, Nat.le_refl _, fun v hv g hg => (h.blk v hv g hg).2⟩
theorem OwnTI.new (h : OwnTI w lo hi gv tv av G T A sv) (n : New w w') : OwnTI w' lo hi gv tv av G T A sv := ⟨h.own.new n, Nat.le_trans h.top n.size, h.lt⟩
theorem OwnTI.ge (h : OwnTI w lo hi gv tv av G T A sv) : ∀ v ∈ gv :: tv :: av :: sv, ∀ g, v.ownBlock = some g → lo ≤ g := fun v hv g hg => (h.own.blk v hv g hg).1
theorem OwnTI.fr (h : OwnTI w lo hi gv tv av G T A sv) (f : Fr lo' hi' w w') (ho : hi ≤ lo' ∨ hi' ≤ lo) : OwnTI w' lo hi gv tv av G T A sv := by
  have key : ∀ {e C v n xs}, v ∈ gv :: tv :: av :: sv → w.ownsRow lo e C v n xs → w'.ownsRow lo e C v n xs := fun {e C v n xs} hv hr => ownsRow_fr hr f fun g hg => by
    have h1 := h.lt v hv g hg
    have h2 := h.ge v hv g hg
    omega
  exact ⟨⟨key (by simp) h.own.gl, key (by simp) h.own.row, key (by simp) h.own.at_, h.own.len, fun k hk hk' => key (by simp) (h.own.each k hk hk'), h.own.dst⟩, Nat.le_trans h.top f.size, h.lt⟩
theorem OwnTI.rdS (h : OwnTI w lo hi gv tv av G T A sv) (hl : lo ≤ hi) : RdS w lo w.heap.size gv tv G T sv := h.own.rdS
/-- a read of it lies below hi -/
theorem rd_below {e : TypeId} {C n : Nat} {v : Value} {xs : List Value} (h : w.ownsRow lo e C v n xs) (hh : hi ≤ w.heap.size) (hl : ∀ g, v.ownBlock = some g → g < hi) : Rd w lo hi C v n xs := (show Own w lo hi e C v n xs from ⟨h, hh, hl⟩).rd
theorem OwnTI.rd (h : OwnTI w lo hi gv tv av G T A sv) : RdS w lo hi gv tv G T sv :=
  ⟨rd_below h.own.gl h.top (h.lt _ (by simp)), h.own.len, rd_below h.own.row h.top (h.lt _ (by simp)), fun k hk hk' => rd_below (h.own.each k hk hk') h.top (h.lt _ (by simp))⟩
theorem OwnTI.rdA (h : OwnTI w lo hi gv tv av G T A sv) : RdI w lo hi av A := rd_below h.own.at_ h.top (h.lt _ (by simp))
theorem OwnTI.rdM {m : Int} {n : Nat} (h : OwnTI w lo hi gv tv av G T (marks m n) sv) : Rd w lo hi 1 av n ((marks m n).map (Value.int .i64)) := by
  have h1 : Rd w lo hi 1 av (marks m n).length ((marks m n).map (Value.int .i64)) := h.rdA
  have h2 : (marks m n).length = n := marks_len m n
  rwa [h2] at h1
theorem tight_in {v : Value} {a b : Nat} (h1 : ∀ j, a ≤ j → j < b → v.ownBlock = some j) (ha : lo ≤ a) (hv : ∀ g, v.ownBlock = some g → g < hi) (f : Fr a b w w') : Fr lo hi w w' :=
  ⟨f.os, f.tape, f.output, f.size, fun k hk ho => f.block k hk (by
    by_cases c : a ≤ k
    · by_cases c2 : k < b
      · have := hv k (h1 k c c2)
        omega
      · exact .inr (by omega)
    · exact .inl (by omega))⟩
end

theorem mkT_get : ∀ (T : List (ByteArray × List Int)) (m k : Nat) (h : k < T.length), (mkT m T)[k]? = some (mtS (m + cntT (T.take k)), marks ((m + cntT (T.take k) + 1 : Nat) : Int) T[k].2.length)
  | [], _, _, h => absurd h (by simp)
  | t :: r, m, 0, _ => by simp [mkT, cntT]
  | t :: r, m, k + 1, h => by
    have ih := mkT_get r (m + 1 + t.2.length) k (by simpa using h)
    simp only [mkT, List.getElem?_cons_succ, ih, List.take_succ_cons, cntT, List.getElem_cons_succ]
    rw [show m + 1 + t.2.length + cntT (r.take k) = m + (1 + t.2.length + cntT (r.take k)) by omega]

set_option maxHeartbeats 4000000 in
theorem c_markTileS_t (lo hi : Nat) (gv v av : Value) (G : List (ByteArray × Int)) (T : List (ByteArray × List Int)) (A : List Int) (sv : List Value) (m : Nat) (w : World) (h : OwnTI w lo hi gv v av G T A sv) (h1 : m + cntT T ≤ 4611686018427387904) (h2 : T.length ≤ 1048576) :
    Calls Try.prog 32 #[v, .int .i64 m] w fun e w' => e = .returned (.int .i64 ((m + cntT T : Nat) : Int)) ∧ OwnTI w' lo hi gv v av G (mkT m T) A sv ∧ Fr lo hi w w' := by
  have hsl := h.own.len
  by_cases hz : T.length = 0
  · obtain rfl : T = [] := List.eq_nil_of_length_eq_zero hz
    obtain ⟨A1, c, rfl, _⟩ := rd_form h.rd.tiles.outer
    clear hsl
    have HO := Lib.hid h
    clear h
    go_enter Try.func32, Try.ntmps32
    go_wp2
    go_rounds 1
    go_ret
    exact ⟨ret_int (by simp [cntT]), HO.out, Fr.refl _ _ _⟩
  · obtain ⟨g, c, rfl, _, _⟩ := (Own.of h.own.row).form (by omega)
    have hg0 := h.ge (.slice (some ⟨g, 0, none⟩) T.length c) (by simp) g rfl
    have hg1 := h.lt (.slice (some ⟨g, 0, none⟩) T.length c) (by simp) g rfl
    have H0 : Hid (OwnTI w lo hi gv (.slice (some ⟨g, 0, none⟩) T.length c) av G (mkT m (T.take 0) ++ T.drop 0) A sv) := Lib.hid (by simpa [mkT] using h)
    have HC := Lib.hid (fun k (hk : k < T.length) => cntT_take (T := T) hk)
    have HL := Lib.hid hsl
    clear h hsl
    go_enter Try.func32, Try.ntmps32
    go_wp2
    go_loopw [1, 5] (fun q i wr => ∃ k q0 : Nat, k ≤ T.length ∧ i = .int .i64 k ∧ q = .int .i64 q0 ∧ Hid (q0 = m + cntT (T.take k)) ∧ Hid (OwnTI wr lo hi gv (.slice (some ⟨g, 0, none⟩) T.length c) av G (mkT m (T.take k) ++ T.drop k) A sv) ∧ Fr lo hi w wr) (fun _ i _ => T.length - (intOf i).toNat)
    case atStart => exact ⟨0, m, Nat.zero_le _, rfl, rfl, Lib.hid (by simp [cntT]), H0, Fr.refl _ _ _⟩
    case round =>
      obtain ⟨k, q0, hk, rfl, rfl, HQ, HO, hN⟩ := hrel
      clear H0
      by_cases hlt : k < T.length
      · have hql : q0 + 1 + T[k].2.length ≤ 4611686018427387904 := by
          have := HQ.out
          have := HC.out k hlt
          have h3 : cntT (T.take (k + 1)) ≤ cntT T := cntT_take_le T (k + 1)
          omega
        go_wp2_with fail
        refine (c_markText q0 _ (by omega)).mono ?_
        rintro e w2 ⟨rfl, n2⟩
        have hO := HO.out.new n2
        have hN2 := hN.trans (Fr.of_new (lo := lo) (hi := hi) n2)
        clear HO
        have hTk := mkT_at (m := m) hlt
        have hTl := mkT_lenAt (m := m) (T := T) (k := k) (by omega)
        have hTS := mkT_set (m := m) hlt
        rw [← HQ.out] at hTS
        generalize hT' : mkT m (T.take k) ++ T.drop k = T' at *
        have hlt' : k < T'.length := by omega
        have hTe : T'[k] = T[k] := by rw [List.getElem?_eq_getElem hlt'] at hTk; simpa using hTk
        have hk' : k < sv.length := by have := HL.out; omega
        have HLT := Lib.hid hO.lt
        rw [← hTl] at hO
        obtain ⟨z0, zl⟩ := rd_cell hO.rd.tiles.outer (New.same w2) rfl (by omega) (tl_get0 hlt' hk')
        obtain ⟨z1, _⟩ := rd_cell hO.rd.tiles.outer (New.same w2) rfl (by omega) (tl_get1 hlt' hk')
        have f0 := hO.own.row.frozenAt (k * 2)
        have hO2 := hO.own.name (s := mtS q0) hlt'
        rw [hTl] at hO2
        have hrow := hO2.each k (by simpa using hlt') hk'
        have e2 : (T'.set k (mtS q0, T'[k].2))[k]'(by simpa using hlt') = (mtS q0, T'[k].2) := by simp
        rw [e2] at hrow
        simp only [hTe] at hrow hO2
        obtain ⟨a, b, ha, hrw, ht⟩ := own_tight hrow
        obtain ⟨Ax, cx, ex, _, _⟩ := rd_form hrw.rd
        have fh : Fr lo hi w (w2.setCell ⟨g, k * 2, none⟩ (.string (mtS q0))) := hN2.setCell (p := ⟨g, k * 2, none⟩) hg0 hg1 _
        have HS2 := Lib.hid hO2
        have HP := Lib.hid hrw
        have HT := Lib.hid ht
        have HX := Lib.hid ex
        have hin := hO.lt sv[k] (by simp)
        have HI := Lib.hid hin
        have HTS := Lib.hid hTS
        have hzs : hi ≤ (w2.setCell ⟨g, k * 2, none⟩ (.string (mtS q0))).heap.size := by simpa [World.setCell] using hO.top
        simp only [Nat.zero_add, ex] at z0 z1
        have HP' : Hid (Own (w2.setCell ⟨g, k * 2, none⟩ (.string (mtS q0))) a b 2 1 (.slice Ax T[k].2.length cx) T[k].2.length (T[k].2.map (Value.int .i64))) := Lib.hid (by rw [← ex]; exact hrw)
        clear hO hO2 hrow hrw ht ex e2 hTk hin hTS n2
        go_wp2_with fail
        refine (c_markInt64S a b _ _ _ _ _ HP'.out (by omega) (by omega)).mono ?_
        rintro e w3 ⟨rfl, hM, f3⟩
        have HM := Lib.hid hM
        clear hM
        have hsz := f3.size
        go_wp2
        go_roundw
        case rel =>
          refine ⟨k + 1, q0 + 1 + T[k].2.length, by omega, by go_num, by simp, Lib.hid (by have := HC.out k hlt; have := HQ.out; omega), Lib.hid ?_, fh.trans (tight_in HT.out ha HI.out f3)⟩
          have hM := HM.out.1
          rw [← HX.out] at hM
          have hS := HS2.out.sides (ys := marks ((q0 : Int) + 1) T[k].2.length) (by simpa using hlt') hk' f3 HT.out (by rw [marks_len]; exact ownsRow_wide hM ha)
          have e3 : (T'.set k (mtS q0, T[k].2)).set k (((T'.set k (mtS q0, T[k].2))[k]'(by simpa using hlt')).1, marks ((q0 : Int) + 1) T[k].2.length) = T'.set k (mtS q0, marks ((q0 : Int) + 1) T[k].2.length) := by simp
          rw [e3] at hS
          have e4 := HTS.out
          rw [show (((q0 + 1 : Nat) : Int)) = (q0 : Int) + 1 by omega] at e4
          rw [e4] at hS
          exact ⟨hS, by omega, HLT.out⟩
        case measure => simp [intOf]; omega
      · have hk' : k = T.length := by omega
        subst hk'
        have E := Lib.hid (show (q0 : Int) = ((m + cntT T : Nat) : Int) by rw [HQ.out, List.take_length])
        have hO := HO.out
        rw [List.take_length, List.drop_length, List.append_nil] at hO
        have HO' := Lib.hid hO
        clear hO HO
        go_wp2
        go_ret
        exact ⟨ret_int E.out, HO'.out, hN⟩

set_option maxHeartbeats 2000000 in
theorem c_markTrim (lo hi : Nat) (gv tv av : Value) (G : List (ByteArray × Int)) (T : List (ByteArray × List Int)) (A : List Int) (sv : List Value) (m : Nat) (w : World) (h : OwnTI w lo hi gv tv av G T A sv) (h1 : m + 2 * G.length + cntT T ≤ 4611686018427387904) (h2 : T.length ≤ 1048576) (hlo : lo ≤ hi) :
    Calls Try.prog 10 #[.agg #[gv, tv], .int .i64 m] w fun e w' => e = .returned (.int .i64 ((m + 2 * G.length + cntT T : Nat) : Int)) ∧ OwnTI w' lo hi gv tv av (mkG m G.length) (mkT (m + 2 * G.length) T) A sv ∧ Fr lo hi w w' := by
  obtain ⟨A1, c, B, d, rfl, rfl⟩ := h.rd.form
  have n0 : New w (w.alloc (.cells #[.slice A1 G.length c, .slice B T.length d] 30)) := (New.same w).box _
  have B0 : BoxV (w.alloc (.cells #[.slice A1 G.length c, .slice B T.length d] 30)) w.heap.size [.slice A1 G.length c, .slice B T.length d] := .two (by go_simp) (by go_simp) (by go_simp) (by go_simp) (by simp)
  have HO := Lib.hid (h.new n0)
  have hhi : hi ≤ w.heap.size := h.top
  clear h
  go_enter Try.func10, Try.ntmps10
  go_wp2_with fail
  generalize (w.alloc (.cells #[.slice A1 G.length c, .slice B T.length d] 30)) = W0 at *
  have q0 := n0.size
  obtain ⟨a, b, ha, hrw, ht⟩ := own_tight HO.out.own.gl
  have HT := Lib.hid ht
  have HLT := Lib.hid HO.out.lt
  clear ht
  refine (c_markGlueS a b _ _ _ m _ hrw (by omega)).mono ?_
  rintro e w1 ⟨rfl, hG, f1⟩
  have HF := Lib.hid (tight_in (lo := lo) (hi := hi) HT.out ha (HLT.out _ (by simp)) f1)
  have HG : Hid (OwnTI w1 lo hi (.slice A1 G.length c) (.slice B T.length d) av (mkG m G.length) T A sv) := Lib.hid ⟨HO.out.own.swapG f1 HT.out (by rw [mkG_len]; exact ownsRow_wide hG.1 ha), Nat.le_trans HO.out.top f1.size, HLT.out⟩
  have B1 := B0.fr HF.out (.inr hhi)
  obtain ⟨⟨c1, d1⟩, _, z1⟩ := B1.at2
  clear hrw hG B0 f1 HO
  go_wp2_with fail
  refine (c_markTileS_t lo hi _ _ av _ T A sv (m + 2 * G.length) _ HG.out (by omega) h2).mono ?_
  rintro e w2 ⟨rfl, hT2, f2⟩
  have HT2 := Lib.hid hT2
  clear hT2 c1 d1 z1
  go_wp2
  go_ret
  exact ⟨rfl, HT2.out, ((Fr.of_new n0).trans HF.out).trans f2⟩
theorem c_markTrimA (lo hi : Nat) (gv tv av : Value) (G : List (ByteArray × Int)) (T : List (ByteArray × List Int)) (A : List Int) (sv : List Value) (m : Int) (w : World) (h : OwnTI w lo hi gv tv av G T A sv) (h0 : 0 ≤ m) (h1 : m + (A.length : Int) ≤ 4611686018427387904) :
    Calls Try.prog 11 #[av, .int .i64 m] w fun e w' => e = .returned (.int .i64 (m + (A.length : Int))) ∧ OwnTI w' lo hi gv tv av G T (marks m A.length) sv ∧ Fr lo hi w w' := by
  obtain ⟨a, b, ha, hrw, ht⟩ := own_tight h.own.at_
  refine (c_markInt64S a b _ _ _ m _ hrw h0 h1).mono ?_
  rintro e w1 ⟨rfl, hM, f1⟩
  exact ⟨rfl, ⟨h.own.swapA f1 ht (by rw [marks_len]; exact ownsRow_wide hM.1 ha), Nat.le_trans h.top f1.size, h.lt⟩, tight_in ht ha (h.lt _ (by simp)) f1⟩

set_option maxHeartbeats 2000000 in
theorem c_heldGlueS (lo hi : Nat) (v : Value) (n m : Nat) (w : World) (h : RdG w lo hi v (mkG m n)) (h1 : m + 2 * n ≤ 4611686018427387904) :
    Calls Try.prog 33 #[v, .int .i64 m] w fun e w' => e = .returned (.int .i64 ((m + 2 * n : Nat) : Int)) ∧ New w w' := by
  have HR := Lib.hid h
  obtain ⟨A, c, rfl, hm, ha⟩ := rd_form h
  have hl := mkG_len m n
  have HA : Hid (0 < n → ∃ b off, A = some ⟨b, off, none⟩) := Lib.hid (by rw [hl] at ha; exact ha)
  have HL := Lib.hid hl
  have hv : Hid ((Value.slice A (mkG m n).length c) = .slice A n c) := Lib.hid (by rw [hl])
  rw [hl] at hm
  clear ha h
  rw [hl]
  clear hl
  go_enter Try.func33, Try.ntmps33
  go_wp2
  go_loopw [1, 5] (fun q i wr => ∃ k q0 : Nat, k ≤ n ∧ i = .int .i64 k ∧ q = .int .i64 q0 ∧ Hid (q0 = m + 2 * k) ∧ q0 + 2 * (n - k) ≤ 4611686018427387904 ∧ New w wr) (fun _ i _ => n - (intOf i).toNat)
  case atStart => exact ⟨0, m, Nat.zero_le _, rfl, rfl, Lib.hid rfl, by omega, New.same _⟩
  case round =>
    obtain ⟨k, q0, hk, rfl, rfl, HQ, b1, hN⟩ := hrel
    by_cases hlt : k < n
    · obtain ⟨b, off, hAe⟩ := HA.out (by omega)
      subst hAe
      have hlt' : k < (mkG m n).length := by rw [HL.out]; exact hlt
      have p0 : (0 : Int) ≤ (k : Int) := by omega
      have p1 : (k : Int) < (n : Int) := by omega
      obtain ⟨⟨x0, x1⟩, xl⟩ := rd_gl HR.out hN rfl hlt'
      rw [mkG_get] at x0 x1
      simp only [← HQ.out] at x0 x1
      have eX : ((mtS q0).toList == (mtS q0).toList) = true := beq_self_eq_true _
      go_upto_region 4 with fail
      have l0 := Later.cell x0 xl
      have C1 := Lib.hid (fun (t : Later wr) => c_markText q0 t.w (by omega))
      (refine wp_region_later (by kernel_rfl) (by kernel_rfl) ?_; (repeat (go_big_quiet_step ((go_at_call 51; exact later_of (C1.out _))))); refine wpQuiet_nil ?_; intro wq hw'; obtain ⟨⟨wz, nq⟩, hwz⟩ := hw'; have hwz' : wq = wz := hwz; subst hwz'; clear hwz)
      clear x0 hlt'
      have x2 := (nq.cell (p := ⟨b, off + k * 2 + 1, none⟩) xl).trans x1
      have xl2 := Nat.lt_of_lt_of_le xl nq.size
      go_wp2
      go_roundw
      case rel => exact ⟨k + 1, q0 + 1 + 1, by omega, by go_num, by go_num, Lib.hid (by have := HQ.out; omega), by omega, hN.step nq⟩
      case measure => simp [intOf]; omega
    · have hk' : k = n := by omega
      subst hk'
      have E := Lib.hid (show (q0 : Int) = ((m + 2 * k : Nat) : Int) by rw [HQ.out])
      go_wp2
      go_ret
      exact ⟨ret_int E.out, hN⟩

set_option maxHeartbeats 2000000 in
theorem c_heldTileS (lo hi : Nat) (v : Value) (T : List (ByteArray × List Int)) (sv : List Value) (m : Nat) (w : World) (h : RdT w lo hi v (mkT m T) sv) (h1 : m + cntT T ≤ 4611686018427387904) (h2 : T.length ≤ 1048576) :
    Calls Try.prog 34 #[v, .int .i64 m] w fun e w' => e = .returned (.int .i64 ((m + cntT T : Nat) : Int)) ∧ New w w' := by
  have HR := Lib.hid h
  obtain ⟨A, c, rfl, hm, ha⟩ := rd_form h.outer
  have hl := mkT_len T m
  have HA : Hid (0 < T.length → ∃ b off, A = some ⟨b, off, none⟩) := Lib.hid (by rw [hl] at ha; exact ha)
  have HL := Lib.hid hl
  rw [hl] at hm
  clear ha h
  rw [hl]
  clear hl
  have HC := Lib.hid (fun k (hk : k < T.length) => cntT_take (T := T) hk)
  go_enter Try.func34, Try.ntmps34
  go_wp2
  go_loopw [1, 5] (fun q i wr => ∃ k q0 : Nat, k ≤ T.length ∧ i = .int .i64 k ∧ q = .int .i64 q0 ∧ Hid (q0 = m + cntT (T.take k)) ∧ New w wr) (fun _ i _ => T.length - (intOf i).toNat)
  case atStart => exact ⟨0, m, Nat.zero_le _, rfl, rfl, Lib.hid (by simp [cntT]), New.same _⟩
  case round =>
    obtain ⟨k, q0, hk, rfl, rfl, HQ, hN⟩ := hrel
    by_cases hlt : k < T.length
    · have hql : q0 + 1 + T[k].2.length ≤ 4611686018427387904 := by
        have := HQ.out
        have := HC.out k hlt
        have h3 : cntT (T.take (k + 1)) ≤ cntT T := cntT_take_le T (k + 1)
        omega
      obtain ⟨b, off, hAe⟩ := HA.out (by omega)
      subst hAe
      have hlt' : k < (mkT m T).length := by rw [HL.out]; exact hlt
      have p0 : (0 : Int) ≤ (k : Int) := by omega
      have p1 : (k : Int) < (T.length : Int) := by omega
      obtain ⟨Ax, mx, ⟨x0, x1⟩, xl, rx, ex⟩ := rd_tl HR.out hN rfl hlt'
      have hg := mkT_get T m k hlt
      rw [← HQ.out, List.getElem?_eq_getElem hlt'] at hg
      have hg2 : (mkT m T)[k] = (mtS q0, marks ((q0 + 1 : Nat) : Int) T[k].2.length) := by simpa using hg
      rw [hg2] at x0 x1 rx
      simp only [marks_len] at x1 rx
      have HX := Lib.hid rx
      have eX : ((mtS q0).toList == (mtS q0).toList) = true := beq_self_eq_true _
      clear rx ex hg hg2 hlt'
      go_upto_region 4 with fail
      have l0 := Later.cell x0 xl
      have C1 := Lib.hid (fun (t : Later wr) => c_markText q0 t.w (by omega))
      (refine wp_region_later (by kernel_rfl) (by kernel_rfl) ?_; (repeat (go_big_quiet_step ((go_at_call 51; exact later_of (C1.out _))))); refine wpQuiet_nil ?_; intro wq hw'; obtain ⟨⟨wz, nq⟩, hwz⟩ := hw'; have hwz' : wq = wz := hwz; subst hwz'; clear hwz)
      clear x0
      have x2 := (nq.cell (p := ⟨b, off + k * 2 + 1, none⟩) xl).trans x1
      have xl2 := Nat.lt_of_lt_of_le xl nq.size
      clear x1
      go_wp2_with fail
      refine (c_heldInt64S lo hi _ T[k].2.length ((q0 + 1 : Nat) : Int) _ (HX.out.new nq) (by omega) (by omega)).mono ?_
      rintro e w3 ⟨rfl, n3⟩
      go_wp2
      go_roundw
      case rel => exact ⟨k + 1, q0 + 1 + T[k].2.length, by omega, by go_num, by simp, Lib.hid (by have := HC.out k hlt; have := HQ.out; omega), (hN.step nq).step n3⟩
      case measure => simp [intOf]; omega
    · have hk' : k = T.length := by omega
      subst hk'
      have E := Lib.hid (show (q0 : Int) = ((m + cntT T : Nat) : Int) by rw [HQ.out, List.take_length])
      go_wp2
      go_ret
      exact ⟨ret_int E.out, hN⟩

set_option maxHeartbeats 2000000 in
theorem c_heldTileSet (lo hi : Nat) (gv tv : Value) (n : Nat) (T : List (ByteArray × List Int)) (sv : List Value) (m : Nat) (w : World) (h : RdS w lo hi gv tv (mkG m n) (mkT (m + 2 * n) T) sv) (h1 : m + 2 * n + cntT T ≤ 4611686018427387904) (h2 : T.length ≤ 1048576) :
    Calls Try.prog 12 #[.agg #[gv, tv], .int .i64 m] w fun e w' => e = .returned (.int .i64 ((m + 2 * n + cntT T : Nat) : Int)) ∧ New w w' := by
  obtain ⟨A, c, B, d, rfl, rfl⟩ := h.form
  have HH := Lib.hid h
  clear h
  obtain ⟨xg, hxg⟩ : ∃ x, Value.slice A (mkG m n).length c = x := ⟨_, rfl⟩
  obtain ⟨xt, hxt⟩ : ∃ x, Value.slice B (mkT (m + 2 * n) T).length d = x := ⟨_, rfl⟩
  rw [hxg, hxt] at HH
  rw [hxg, hxt]
  clear hxg hxt
  have n0 : New w (w.alloc (.cells #[xg, xt] 30)) := (New.same w).box _
  have B0 : BoxV (w.alloc (.cells #[xg, xt] 30)) w.heap.size [xg, xt] := .two (by go_simp) (by go_simp) (by go_simp) (by go_simp) (by simp)
  obtain ⟨Y, hY⟩ : ∃ Y, m + 2 * n = Y := ⟨_, rfl⟩
  have HY := Lib.hid hY
  have hg := c_heldGlueS
  rw [hY] at HH h1 ⊢
  have hY2 : 2 * n ≤ Y := by omega
  clear hY hg
  go_enter Try.func12, Try.ntmps12
  go_wp2_with fail
  generalize (w.alloc (.cells #[xg, xt] 30)) = W0 at *
  refine (c_heldGlueS lo hi _ n m _ (HH.out.glues.new n0) (by have := HY.out; omega)).mono ?_
  rintro e w1 ⟨rfl, n1⟩
  rw [HY.out]
  obtain ⟨⟨c1, d1⟩, _, z1⟩ := (B0.new n1).at2
  go_wp2_with fail
  refine (c_heldTileS lo hi _ T sv Y _ (HH.out.tiles.new (n0.step n1)) h1 h2).mono ?_
  rintro e w2 ⟨rfl, n2⟩
  go_wp2
  go_ret
  exact ⟨rfl, (n0.step n1).step n2⟩
end Go.Proofs.Ytcbifdfcllaaaaa
