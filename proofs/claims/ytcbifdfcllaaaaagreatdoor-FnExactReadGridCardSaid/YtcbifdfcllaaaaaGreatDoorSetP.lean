/- Plain words on glues, tiles and sets: cells, counts. No program. -/
import Derived.Test.YtcbifdfcllaaaaaGreatDoorNest
import Derived.Test.YtcbifdfcllaaaaaGreatDoorLater
import Derived.Test.YtcbifdfcllaaaaaGreatDoorBox
import Derived.Deep.DeepCutAuto
import Derived.Lib.SlicesS
namespace Go.Proofs.YtcbifdfcllaaaaaGreatDoor
open Go.RowKit Go.WideShapes Go.ChangeShapes Go.Deep
set_option linter.unusedVariables false

theorem BoxV.put0 {w : World} {b : Nat} {x y : Value} (h : BoxV w b [x, y]) (u : Value) : BoxV (w.setCell ⟨b, 0, none⟩ u) b [u, y] := by
  obtain ⟨⟨c, d⟩, ⟨f, g⟩, z⟩ := h.at2
  exact .two (by simp [go_sem, *]) (by simp [go_sem, *]) (by simp [go_sem, *]) (by simp [go_sem, *]) (by simp [go_sem, *])
theorem sEq_yes {a b : ByteArray} (h : a = b) : (a.toList == b.toList) = true := by rw [h]; exact beq_self_eq_true _
theorem sEq_no {a b : ByteArray} (h : a ≠ b) : (a.toList == b.toList) = false := (Lib.bytes_beq_false_iff _ _).2 h
/-- the cells of a glue: a name and a strength -/
def glC (g : ByteArray × Int) : List Value := [.string g.1, .int .i64 g.2]
/-- the cells of a tile: a name and the value of its slice of sides -/
def tlM (t : ByteArray × List Int) (u : Value) : List Value := [.string t.1, u]
abbrev RdG (w : World) (lo hi : Nat) (v : Value) (G : List (ByteArray × Int)) : Prop := Rd w lo hi 2 v G.length (G.flatMap glC)
abbrev RdT (w : World) (lo hi : Nat) (v : Value) (T : List (ByteArray × List Int)) (sv : List Value) : Prop := RdN tlM Prod.snd 2 w lo hi v T sv
theorem gl_len (G : List (ByteArray × Int)) : (G.flatMap glC).length = G.length * 2 := flat_len glC 2 (fun _ => rfl) G
theorem gl_get0 {G : List (ByteArray × Int)} {k : Nat} (hk : k < G.length) : (G.flatMap glC)[k * 2]? = some (.string G[k].1) := by
  have := flat_get glC 2 (fun _ => rfl) G k 0 hk (by omega)
  simpa [glC] using this
theorem gl_get1 {G : List (ByteArray × Int)} {k : Nat} (hk : k < G.length) : (G.flatMap glC)[k * 2 + 1]? = some (.int .i64 G[k].2) := by
  have := flat_get glC 2 (fun _ => rfl) G k 1 hk (by omega)
  simpa [glC] using this
theorem gl_succ {G : List (ByteArray × Int)} {k : Nat} (hk : k < G.length) : (G.take (k + 1)).flatMap glC = (G.take k).flatMap glC ++ [.string G[k].1, .int .i64 G[k].2] := by
  rw [List.take_succ_eq_append_getElem hk, List.flatMap_append]
  simp [glC]
theorem tl_get0 {T : List (ByteArray × List Int)} {sv : List Value} {k : Nat} (hk : k < T.length) (hk' : k < sv.length) : (nestC tlM T sv)[k * 2]? = some (.string T[k].1) := by
  have := nestC_get (mk := tlM) (C := 2) (fun _ _ => rfl) hk hk' (r := 0) (by omega)
  simpa [tlM] using this
theorem tl_get1 {T : List (ByteArray × List Int)} {sv : List Value} {k : Nat} (hk : k < T.length) (hk' : k < sv.length) : (nestC tlM T sv)[k * 2 + 1]? = some sv[k] := by
  have := nestC_get (mk := tlM) (C := 2) (fun _ _ => rfl) hk hk' (r := 1) (by omega)
  simpa [tlM] using this
/-- a glue in a list that is read -/
theorem rd_gl {w wr : World} {lo hi : Nat} {v : Value} {G : List (ByteArray × Int)} (h : RdG w lo hi v G) (n : New w wr) {b off c : Nat} (hv : v = .slice (some ⟨b, off, none⟩) G.length c) {k : Nat} (hk : k < G.length) :
    (wr.cell? ⟨b, off + k * 2, none⟩ = some (.string G[k].1) ∧ wr.cell? ⟨b, off + k * 2 + 1, none⟩ = some (.int .i64 G[k].2)) ∧ b < wr.heap.size := by
  have h0 := rd_cell h n hv (by omega) (gl_get0 hk)
  have h1 := rd_cell h n hv (by omega) (gl_get1 hk)
  exact ⟨⟨h0.1, h1.1⟩, h0.2⟩
/-- a tile in a list that is read -/
theorem rd_tl {w wr : World} {lo hi : Nat} {v : Value} {T : List (ByteArray × List Int)} {sv : List Value} (h : RdT w lo hi v T sv) (n : New w wr) {b off c : Nat} (hv : v = .slice (some ⟨b, off, none⟩) T.length c) {k : Nat} (hk : k < T.length) :
    ∃ A m, (wr.cell? ⟨b, off + k * 2, none⟩ = some (.string T[k].1) ∧ wr.cell? ⟨b, off + k * 2 + 1, none⟩ = some (.slice A T[k].2.length m)) ∧ b < wr.heap.size ∧ Rd wr lo hi 1 (.slice A T[k].2.length m) T[k].2.length (T[k].2.map (Value.int .i64)) ∧ sv[k]? = some (.slice A T[k].2.length m) := by
  have hk' : k < sv.length := by rw [h.len]; exact hk
  have h0 := rd_cell h.outer n hv (by omega) (tl_get0 hk hk')
  have h1 := rd_cell h.outer n hv (by omega) (tl_get1 hk hk')
  have h2 := (h.each k hk hk').new n
  obtain ⟨A, m, e, _⟩ := rd_form h2
  rw [e] at h1 h2
  exact ⟨A, m, ⟨h0.1, h1.1⟩, h0.2, h2, by rw [List.getElem?_eq_getElem hk', e]⟩

theorem rd_tl_at {w : World} {lo hi : Nat} {v : Value} {T : List (ByteArray × List Int)} {sv : List Value} (h : RdT w lo hi v T sv) {k : Nat} (hk : k < T.length) {u : Value} (e : sv[k]? = some u) : Rd w lo hi 1 u T[k].2.length (T[k].2.map (Value.int .i64)) := by
  have hk' : k < sv.length := by rw [h.len]; exact hk
  rw [List.getElem?_eq_getElem hk'] at e
  cases e
  exact h.each k hk hk'

/-- what is left behind a count, or -1 -/
def szN (l n : Int) : Int := if l - n < 0 then -1 else l - n
theorem szN_no {l n : Int} (h : l - n < 0) : szN l n = -1 := by simp [szN, h]
theorem szN_yes {l n : Int} (h : ¬ l - n < 0) : szN l n = l - n := by simp [szN, h]
/-- .. behind elements one by one -/
def szF {α : Type} (f : Int → α → Int) (l : Int) : List α → Int
  | [] => l
  | x :: r => if f l x < 0 then -1 else szF f (f l x) r
def szR {α : Type} (f : Int → α → Int) (l : Int) (xs : List α) : Int := if szN l xs.length < 0 then -1 else szF f (szN l xs.length) xs
def szG1 (l : Int) (g : ByteArray × Int) : Int := szN l g.1.size
def szT1 (l : Int) (t : ByteArray × List Int) : Int := if szN l t.1.size < 0 then -1 else szN (szN l t.1.size) t.2.length
def szS (l : Int) (G : List (ByteArray × Int)) (T : List (ByteArray × List Int)) : Int := if szR szG1 l G < 0 then -1 else szR szT1 (szR szG1 l G) T
theorem szN_le (l n : Int) (h : 0 ≤ n) (hl : 0 ≤ szN l n) : szN l n ≤ l ∧ n ≤ l := by unfold szN at *; split at hl <;> rename_i hh <;> simp [hh] <;> omega
theorem szN_lo (l n : Int) : -1 ≤ szN l n := by unfold szN; split <;> omega
theorem szG1_le (l : Int) (g : ByteArray × Int) (hl : 0 ≤ szG1 l g) : szG1 l g ≤ l := (szN_le l _ (by omega) hl).1
theorem szT1_le (l : Int) (t : ByteArray × List Int) (hl : 0 ≤ szT1 l t) : szT1 l t ≤ l ∧ t.2.length ≤ l := by
  unfold szT1 at *
  split at hl
  · omega
  · rename_i h
    rw [if_neg h]
    have h1 := szN_le l t.1.size (by omega) (by omega)
    have h2 := szN_le _ _ (by omega) hl
    omega
theorem szF_drop {α : Type} (f : Int → α → Int) (l : Int) (xs : List α) (k : Nat) (hk : k < xs.length) : szF f l (xs.drop k) = if f l xs[k] < 0 then -1 else szF f (f l xs[k]) (xs.drop (k + 1)) := by
  rw [List.drop_eq_getElem_cons hk]
  rfl
theorem szF_le {α : Type} (f : Int → α → Int) (hf : ∀ l x, 0 ≤ f l x → f l x ≤ l) : ∀ (xs : List α) (l : Int), 0 ≤ szF f l xs → szF f l xs ≤ l ∧ ∀ x ∈ xs, ∃ m, m ≤ l ∧ 0 ≤ f m x
  | [], l, h => ⟨Int.le_refl _, by simp⟩
  | x :: r, l, h => by
    unfold szF at h ⊢
    split at h
    · omega
    · rename_i hh
      rw [if_neg hh]
      obtain ⟨h1, h2⟩ := szF_le f hf r _ h
      have h3 := hf l x (by omega)
      refine ⟨by omega, fun y hy => ?_⟩
      rcases List.mem_cons.1 hy with rfl | hy
      · exact ⟨l, Int.le_refl _, by omega⟩
      · obtain ⟨m, hm, hm'⟩ := h2 y hy
        exact ⟨m, by omega, hm'⟩
theorem szR_le {α : Type} (f : Int → α → Int) (hf : ∀ l x, 0 ≤ f l x → f l x ≤ l) (xs : List α) (l : Int) (h : 0 ≤ szR f l xs) : szR f l xs ≤ l ∧ (xs.length : Int) ≤ l ∧ ∀ x ∈ xs, ∃ m, m ≤ l ∧ 0 ≤ f m x := by
  unfold szR at *
  split at h
  · omega
  · rename_i hh
    rw [if_neg hh]
    have h1 := szN_le l xs.length (by omega) (by omega)
    obtain ⟨h2, h3⟩ := szF_le f hf xs _ h
    refine ⟨by omega, h1.2, fun x hx => ?_⟩
    obtain ⟨m, hm, hm'⟩ := h3 x hx
    exact ⟨m, by omega, hm'⟩
/-- the counts that a set keeps to -/
theorem szS_le {l : Int} {G : List (ByteArray × Int)} {T : List (ByteArray × List Int)} (h : 0 ≤ szS l G T) : szS l G T ≤ l ∧ (G.length : Int) ≤ l ∧ (T.length : Int) ≤ l ∧ ∀ t ∈ T, (t.2.length : Int) ≤ l := by
  unfold szS at *
  split at h
  · omega
  · rename_i hh
    rw [if_neg hh]
    obtain ⟨a1, a2, _⟩ := szR_le szG1 szG1_le G l (by omega)
    obtain ⟨b1, b2, b3⟩ := szR_le szT1 (fun l x h => (szT1_le l x h).1) T _ h
    refine ⟨by omega, a2, by omega, fun t ht => ?_⟩
    obtain ⟨m, hm, hm'⟩ := b3 t ht
    have := (szT1_le m t hm').2
    omega
theorem szS_lo (l : Int) (G : List (ByteArray × Int)) (T : List (ByteArray × List Int)) (h : szS l G T < 0) : szS l G T = -1 := by
  have hF : ∀ {α : Type} (f : Int → α → Int) (hf : ∀ l x, -1 ≤ f l x) (xs : List α) (l : Int), -1 ≤ l → -1 ≤ szF f l xs := by
    intro α f hf xs
    induction xs with
    | nil => intro l hl; exact hl
    | cons x r ih =>
      intro l hl
      unfold szF
      split
      · omega
      · exact ih _ (hf _ _)
  have hR : ∀ {α : Type} (f : Int → α → Int) (hf : ∀ l x, -1 ≤ f l x) (xs : List α) (l : Int), -1 ≤ szR f l xs := by
    intro α f hf xs l
    unfold szR
    split
    · omega
    · exact hF f hf xs _ (szN_lo _ _)
  have h1 : -1 ≤ szS l G T := by
    unfold szS
    split
    · omega
    · refine hR _ (fun l t => ?_) _ _
      unfold szT1
      split
      · omega
      · exact szN_lo _ _
  omega

/-! ### Opening a set -/
section
variable {H : Type} {enc : TypeId × Value → H} {P : Program} {W : World} {spare : Nat → Bool} {held : Bool}
theorem open_glues {t e t0 t1 : TypeId} {fuel : Nat} {v : Value} {x : DataW H × List MemPlace} {f0 f1 : Field} (ht : P.underlying t = some (.slice e)) (he : P.underlying e = some (.struct #[f0, f1])) (hC : P.cellsOf e = 2)
    (e0 : f0.type = t0) (e1 : f1.type = t1) (o0 : f0.offset = 0) (o1 : f1.offset = 1) (c0 : P.cellsOf t0 = 1) (c1 : P.cellsOf t1 = 1) (u0 : P.underlying t0 = some .string) (u1 : P.underlying t1 = some (.int .i64))
    (h : DataW.trod enc P W 0 spare held fuel t [v] = some x) (hlt : ∀ p ∈ x.2, p.block < W.heap.size) :
    ∃ G : List (ByteArray × Int), RdG W 0 W.heap.size v G ∧ ∀ g ∈ G, g.1.size ≤ maxLen := by
  refine rd_of_trod glC (fun g => g.1.size ≤ maxLen) hC (by omega) (fun _ => rfl) (fun n cs' y hy _ => ?_) ht h hlt
  obtain ⟨y0, y1, m, _, hl, h0, h1⟩ := trod_struct2 he hy
  rw [hC] at hl
  match cs', hl with
  | [a, b], _ =>
    rw [e0, o0, c0] at h0
    rw [e1, o1, c1] at h1
    obtain ⟨s, es, _, hs⟩ := DataW.trod_string u0 h0
    obtain ⟨z, ez, _⟩ := dec_int u1 h1
    simp at es ez
    subst es ez
    exact ⟨(s, z), rfl, hs⟩
theorem open_tiles {t e t0 t1 te : TypeId} {fuel : Nat} {v : Value} {x : DataW H × List MemPlace} {f0 f1 : Field} (ht : P.underlying t = some (.slice e)) (he : P.underlying e = some (.struct #[f0, f1])) (hC : P.cellsOf e = 2)
    (e0 : f0.type = t0) (e1 : f1.type = t1) (o0 : f0.offset = 0) (o1 : f1.offset = 1) (c0 : P.cellsOf t0 = 1) (c1 : P.cellsOf t1 = 1) (u0 : P.underlying t0 = some .string) (u1 : P.underlying t1 = some (.slice te)) (ue : P.underlying te = some (.int .i64)) (ce : P.cellsOf te = 1)
    (h : DataW.trod enc P W 0 spare held fuel t [v] = some x) (hlt : ∀ p ∈ x.2, p.block < W.heap.size) :
    ∃ (T : List (ByteArray × List Int)) (sv : List Value), RdT W 0 W.heap.size v T sv ∧ ∀ t ∈ T, t.1.size ≤ maxLen := by
  refine rdn_of_trod tlM Prod.snd (fun t => t.1.size ≤ maxLen) hC (by omega) (fun _ _ => rfl) (fun n cs' y hy hl' => ?_) ht h hlt
  obtain ⟨y0, y1, m, hx, hl, h0, h1⟩ := trod_struct2 he hy
  rw [hC] at hl
  match cs', hl with
  | [a, b], _ =>
    rw [e0, o0, c0] at h0
    rw [e1, o1, c1] at h1
    obtain ⟨s, es, _, hs⟩ := DataW.trod_string u0 h0
    have h1' : DataW.trod enc P W 0 spare held m t1 [b] = some y1 := by simpa using h1
    obtain ⟨zs, hr, _⟩ := rd_of_trod (fun z => [Value.int .i64 z]) (fun _ => True) ce (by omega) (fun _ => rfl) (fun n cs' y hy _ => by obtain ⟨z, hz, _⟩ := dec_int ue hy; exact ⟨z, hz, trivial⟩) u1 h1' (fun p hp => hl' p (by rw [hx]; exact List.mem_append_right _ hp))
    rw [flat_one] at hr
    have ha : a = .string s := by simpa using es
    subst ha
    exact ⟨(s, zs), b, rfl, hs, hr⟩
theorem open_set {ts tg eg tt et tn ti tsl : TypeId} {r : Reach} {b0 : Nat} {v : Value} {d : DataW H} {ps : List MemPlace} {f0 f1 g0 g1 k0 k1 : Field} (hts : P.underlying ts = some (.struct #[f0, f1])) (hC : P.cellsOf ts = 2)
    (e0 : f0.type = tg) (e1 : f1.type = tt) (o0 : f0.offset = 0) (o1 : f1.offset = 1) (c0 : P.cellsOf tg = 1) (c1 : P.cellsOf tt = 1)
    (hg : P.underlying tg = some (.slice eg)) (heg : P.underlying eg = some (.struct #[g0, g1])) (hCg : P.cellsOf eg = 2) (ge0 : g0.type = tn) (ge1 : g1.type = ti) (go0 : g0.offset = 0) (go1 : g1.offset = 1)
    (ht : P.underlying tt = some (.slice et)) (het : P.underlying et = some (.struct #[k0, k1])) (hCt : P.cellsOf et = 2) (ke0 : k0.type = tn) (ke1 : k1.type = tsl) (ko0 : k0.offset = 0) (ko1 : k1.offset = 1)
    (cn : P.cellsOf tn = 1) (ci : P.cellsOf ti = 1) (cs : P.cellsOf tsl = 1) (un : P.underlying tn = some .string) (ui : P.underlying ti = some (.int .i64)) (us : P.underlying tsl = some (.slice ti))
    (hv : Value.okWide P W r b0 ts v) (h : DataW.Trod enc P W 0 spare held ts v d ps) (hlt : ∀ x ∈ ps, x.block < W.heap.size) :
    ∃ (gv tv : Value) (G : List (ByteArray × Int)) (T : List (ByteArray × List Int)) (sv : List Value), v = .agg #[gv, tv] ∧ (RdG W 0 W.heap.size gv G ∧ ∀ g ∈ G, g.1.size ≤ maxLen) ∧ RdT W 0 W.heap.size tv T sv ∧ ∀ t ∈ T, t.1.size ≤ maxLen := by
  obtain ⟨cs', rfl, _⟩ := okWide_struct hts hv
  obtain ⟨n, hn⟩ := h
  obtain ⟨y0, y1, m, hx, hl, h0, h1⟩ := trod_struct2 hts hn
  rw [hC] at hl
  obtain ⟨l⟩ := cs'
  simp only [Value.cells] at hl h0 h1
  match l, hl with
  | [a, b], _ =>
    rw [e0, o0, c0] at h0
    rw [e1, o1, c1] at h1
    have h0' : DataW.trod enc P W 0 spare held m tg [a] = some y0 := by simpa using h0
    have h1' : DataW.trod enc P W 0 spare held m tt [b] = some y1 := by simpa using h1
    have hps : ps = y0.2 ++ y1.2 := congrArg Prod.snd hx
    obtain ⟨G, r1, r2⟩ := open_glues hg heg hCg ge0 ge1 go0 go1 cn ci un ui h0' (fun p hp => hlt p (by rw [hps]; exact List.mem_append_left _ hp))
    obtain ⟨T, sv, r3, r4⟩ := open_tiles ht het hCt ke0 ke1 ko0 ko1 cn cs un us ui ci h1' (fun p hp => hlt p (by rw [hps]; exact List.mem_append_right _ hp))
    exact ⟨a, b, G, T, sv, rfl, ⟨r1, r2⟩, r3, r4⟩
end
end Go.Proofs.YtcbifdfcllaaaaaGreatDoor
