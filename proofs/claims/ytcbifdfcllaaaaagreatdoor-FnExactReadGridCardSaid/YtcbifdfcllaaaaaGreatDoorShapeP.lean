/- Plain lemmas on lists of points in their order: ascending lists, putting a point into one, bounds, moving. No program. -/
import Derived.Test.YtcbifdfcllaaaaaGreatDoorPt
namespace Go.Proofs.YtcbifdfcllaaaaaGreatDoor

/-- one point is before another -/
def ltQ (p q : Int × Int) : Bool := ltP p.1 p.2 q.1 q.2
theorem ltQ_iff {p q : Int × Int} : ltQ p q = true ↔ p.2 < q.2 ∨ p.2 = q.2 ∧ p.1 < q.1 := ltP_iff
theorem ltQ_irr (p : Int × Int) : ltQ p p = false := by
  cases h : ltQ p p
  · rfl
  · have := ltQ_iff.1 h; omega
theorem ltQ_trans {p q r : Int × Int} (h : ltQ p q = true) (k : ltQ q r = true) : ltQ p r = true := by
  rw [ltQ_iff] at *; omega
theorem ltQ_tri (p q : Int × Int) : ltQ p q = true ∨ p = q ∨ ltQ q p = true := by
  rw [ltQ_iff, ltQ_iff]
  by_cases h1 : p.2 = q.2
  · by_cases h2 : p.1 = q.1
    · exact .inr (.inl (Prod.ext h2 h1))
    · omega
  · omega
theorem ltQ_asymm {p q : Int × Int} (h : ltQ p q = true) : ltQ q p = false := by
  cases k : ltQ q p
  · rfl
  · have := ltQ_trans h k; rw [ltQ_irr] at this; cases this

theorem snocRec {α : Type} {P : List α → Prop} (l : List α) (nil : P []) (append_singleton : ∀ (l : List α) (x : α), P l → P (l ++ [x])) : P l := by
  rw [← List.reverse_reverse l]
  induction l.reverse with
  | nil => exact nil
  | cons x r ih => rw [List.reverse_cons]; exact append_singleton _ _ ih

abbrev Asc (zs : List (Int × Int)) : Prop := zs.Pairwise fun p q => ltQ p q = true

theorem asc_unique : ∀ {xs ys : List (Int × Int)}, Asc xs → Asc ys → (∀ p, p ∈ xs ↔ p ∈ ys) → xs = ys := by
  intro xs
  induction xs with
  | nil =>
    intro ys _ _ h
    cases ys with
    | nil => rfl
    | cons y r => exact absurd ((h y).2 (by simp)) (by simp)
  | cons x xs ih =>
    intro ys hx hy h
    cases ys with
    | nil => exact absurd ((h x).1 (by simp)) (by simp)
    | cons y ys =>
      obtain ⟨hx1, hx2⟩ := List.pairwise_cons.1 hx
      obtain ⟨hy1, hy2⟩ := List.pairwise_cons.1 hy
      have e : x = y := by
        rcases List.mem_cons.1 ((h x).1 (by simp)) with e | e
        · exact e
        · rcases List.mem_cons.1 ((h y).2 (by simp)) with k | k
          · exact k.symm
          · have h1 := hy1 _ e
            have h2 := hx1 _ k
            rw [ltQ_asymm h1] at h2; cases h2
      subst e
      rw [ih hx2 hy2 fun p => ?_]
      constructor
      · intro hp
        rcases List.mem_cons.1 ((h p).1 (List.mem_cons_of_mem _ hp)) with e | e
        · subst e; have := hx1 _ hp; rw [ltQ_irr] at this; cases this
        · exact e
      · intro hp
        rcases List.mem_cons.1 ((h p).2 (List.mem_cons_of_mem _ hp)) with e | e
        · subst e; have := hy1 _ hp; rw [ltQ_irr] at this; cases this
        · exact e

/-- where a point goes in a list, as the reference looks for the place: from the right -/
def posR (zs : List (Int × Int)) (p : Int × Int) : Nat := (zs.reverse.dropWhile fun q => !ltQ q p).length
def putR (zs : List (Int × Int)) (p : Int × Int) : List (Int × Int) := if zs[posR zs p]? = some p then zs else zs.take (posR zs p) ++ p :: zs.drop (posR zs p)

theorem posR_snoc (zs : List (Int × Int)) (q p : Int × Int) : posR (zs ++ [q]) p = if ltQ q p then zs.length + 1 else posR zs p := by
  unfold posR
  rw [List.reverse_append]
  simp only [List.reverse_cons, List.reverse_nil, List.nil_append, List.cons_append, List.dropWhile_cons]
  cases ltQ q p <;> simp
theorem posR_le (zs : List (Int × Int)) (p : Int × Int) : posR zs p ≤ zs.length := by
  unfold posR
  have := (List.dropWhile_suffix (l := zs.reverse) (fun q => !ltQ q p)).length_le
  simpa using this
theorem posR_of {zs : List (Int × Int)} {p : Int × Int} {k : Nat} (hk : k ≤ zs.length) (h1 : ∀ j (hj : j < zs.length), k ≤ j → ltQ zs[j] p = false) (h2 : ∀ (h : 0 < k), ltQ (zs[k - 1]'(by omega)) p = true) : posR zs p = k := by
  rw [← List.take_append_drop k zs]
  have : ∀ (ys xs : List (Int × Int)), (∀ q ∈ ys, ltQ q p = false) → posR (xs ++ ys) p = posR xs p := by
    intro ys
    induction ys using snocRec with
    | nil => intro xs _; simp
    | append_singleton ys y ih =>
      intro xs h
      rw [← List.append_assoc, posR_snoc, h y (by simp), if_neg (by simp)]
      exact ih xs fun q hq => h q (by simp [hq])
  rw [this]
  · cases k with
    | zero => simp [posR]
    | succ k =>
      rw [List.take_succ_eq_append_getElem (by omega), posR_snoc, if_pos (by simpa using h2 (by omega))]
      simp; omega
  · intro q hq
    obtain ⟨j, hj, rfl⟩ := List.mem_iff_getElem.1 hq
    rw [List.getElem_drop]
    exact h1 _ _ (by omega)

theorem posR_asc {zs : List (Int × Int)} (hz : Asc zs) (p : Int × Int) : (∀ q ∈ zs.take (posR zs p), ltQ q p = true) ∧ ∀ q ∈ zs.drop (posR zs p), ltQ q p = false := by
  induction zs using snocRec with
  | nil => simp
  | append_singleton zs y ih =>
    obtain ⟨h1, _, h2⟩ := List.pairwise_append.1 hz
    rw [posR_snoc]
    by_cases h : ltQ y p = true
    · rw [if_pos h]
      constructor
      · intro q hq
        rw [List.take_of_length_le (by simp)] at hq
        rcases List.mem_append.1 hq with k | k
        · exact ltQ_trans (h2 q k y (by simp)) h
        · simp at k; subst k; exact h
      · intro q hq
        rw [List.drop_of_length_le (by simp)] at hq
        cases hq
    · rw [if_neg h]
      have hl := posR_le zs p
      obtain ⟨i1, i2⟩ := ih h1
      rw [List.take_append_of_le_length hl, List.drop_append_of_le_length hl]
      refine ⟨i1, fun q hq => ?_⟩
      rcases List.mem_append.1 hq with k | k
      · exact i2 q k
      · simp at k; subst k; simpa using h

theorem putR_mem {zs : List (Int × Int)} {p q : Int × Int} : q ∈ putR zs p ↔ q ∈ zs ∨ q = p := by
  unfold putR
  split
  · rename_i h
    constructor
    · exact .inl
    · rintro (k | rfl)
      · exact k
      · exact List.mem_of_getElem? h
  · rw [List.mem_append, List.mem_cons]
    constructor
    · rintro (k | rfl | k)
      · exact .inl (List.mem_of_mem_take k)
      · exact .inr rfl
      · exact .inl (List.mem_of_mem_drop k)
    · rintro (k | rfl)
      · rw [← List.take_append_drop (posR zs p) zs] at k
        rcases List.mem_append.1 k with k | k
        · exact .inl k
        · exact .inr (.inr k)
      · exact .inr (.inl rfl)

theorem putR_asc {zs : List (Int × Int)} (hz : Asc zs) (p : Int × Int) : Asc (putR zs p) := by
  obtain ⟨h1, h2⟩ := posR_asc hz p
  unfold putR
  split
  · exact hz
  · rename_i h
    have hz' := hz
    rw [← List.take_append_drop (posR zs p) zs] at hz'
    obtain ⟨a, b, c⟩ := List.pairwise_append.1 hz'
    have h3 : ∀ q ∈ zs.drop (posR zs p), ltQ p q = true := by
      intro q hq
      have := h2 q hq
      rcases ltQ_tri p q with k | k | k
      · exact k
      · subst k
        exfalso
        cases hd : zs.drop (posR zs p) with
        | nil => rw [hd] at hq; cases hq
        | cons x r =>
          rw [hd] at hq b
          rcases List.mem_cons.1 hq with e | e
          · subst e
            apply h
            have : (zs.drop (posR zs p))[0]? = some p := by rw [hd]; rfl
            rwa [List.getElem?_drop, Nat.add_zero] at this
          · have k := (List.pairwise_cons.1 b).1 _ e
            have := h2 x (by rw [hd]; simp)
            rw [this] at k; cases k
      · rw [this] at k; cases k
    refine List.pairwise_append.2 ⟨a, List.pairwise_cons.2 ⟨h3, b⟩, ?_⟩
    intro q hq r hr
    rcases List.mem_cons.1 hr with e | e
    · subst e; exact h1 q hq
    · exact c q hq r e

theorem putR_len (zs : List (Int × Int)) (p : Int × Int) : (putR zs p).length ≤ zs.length + 1 := by
  unfold putR
  split
  · omega
  · rw [List.length_append, List.length_cons, List.length_take, List.length_drop]
    have := posR_le zs p
    omega

/-- points in order, each once -/
def sortR (zs : List (Int × Int)) : List (Int × Int) := zs.foldl putR []
theorem sortR_snoc (zs : List (Int × Int)) (p : Int × Int) : sortR (zs ++ [p]) = putR (sortR zs) p := by simp [sortR]
theorem sortR_spec (zs : List (Int × Int)) : Asc (sortR zs) ∧ (∀ q, q ∈ sortR zs ↔ q ∈ zs) ∧ (sortR zs).length ≤ zs.length := by
  induction zs using snocRec with
  | nil => simp [sortR]
  | append_singleton zs y ih =>
    obtain ⟨h1, h2, h3⟩ := ih
    rw [sortR_snoc]
    refine ⟨putR_asc h1 y, fun q => ?_, ?_⟩
    · rw [putR_mem, h2]; simp
    · have := putR_len (sortR zs) y
      simp; omega
theorem sortR_eq {zs ys : List (Int × Int)} (hy : Asc ys) (h : ∀ q, q ∈ ys ↔ q ∈ zs) : ys = sortR zs := by
  obtain ⟨h1, h2, _⟩ := sortR_spec zs
  exact asc_unique hy h1 fun q => by rw [h, h2]

/-- the same vector added to each point -/
def movL (zs : List (Int × Int)) (dx dy : Int) : List (Int × Int) := zs.map fun p => (p.1 + dx, p.2 + dy)
theorem movL_asc {zs : List (Int × Int)} (h : Asc zs) (dx dy : Int) : Asc (movL zs dx dy) := by
  unfold movL
  rw [Asc, List.pairwise_map]
  exact h.imp fun {p q} k => by rw [ltQ_iff] at *; simp; omega
theorem movL_sort (zs : List (Int × Int)) (dx dy : Int) : movL (sortR zs) dx dy = sortR (movL zs dx dy) := by
  obtain ⟨h1, h2, _⟩ := sortR_spec zs
  refine sortR_eq (movL_asc h1 dx dy) fun q => ?_
  simp only [movL, List.mem_map]
  exact ⟨fun ⟨a, b, c⟩ => ⟨a, (h2 a).1 b, c⟩, fun ⟨a, b, c⟩ => ⟨a, (h2 a).2 b, c⟩⟩
theorem movL_len (zs : List (Int × Int)) (dx dy : Int) : (movL zs dx dy).length = zs.length := by simp [movL]

/-! the least and the greatest coordinates -/
def minL (x : Int) (zs : List Int) : Int := zs.foldl min x
def maxL (x : Int) (zs : List Int) : Int := zs.foldl max x
theorem minL_snoc (x : Int) (zs : List Int) (y : Int) : minL x (zs ++ [y]) = min (minL x zs) y := by simp [minL]
theorem maxL_snoc (x : Int) (zs : List Int) (y : Int) : maxL x (zs ++ [y]) = max (maxL x zs) y := by simp [maxL]
theorem minL_bd {x b : Int} {zs : List Int} (hx : b ≤ x) (h : ∀ z ∈ zs, b ≤ z) : b ≤ minL x zs ∧ minL x zs ≤ x := by
  induction zs using snocRec with
  | nil => simpa [minL] using hx
  | append_singleton zs y ih =>
    have := ih fun z hz => h z (by simp [hz])
    have := h y (by simp)
    rw [minL_snoc]; omega
theorem maxL_bd {x b : Int} {zs : List Int} (hx : x ≤ b) (h : ∀ z ∈ zs, z ≤ b) : x ≤ maxL x zs ∧ maxL x zs ≤ b := by
  induction zs using snocRec with
  | nil => simpa [maxL] using hx
  | append_singleton zs y ih =>
    have := ih fun z hz => h z (by simp [hz])
    have := h y (by simp)
    rw [maxL_snoc]; omega
theorem minL_le {x : Int} {zs : List Int} : ∀ z ∈ zs, minL x zs ≤ z := by
  induction zs using snocRec with
  | nil => simp
  | append_singleton zs y ih =>
    intro z hz
    rw [minL_snoc]
    rcases List.mem_append.1 hz with k | k
    · have := ih z k; omega
    · simp at k; omega
theorem minL_mem {x : Int} {zs : List Int} : minL x zs = x ∨ minL x zs ∈ zs := by
  induction zs using snocRec with
  | nil => simp [minL]
  | append_singleton zs y ih =>
    rw [minL_snoc]
    rcases (show min (minL x zs) y = minL x zs ∨ min (minL x zs) y = y from by omega) with k | k
    · rw [k]; rcases ih with i | i
      · exact .inl i
      · exact .inr (by simp [i])
    · rw [k]; simp
/-- the least x, the least y, of a list that is not empty -/
def lowX (zs : List (Int × Int)) : Int := minL (zs.headD (0, 0)).1 (zs.map Prod.fst)
def lowY (zs : List (Int × Int)) : Int := minL (zs.headD (0, 0)).2 (zs.map Prod.snd)
def hghX (zs : List (Int × Int)) : Int := maxL (zs.headD (0, 0)).1 (zs.map Prod.fst)
def hghY (zs : List (Int × Int)) : Int := maxL (zs.headD (0, 0)).2 (zs.map Prod.snd)

/-- a list moved so that its least coordinates are 0 -/
def homL (zs : List (Int × Int)) : List (Int × Int) := movL zs (-lowX zs) (-lowY zs)
theorem homL_len (zs : List (Int × Int)) : (homL zs).length = zs.length := movL_len _ _ _

theorem min_congr {x y : Int} {xs ys : List Int} (hx : x ∈ xs) (hy : y ∈ ys) (h : ∀ z, z ∈ xs ↔ z ∈ ys) : minL x xs = minL y ys := by
  have h1 : minL x xs ∈ xs := by rcases minL_mem (x := x) (zs := xs) with k | k; · rw [k]; exact hx
                                 · exact k
  have h2 : minL y ys ∈ ys := by rcases minL_mem (x := y) (zs := ys) with k | k; · rw [k]; exact hy
                                 · exact k
  have a := minL_le (x := x) _ ((h _).2 h2)
  have b := minL_le (x := y) _ ((h _).1 h1)
  omega
theorem low_congr {xs ys : List (Int × Int)} (h : ∀ q, q ∈ xs ↔ q ∈ ys) : lowX xs = lowX ys ∧ lowY xs = lowY ys := by
  cases xs with
  | nil =>
    cases ys with
    | nil => exact ⟨rfl, rfl⟩
    | cons y r => exact absurd ((h y).2 (by simp)) (by simp)
  | cons x r =>
    cases ys with
    | nil => exact absurd ((h x).1 (by simp)) (by simp)
    | cons y s =>
      have key : ∀ (f : Int × Int → Int) z, z ∈ (x :: r).map f ↔ z ∈ (y :: s).map f := by
        intro f z
        simp only [List.mem_map]
        exact ⟨fun ⟨a, b, c⟩ => ⟨a, (h a).1 b, c⟩, fun ⟨a, b, c⟩ => ⟨a, (h a).2 b, c⟩⟩
      exact ⟨min_congr (by simp) (by simp) (key Prod.fst), min_congr (by simp) (by simp) (key Prod.snd)⟩
theorem homL_sort (zs : List (Int × Int)) : homL (sortR zs) = sortR (homL zs) := by
  obtain ⟨_, h2, _⟩ := sortR_spec zs
  obtain ⟨e1, e2⟩ := low_congr h2
  unfold homL
  rw [e1, e2, movL_sort]

/-! a valid shape -/
def okAt (zs : List (Int × Int)) (k : Nat) : Bool := vpB (zs.getD k (0, 0)).1 (zs.getD k (0, 0)).2 && (decide (k = 0) || ltQ (zs.getD (k - 1) (0, 0)) (zs.getD k (0, 0)))
def chnB (zs : List (Int × Int)) : Bool := (List.range zs.length).all (okAt zs)
def shpB (zs : List (Int × Int)) : Bool := chnB zs && inB zs.length 1 500
theorem all_hit {n k : Nat} {p : Nat → Bool} (hk : k < n) (h : p k = false) : (List.range n).all p = false := by
  rw [List.all_eq_false]
  exact ⟨k, List.mem_range.2 hk, by simp [h]⟩
theorem all_miss {n : Nat} {p : Nat → Bool} (h : ∀ k, k < n → p k = true) : (List.range n).all p = true := by
  rw [List.all_eq_true]
  intro x hx
  exact h x (List.mem_range.1 hx)
theorem chnB_vp {zs : List (Int × Int)} (h : chnB zs = true) : ∀ z ∈ zs, vpB z.1 z.2 = true := by
  intro z hz
  obtain ⟨j, hj, rfl⟩ := List.mem_iff_getElem.1 hz
  have := (List.all_eq_true.1 h) j (List.mem_range.2 hj)
  simp only [okAt, Bool.and_eq_true] at this
  have := this.1
  rwa [List.getD_eq_getElem?_getD, List.getElem?_eq_getElem hj] at this
theorem shpB_vp {zs : List (Int × Int)} (h : shpB zs = true) : ∀ z ∈ zs, vpB z.1 z.2 = true := by
  simp only [shpB, Bool.and_eq_true] at h
  exact chnB_vp h.1
theorem shpB_len {zs : List (Int × Int)} (h : shpB zs = true) : 1 ≤ zs.length ∧ zs.length ≤ 500 := by
  simp only [shpB, Bool.and_eq_true, inB_iff] at h
  omega
theorem low_bd {zs : List (Int × Int)} {b : Int} (h : ∀ z ∈ zs, (-b ≤ z.1 ∧ z.1 ≤ b) ∧ -b ≤ z.2 ∧ z.2 ≤ b) (hb : 0 ≤ b) : (-b ≤ lowX zs ∧ lowX zs ≤ b) ∧ -b ≤ lowY zs ∧ lowY zs ≤ b := by
  cases zs with
  | nil => simp [lowX, lowY, minL]; omega
  | cons x r =>
    have h0 := h x (by simp)
    have m1 : ∀ z ∈ (x :: r).map Prod.fst, -b ≤ z := by
      intro z hz; obtain ⟨a, ha, rfl⟩ := List.mem_map.1 hz; exact (h a ha).1.1
    have m2 : ∀ z ∈ (x :: r).map Prod.snd, -b ≤ z := by
      intro z hz; obtain ⟨a, ha, rfl⟩ := List.mem_map.1 hz; exact (h a ha).2.1
    have b1 := minL_bd (x := x.1) (b := -b) (by omega) m1
    have b2 := minL_bd (x := x.2) (b := -b) (by omega) m2
    unfold lowX lowY
    simp only [List.headD_cons]
    omega
theorem vp_bd {zs : List (Int × Int)} (h : ∀ z ∈ zs, vpB z.1 z.2 = true) : ∀ z ∈ zs, (-60 ≤ z.1 ∧ z.1 ≤ 60) ∧ -60 ≤ z.2 ∧ z.2 ≤ 60 := fun z hz => vpB_iff.1 (h z hz)

end Go.Proofs.YtcbifdfcllaaaaaGreatDoor
