/- strings.Lines and impl.SplitLines. -/
import Derived.Test.YtcbifdfcllaaaaaGreatDoorLinesP
import Derived.Test.YtcbifdfcllaaaaaGreatDoorLateIn
import Derived.Test.YtcbifdfcllaaaaaGreatDoorLayLines
import Derived.Lib.SlicesS
namespace Go.Proofs.YtcbifdfcllaaaaaGreatDoor
open Go.RowKit Go.Shelf Go.Deep
set_option linter.unusedVariables false
set_option linter.unusedSimpArgs false
attribute [local go_sem] Oper.semAt_some

/-- the iterator's own step: it stores into its box -/
def TurnB (B : Nat) (X Y : World) : Prop := ∃ v, Y = X.setCell ⟨B, 0, none⟩ v ∨ Y = (X.setCell ⟨B, 0, none⟩ v).drew
theorem TurnB.keeps {B : Nat} {X Y : World} (h : TurnB B X Y) : KeepsOthers X Y := by
  obtain ⟨v, rfl | rfl⟩ := h
  · exact KeepsOthers.setCell _ _ _
  · exact (KeepsOthers.setCell _ _ _).trans (KeepsOthers.drew _)
/-- a round keeps the iterator's box -/
def KpS (B : Nat) (W W' : World) : Prop := ∀ s : ByteArray, Boxed W B 9 (.string s) → Boxed W' B 9 (.string s)
theorem KpS.trans {B : Nat} {X Y Z : World} (h : KpS B X Y) (k : KpS B Y Z) : KpS B X Z := fun s hs => k s (h s hs)
theorem KpS.put {B : Nat} (W : World) (l : Nat) (o o' : Obj) (h : W.heap[l]? = some o) (ho : o.isCells = false) : KpS B W (W.putObj l o') := fun s hs => by
  refine hs.kept (grownBy_putObj' W l o') (fun e => ?_)
  cases e
  rw [show W.heap[B]? = _ from hs] at h
  cases h; cases ho
abbrev Ln := { s : ByteArray // s.size ≤ 1048576 }
def lnsOf (xs : List Ln) : List (List UInt8) := xs.map fun x => cutN x.1.data.toList
theorem ext_mid' (r : ByteArray) (a b : Nat) : (r.extract a b).data.toList = mid r.data.toList a b := by simp [mid, List.extract]
theorem ext_take (r : ByteArray) (o : Nat) : (r.extract 0 o).data.toList = r.data.toList.take o := by rw [ext_mid']; simp [mid]
theorem ext_drop (r : ByteArray) (o : Nat) : (r.extract o r.size).data.toList = r.data.toList.drop o := by
  have h : r.data.toList.length = r.size := by rw [Array.length_toList]; rfl
  rw [ext_mid']
  unfold mid
  rw [List.take_of_length_le (by rw [List.length_drop]; omega)]
theorem size_list (r : ByteArray) : r.size = r.data.toList.length := by rw [Array.length_toList]; rfl

theorem c_IndexByte10 (s : ByteArray) (w : World) : Calls Tryz.prog 72 #[.string s, .int .u8 10] w fun e w' => e = .returned (.int .i64 (Lib.indexByte s.data.toList 10)) ∧ w' = w :=
  Any.strings_IndexByte Tryz.lays137 s 10 w
theorem c_TrimN (s : ByteArray) (w : World) (hs : s.size ≤ 9223372036854775807) : Calls Tryz.prog 47 #[.string s, .string ⟨#[10]⟩] w fun e w' => e = .returned (.string ⟨(cutN s.data.toList).toArray⟩) ∧ w = w' :=
  Calls.mono (P := Tryz.prog) (f := 47) (Any.strings_TrimSuffix Tryz.lays102 s ⟨#[10]⟩ w hs) fun e w' ⟨h1, h2⟩ => ⟨h1, h2.symm⟩

set_option maxRecDepth 100000 in
set_option maxHeartbeats 2000000 in
theorem lines1_in (n : Nat) (hn : 3 ≤ n) (l B : Nat) (s : ByteArray) (hs : s.size ≤ 1048576) (J : List Ln → World → Prop) (hJ : ∀ p X Y, J p X → TurnB B X Y → J p Y)
    (hY : ∀ pre (x : Ln) W, J pre W → pre.length < s.size → YieldAt Fence.wide (n - 1) Tryz.prog l #[.string x.1] W fun e W' => e = .returned (.bool true) ∧ J (pre ++ [x]) W' ∧ KpS B W W')
    (W : World) (hB : Boxed W B 9 (.string s)) (h0 : J [] W) :
    CallsIn Fence.wide n Tryz.prog 71 #[.func (.yield l) #[] #[], .pointer (some ⟨B, 0, none⟩)] W fun e W' => (∃ v, e = .returned v) ∧ ∃ xs, lnsOf xs = lnR s.data.toList ∧ J xs W' := by
  refine callsIn_of_wp Tryz.func71 rfl trivial ?_ rfl
  simp only [Tryz.ntmps71, List.size_toArray, List.length_cons, List.length_nil, Nat.reduceAdd, Nat.reduceSub, Array.replicate_succ, Array.replicate_zero, List.push_toArray, List.append_toArray, List.nil_append, List.cons_append]
  have hmx : Tryz.prog.follows .mixedOrders = true := by kernel_rfl
  gi_wp2
  gi_loopw [] (fun wr => ∃ (r : ByteArray) (pre : List Ln), Hid (lnsOf pre ++ lnR r.data.toList = lnR s.data.toList) ∧ pre.length + r.size ≤ s.size ∧ J pre wr ∧ Boxed wr B 9 (.string r))
    (fun wr => match wr.cell? ⟨B, 0, none⟩ with | some (.string r) => r.size | _ => 0)
  case atStart => exact ⟨s, [], Lib.hid (by simp [lnsOf]), by simp, h0, hB⟩
  case round =>
    obtain ⟨r, pre, HL, hlen, hJs, bR⟩ := hrel
    have x0 := bR.cell
    have x0f := bR.frozen
    by_cases hz : r.size = 0
    · have hd0 : decide ((0 : Int) < (r.size : Int)) = false := decide_eq_false (by omega)
      have hd1 : decide (0 < r.size) = false := decide_eq_false (by omega)
      have hd2 : ¬ 0 < r.size := by omega
      have HE := Lib.hid (show lnsOf pre = lnR s.data.toList by
        have : r.data.toList = [] := List.eq_nil_of_length_eq_zero (by rw [← size_list]; exact hz)
        have h2 := HL.out
        rw [this, lnR_nil, List.append_nil] at h2
        exact h2)
      clear hz
      gi_wp2
      go_end0
      exact ⟨⟨_, rfl⟩, pre, HE.out, hJs⟩
    · have hd0 : decide ((0 : Int) < (r.size : Int)) = true := decide_eq_true (by omega)
      have hd1 : decide (0 < r.size) = true := decide_eq_true (by omega)
      have hge := Lib.indexByte_ge r.data.toList 10
      by_cases hi : 0 ≤ Lib.indexByte r.data.toList 10
      · obtain ⟨o, ho⟩ := Int.eq_ofNat_of_zero_le hi
        obtain ⟨h1, h2⟩ := ln_hit ho
        rw [← size_list] at h1
        obtain ⟨m, hm⟩ : ∃ m, o + 1 = m := ⟨_, rfl⟩
        rw [hm] at h2
        have e1 : (o : Int) + 1 = (m : Int) := by omega
        have m1 : m ≤ r.size := by omega
        have m2 : (m : Int) ≤ (r.size : Int) := by omega
        have m3 : 0 < m := by omega
        clear hm
        have HI := Lib.hid ho
        have hl1 : (r.extract 0 (m)).size ≤ 1048576 := by rw [size_list, ext_take, List.length_take, ← size_list]; omega
        have hs2 : (r.extract (m) r.size).size = r.size - (m) := by rw [size_list, ext_drop, List.length_drop, ← size_list]
        have HM := Lib.hid (show lnsOf (pre ++ [⟨r.extract 0 (m), hl1⟩]) ++ lnR (r.extract (m) r.size).data.toList = lnR s.data.toList by
          have h3 := HL.out
          rw [h2] at h3
          rw [← h3, ext_drop, lnsOf, List.map_append, lnsOf]
          simp only [List.map_cons, List.map_nil, ext_take, List.append_assoc, List.cons_append, List.nil_append])
        have hT : TurnB B wr ((wr.setCell ⟨B, 0, none⟩ (.string (r.extract (m) r.size))).drew) := ⟨_, .inr rfl⟩
        obtain ⟨fn, tmps, assign, body, hy, hR⟩ := hY pre ⟨r.extract 0 (m), hl1⟩ _ (hJ _ _ _ hJs hT) (by omega)
        have bR2 : Boxed ((wr.setCell ⟨B, 0, none⟩ (.string (r.extract (m) r.size))).drew) B 9 (.string (r.extract (m) r.size)) := bR.set _
        clear HL hJs hT h2 ho hi hz h1
        dsimp only at hy
        gi_wp2
        refine ⟨trivial, fun _ => by omega, ?_⟩
        gi_at_call 72
        refine (callsIn_wide.2 (c_IndexByte10 _ _)).mono ?_
        rintro e w' ⟨rfl, rfl⟩
        rw [HI.out]
        gi_wp2
        refine wpIn_wide.2 ?_
        go_region
        gi_wp2
        refine ⟨fun _ => by omega, hR.mono ?_⟩
        rintro e W3 ⟨rfl, hJ3, hk3⟩
        have x3 := (hk3 _ bR2).cell
        gi_wp2
        go_roundw
        case rel => exact ⟨_, _, HM, by rw [List.length_append, hs2]; simp only [List.length_cons, List.length_nil]; omega, hJ3, hk3 _ bR2⟩
        case measure => rw [x3, x0]; simp only [hs2]; omega
      · have hz3 : 0 < r.size := by omega
        have hi2 : Lib.indexByte r.data.toList 10 = -1 := by omega
        have hr0 : r.data.toList ≠ [] := fun e => hz (by rw [size_list, e]; rfl)
        have h2 := ln_miss hi2 hr0
        have HI := Lib.hid hi2
        have hl1 : r.size ≤ 1048576 := by omega
        have HM := Lib.hid (show lnsOf (pre ++ [⟨r, hl1⟩]) ++ lnR (⟨#[]⟩ : ByteArray).data.toList = lnR s.data.toList by
          have h3 := HL.out
          rw [h2] at h3
          rw [← h3, lnsOf, List.map_append, lnsOf]
          simp [lnR_nil])
        have hT : TurnB B wr (wr.setCell ⟨B, 0, none⟩ (.string ⟨#[]⟩)) := ⟨_, .inl rfl⟩
        obtain ⟨fn, tmps, assign, body, hy, hR⟩ := hY pre ⟨r, hl1⟩ _ (hJ _ _ _ hJs hT) (by omega)
        have bR2 : Boxed (wr.setCell ⟨B, 0, none⟩ (.string ⟨#[]⟩)) B 9 (.string ⟨#[]⟩) := bR.set _
        clear HL hJs hT h2 hi hi2 hz hr0 hge
        dsimp only at hy
        gi_wp2
        refine ⟨trivial, fun _ => by omega, ?_⟩
        gi_at_call 72
        refine (callsIn_wide.2 (c_IndexByte10 _ _)).mono ?_
        rintro e w' ⟨rfl, rfl⟩
        rw [HI.out]
        gi_wp2
        refine ⟨fun _ => by omega, hR.mono ?_⟩
        rintro e W3 ⟨rfl, hJ3, hk3⟩
        have x3 := (hk3 _ bR2).cell
        gi_wp2
        go_roundw
        case rel => exact ⟨_, _, HM, by rw [List.length_append]; simp only [List.length_cons, List.length_nil]; show pre.length + (0 + 1) + 0 ≤ s.size; omega, hJ3, hk3 _ bR2⟩
        case measure => rw [x3, x0]; exact hz3

set_option maxHeartbeats 1000000 in
theorem lines_in (n : Nat) (s : ByteArray) (w : World) :
    CallsIn Fence.wide n Tryz.prog 46 #[.string s] w fun e w' => e = .returned (.func (.func 71) #[] #[.pointer (some ⟨w.heap.size, 0, none⟩)]) ∧ w' = w.alloc (.cells #[.string s] 9) := by
  refine callsIn_of_wp Tryz.func46 rfl trivial ?_ rfl
  simp only [Tryz.ntmps46, List.size_toArray, List.length_cons, List.length_nil, Nat.reduceAdd, Nat.reduceSub, Array.replicate_succ, Array.replicate_zero, List.push_toArray, List.append_toArray, List.nil_append, List.cons_append]
  gi_wp2
  go_ret
  exact ⟨rfl, rfl⟩

theorem lines_seq (n : Nat) (hn : 3 ≤ n) (B : Nat) (s : ByteArray) (hs : s.size ≤ 1048576) (w : World) (hB : Boxed w B 9 (.string s)) :
    SeqT Fence.wide n Tryz.prog 71 #[.pointer (some ⟨B, 0, none⟩)] (fun x : Ln => #[Value.string x.1]) (TurnB B) (KpS B) (fun xs => lnsOf xs = lnR s.data.toList) s.size w := fun l J W hW hJ hY h0 =>
  lines1_in n hn l B s hs J hJ hY W ((hW.block B hB.lt).trans hB) h0

theorem lnsOf_len (xs : List Ln) : (lnsOf xs).length = xs.length := by simp [lnsOf]
/-- what the caller's own cells hold between two rounds -/
def LnI (n0 O : Nat) (t e : TypeId) (pre : List Ln) (W : World) : Prop := ∃ v, Boxed W O t v ∧ W.ownsRow n0 e 1 v (lnsOf pre).length (strs (lnsOf pre)) ∧ True
theorem LnI.turn {n0 O B : Nat} {t e : TypeId} {pre : List Ln} {X Y : World} (h : LnI n0 O t e pre X) (hB : B ≠ O) (hb : B < n0) (hT : TurnB B X Y) : LnI n0 O t e pre Y := by
  obtain ⟨v, hv, hr, _⟩ := h
  obtain ⟨u, hY⟩ := hT
  have hne : v.ownBlock = none ∨ v.ownBlock ≠ some B := by
    rcases hr.2 with ⟨rfl, _⟩ | ⟨g, cap, cur, rfl, hg, hgb, _⟩
    · exact .inl rfl
    · refine .inr fun e' => ?_
      obtain rfl : g = B := by simpa [Value.ownBlock] using e'
      omega
  have h1 := hr.kept (grownBy_setCell' X B u) hne
  have h2 : Boxed (X.setCell ⟨B, 0, none⟩ u) O t v := (Below.heap_setCell _ _ _ _ (fun e => hB e.symm)).trans hv
  rcases hY with rfl | rfl
  · exact ⟨v, h2, h1, trivial⟩
  · exact ⟨v, h2, h1, trivial⟩
theorem ownFrom_size {β : Type} (n B : Nat) : OwnFrom B (fun (_ : β) (W : World) => n ≤ W.heap.size) := fun s X Y row h hg _ => Nat.le_trans h hg.size
theorem KeepsOthers.of_new {X Y : World} (h : New X Y) : KeepsOthers X Y := ⟨h.size, fun k o hk _ => (h.block k (Array.getElem?_eq_some_iff.1 hk).1).trans hk⟩
theorem KeepsOthers.of_row {X Y : World} {n0 : Nat} {e : TypeId} {v : Value} {n : Nat} {xs : List Value} (hr : X.ownsRow n0 e 1 v n xs) (hg : X.grownBy Y v.ownBlock) : KeepsOthers X Y :=
  KeepsOthers.of_grownBy hg fun j o ej hj => by
    rcases hr.2 with ⟨rfl, _⟩ | ⟨g, cap, cur, rfl, _, hgb, _⟩
    · simp [Value.ownBlock] at ej
    · obtain rfl : g = j := by simpa [Value.ownBlock] using ej
      rw [hgb] at hj; cases hj; rfl
theorem boxed_at {X Y : World} {B : Nat} {t : TypeId} {v : Value} (h : Boxed X B t v) (hb : Y.heap[B]? = X.heap[B]?) : Boxed Y B t v := hb.trans h

set_option maxRecDepth 100000 in
set_option maxHeartbeats 2000000 in
theorem splitLines_in (m : Nat) (hn : 5 ≤ m) (s : ByteArray) (hs : s.size ≤ 1048576) (w : World) :
    CallsIn Fence.wide m Tryz.prog 22 #[.string s] w fun e W' => ∃ v, e = .returned v ∧ W'.ownsRow w.heap.size 9 1 v (lnR s.data.toList).length (strs (lnR s.data.toList)) ∧ Below w.heap.size w W' := by
  have hm1 : 1 ≤ m := by omega
  refine callsIn_of_wp_marks Tryz.func22 rfl trivial ?_ rfl
  simp only [Tryz.ntmps22, List.size_toArray, List.length_cons, List.length_nil, Nat.reduceAdd, Nat.reduceSub, Array.replicate_succ, Array.replicate_zero, List.push_toArray, List.append_toArray, List.nil_append, List.cons_append]
  gi_wp2_with (refine ⟨trivial, ?_⟩; gi_at_call 46; refine (lines_in (m - 1) _ _).mono ?_; rintro e w' ⟨rfl, rfl⟩)
  have bO := Boxed.new w 46 (.slice none 0 0)
  have bS := Boxed.new (w.alloc (.cells #[.slice none 0 0] 46)) 9 (.string s)
  rw [World.size_alloc] at bS
  have hB0 : Below w.heap.size w ((w.alloc (.cells #[.slice none 0 0] 46)).alloc (.cells #[.string s] 9)) := ((Below.refl _ w).alloc (Nat.le_refl _) _).alloc (by simp) _
  have c0 := bO.alloc (.cells #[.string s] 9)
  have hs0 : ((w.alloc (.cells #[.slice none 0 0] 46)).alloc (.cells #[.string s] 9)).heap.size = w.heap.size + 2 := by simp
  generalize ((w.alloc (.cells #[.slice none 0 0] 46)).alloc (.cells #[.string s] 9)) = W0 at *
  clear bO
  refine wpIn_rangeT rfl hm1 (gf := 71) (lb := #[.pointer (some ⟨w.heap.size + 1, 0, none⟩)]) rfl trivial (enters_of Tryz.func71 (by kernel_rfl) rfl)
    (lines_seq (m - 1) (by omega) (w.heap.size + 1) s hs W0 bS) (fun _ _ h => h.keeps) KpS.trans KpS.put (fun _ => rfl)
    (fun pre W => (LnI (w.heap.size + 2) w.heap.size 46 9 pre W ∧ Below w.heap.size w W) ∧ w.heap.size + 2 ≤ W.heap.size)
    (OwnFrom.and (OwnFrom.and (Own.from (holdsRow_own _ _ _ _ _ (fun pre => (lnsOf pre).length) (fun pre => strs (lnsOf pre)) (fun _ _ => True)) _) (ownFrom_below (Nat.le_refl _) (by omega))) (ownFrom_size _ _))
    (fun pre X Y ⟨⟨h1, h2⟩, h3⟩ hT => ⟨⟨h1.turn (by omega) (by omega) hT, by
      obtain ⟨u, rfl | rfl⟩ := hT
      · exact h2.setCell (p := ⟨w.heap.size + 1, 0, none⟩) (by simp) _
      · exact (h2.setCell (p := ⟨w.heap.size + 1, 0, none⟩) (by simp) _).drew⟩, Nat.le_trans h3 hT.keeps.size⟩)
    ⟨⟨⟨_, c0, World.ownsRow_nil _ _ _ _, trivial⟩, hB0⟩, by omega⟩
    (fun x => { tmps := #[.string s, undef, .slice none 0 0, .pointer (some ⟨w.heap.size, 0, none⟩), .string x.1, .string s, .func (.func 71) #[] #[.pointer (some ⟨w.heap.size + 1, 0, none⟩)], .string x.1, undef, undef, undef, undef, undef, undef], defers := [] }) ?assign ?body ?done
  case assign =>
    intro l x W K hK
    gi_wp2
    exact hK
  case body =>
    rintro l pre ⟨x, hx⟩ W ⟨⟨⟨v, hv, hr, _⟩, hB⟩, hz⟩ hlt
    obtain ⟨Ar, cr, rfl⟩ := own_sl hr
    have hln : (lnsOf pre).length < s.size := by rw [lnsOf_len]; exact hlt
    have x0 := hv.cell
    have l0 := Later.cell x0 hv.lt
    have HV := Lib.hid hv
    have HR := Lib.hid hr
    have HB := Lib.hid hB
    have HC := Lib.hid (fun (t : Later W) => c_TrimN x t.w (by omega))
    have HX := Lib.hid (show lnsOf (pre ++ [⟨x, hx⟩]) = lnsOf pre ++ [cutN x.data.toList] by simp [lnsOf])
    clear hv hr hB x0
    gi_wp2
    refine wpIn_round_late [0] [1, 2] 3 4 [5] (by kernel_rfl) (by rfl) (by rfl) (by decide +kernel) (by rfl) (fun ⟨a, w, h⟩ => h) ?_
    simp only [pickO, List.getElem?_cons_zero, List.getElem?_cons_succ]
    refine wpReads_cons (.slice Ar (lnsOf pre).length cr) (by rfl) (fun w' hw' => by obtain ⟨t, rfl⟩ := hw'; go_simp) ?_
    simp only [Act.put, List.setIfInBounds_toArray, List.set_cons_zero, List.set_cons_succ]
    simp only [wpReads]
    (repeat (go_big_quiet_step ((go_at_call 47; exact later_same (HC.out _)))))
    refine wpQuiet_nil ?_
    intro wq hw'
    obtain ⟨⟨wz, nq⟩, hwz⟩ := hw'
    have hwz' : wq = wz := hwz
    subst hwz'
    clear hwz l0
    have ho2 := ((Own.of HR.out).new nq).1
    have hv2 := boxed_at HV.out (nq.block _ HV.out.lt)
    have hz2 : w.heap.size + 2 ≤ wq.heap.size := Nat.le_trans hz nq.size
    have HS := Lib.hid (show ∀ (v1 : Value) (w3 : World), w3.ownsRow (w.heap.size + 2) 9 1 v1 ((lnsOf pre).length + 1) (strs (lnsOf pre) ++ [.string ⟨(cutN x.data.toList).toArray⟩]) → Below (w.heap.size + 2) wq w3 → wq.grownBy w3 (Value.slice Ar (lnsOf pre).length cr).ownBlock →
        KeepsOthers W (w3.setCell ⟨w.heap.size, 0, none⟩ v1) ∧ KpS (w.heap.size + 1) W (w3.setCell ⟨w.heap.size, 0, none⟩ v1) ∧ (LnI (w.heap.size + 2) w.heap.size 46 9 (pre ++ [⟨x, hx⟩]) (w3.setCell ⟨w.heap.size, 0, none⟩ v1) ∧ Below w.heap.size w (w3.setCell ⟨w.heap.size, 0, none⟩ v1)) ∧ w.heap.size + 2 ≤ (w3.setCell ⟨w.heap.size, 0, none⟩ v1).heap.size from by
      intro v1 w3 hown1 hb3 hgr
      have hv3 := boxed_at hv2 (hb3.block _ (by omega))
      refine ⟨((KeepsOthers.of_new nq).trans (KeepsOthers.of_row ho2 hgr)).trans (KeepsOthers.setCell _ _ _), fun s' hs' => ?_, ⟨⟨v1, hv3.set v1, ?_, trivial⟩, ?_⟩, ?_⟩
      · exact boxed_at (boxed_at (boxed_at hs' (nq.block _ hs'.lt)) (hb3.block _ (by omega))) (Below.heap_setCell _ _ _ _ (by simp))
      · rw [HX.out, List.length_append, strs_snoc]
        refine hown1.kept (grownBy_setCell' w3 w.heap.size v1) (.inr fun e => ?_)
        have := (hown1.lt _ e).1
        omega
      · exact ((HB.out.trans (nq.mono HB.out.size)).trans (hb3.mono (by omega))).setCell (p := ⟨w.heap.size, 0, none⟩) (by simp) _
      · have h1 := hb3.size
        have h2 := (KeepsOthers.setCell w3 ⟨w.heap.size, 0, none⟩ v1).size
        omega)
    clear HR HV HX HB HC
    go_wp2_with (at_builtin; refine wpList_app1 rfl _ _ rfl row_Str _ (w.heap.size + 2) ho2 rfl [.string ⟨(cutN x.data.toList).toArray⟩] rfl rfl (by simp [Value.oneCell']) (by unfold maxLen; omega) (by omega) hz2 ?_; intro v1 w3 hown1 hb3 hgr _; have HF := Lib.hid (HS.out v1 w3 hown1 hb3 hgr); have hv3 := boxed_at hv2 (hb3.block _ (by omega)); have y0 := hv3.cell; have y1 := hv3.frozen; obtain ⟨A1, cc, rfl⟩ := own_sl hown1)
    exact HF.out
  case done =>
    rintro D xs W hD hxs ⟨⟨⟨v, hv, hr, _⟩, hB⟩, hz⟩ hK
    have x2 := hv.cell
    rw [hxs] at hr
    gi_wp2
    refine ⟨by simp, .inl ⟨_, _, rfl, run_takeDeferred hK, ?_⟩⟩
    exact ⟨_, results_tmp rfl _ _ _, _, rfl, ((Own.of (ownsRow_putObj hr _ hK rfl)).wide (by omega) (Nat.le_refl _) (Nat.le_refl _)).1, hB.trans (belowK_b (w := w) (Nat.le_refl _) W D _ _ (by omega) hK rfl rfl)⟩
theorem c_implSplitLines (s : ByteArray) (w : World) (hs : s.size ≤ 1048576) : Calls Tryz.prog 22 #[.string s] w (GivesRow w 9 1 (lnR s.data.toList).length (strs (lnR s.data.toList))) :=
  ((callsIn_wide (n := 5)).1 (splitLines_in 5 (by omega) s hs w)).mono fun e W' ⟨v, he, hr, hB⟩ => ⟨v, he, Own.of hr, hB⟩
/-- the lines as strings -/
def lnS (s : ByteArray) : List ByteArray := (lnR s.data.toList).map fun l => ⟨l.toArray⟩
theorem lnS_len (s : ByteArray) : (lnS s).length = (lnR s.data.toList).length := by simp [lnS]
theorem lnS_strs (s : ByteArray) : (lnS s).map Value.string = strs (lnR s.data.toList) := by simp [lnS, strs]
theorem lnS_le (s : ByteArray) : (lnS s).length ≤ s.size := by
  have := lnR_len _ s.data.toList (Nat.le_refl _)
  rw [lnS_len, size_list]; exact this
theorem c_implLines (s : ByteArray) (w : World) (hs : s.size ≤ 1048576) : Calls Tryz.prog 22 #[.string s] w (GivesRow w 9 1 (lnS s).length ((lnS s).map Value.string)) := by
  rw [lnS_len, lnS_strs]; exact c_implSplitLines s w hs
end Go.Proofs.YtcbifdfcllaaaaaGreatDoor
