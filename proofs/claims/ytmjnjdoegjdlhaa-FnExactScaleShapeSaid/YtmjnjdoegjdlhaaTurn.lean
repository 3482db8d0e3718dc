/- Contracts of the functions that turn a shape. -/
import Derived.Test.YtmjnjdoegjdlhaaSorted
import Derived.Test.YtmjnjdoegjdlhaaPut
namespace Go.Proofs.Ytmjnjdoegjdlhaa
open Go.RowKit Go.Deep
set_option linter.unusedVariables false
set_option linter.unusedSimpArgs false

def rotP (p : Int × Int) : Int × Int := (p.2, -p.1)
def rotN : Nat → Int × Int → Int × Int
  | 0, p => p
  | n + 1, p => rotN n (rotP p)
def mirP (s : Int) (p : Int × Int) : Int × Int := if 4 ≤ s then (-p.1, p.2) else p
/-- a point behind a symmetry -/
def turnP (s : Int) (p : Int × Int) : Int × Int := rotN (s % 4).toNat (mirP s p)
theorem rotN_step {m c : Nat} (h : c < m) (q : Int × Int) : rotN (m - c) q = rotN (m - (c + 1)) (rotP q) := by
  obtain ⟨j, hj⟩ : ∃ j, m - c = j + 1 := ⟨m - c - 1, by omega⟩
  rw [hj, show m - (c + 1) = j by omega]
  rfl
def bdP (p : Int × Int) : Prop := (-1000000 ≤ p.1 ∧ p.1 ≤ 1000000) ∧ -1000000 ≤ p.2 ∧ p.2 ≤ 1000000
theorem rotN_bd (n : Nat) {p : Int × Int} (h : bdP p) : bdP (rotN n p) := by
  induction n generalizing p with
  | zero => exact h
  | succ n ih => exact ih (by unfold bdP rotP at *; omega)
theorem mirP_bd (s : Int) {p : Int × Int} (h : bdP p) : bdP (mirP s p) := by
  unfold mirP
  split
  · unfold bdP at *; simp; omega
  · exact h
theorem rotP_inj {p q : Int × Int} (h : rotP p = rotP q) : p = q := by
  simp [rotP] at h
  exact Prod.ext h.2 h.1
theorem rotN_inj (n : Nat) {p q : Int × Int} (h : rotN n p = rotN n q) : p = q := by
  induction n generalizing p q with
  | zero => exact h
  | succ n ih => exact rotP_inj (ih h)
theorem mirP_inj (s : Int) {p q : Int × Int} (h : mirP s p = mirP s q) : p = q := by
  unfold mirP at h
  split at h
  · simp at h; exact Prod.ext h.1 h.2
  · exact h
theorem turnP_inj (s : Int) {p q : Int × Int} (h : turnP s p = turnP s q) : p = q := mirP_inj s (rotN_inj _ h)
def turnT (zs : List (Int × Int)) (s : Int) (k : Nat) : List (Int × Int) := (zs.take k).map (turnP s)
def turnL (s : Int) (zs : List (Int × Int)) : List (Int × Int) := zs.map (turnP s)
theorem turnT_zero (zs : List (Int × Int)) (s : Int) : (turnT zs s 0).flatMap ptCells = [] := by simp only [turnT, List.take_zero, List.map_nil, List.flatMap_nil]
theorem turnT_all (zs : List (Int × Int)) (s : Int) : turnT zs s zs.length = turnL s zs := by simp [turnT, turnL]
theorem turnL_len (s : Int) (zs : List (Int × Int)) : (turnL s zs).length = zs.length := by simp [turnL]
theorem turnL_bd {s : Int} {zs : List (Int × Int)} (h : bdL zs) : bdL (turnL s zs) := by
  intro z hz
  obtain ⟨x, hx, rfl⟩ := List.mem_map.1 hz
  exact rotN_bd _ (mirP_bd s (h x hx))
theorem turnL_nd {s : Int} {zs : List (Int × Int)} (h : zs.Nodup) : (turnL s zs).Nodup := by
  unfold turnL
  rw [List.Nodup, List.pairwise_map]
  exact h.imp fun hne he => hne (turnP_inj s he)
theorem shp_nd {zs : List (Int × Int)} (h : shpB zs = true) : zs.Nodup := by
  simp only [shpB, Bool.and_eq_true] at h
  have h1 := List.all_eq_true.1 h.1
  have key : ∀ i j (hi : i < zs.length) (hj : j < zs.length), i < j → ltQ zs[i] zs[j] = true := by
    intro i j hi hj hij
    induction j with
    | zero => omega
    | succ j ih =>
      have h2 := h1 (j + 1) (List.mem_range.2 hj)
      rw [okAt_suc hj (by omega : j < zs.length) rfl, Bool.and_eq_true] at h2
      by_cases e : i = j
      · subst e; exact h2.2
      · exact ltQ_trans (ih (by omega) (by omega)) h2.2
  rw [List.Nodup, List.pairwise_iff_getElem]
  intro i j hi hj hij he
  have := key i j hi hj hij
  rw [he, ltQ_irr] at this
  cases this
theorem turn_step {w' : World} {base : Nat} {e : TypeId} {v : Value} {zs : List (Int × Int)} {s : Int} {k : Nat} {q : Int × Int} (hk : k < zs.length) (hq : q = turnP s zs[k])
    (h : w'.ownsRow base e 2 v (k + 1) ((turnT zs s k).flatMap ptCells ++ [.int .i64 q.1, .int .i64 q.2])) : w'.ownsRow base e 2 v (k + 1) ((turnT zs s (k + 1)).flatMap ptCells) := by
  subst hq
  have : turnT zs s (k + 1) = turnT zs s k ++ [turnP s zs[k]] := by
    unfold turnT
    rw [List.take_succ_eq_append_getElem hk, List.map_append]
    rfl
  rw [this, List.flatMap_append]
  simpa [ptCells] using h

set_option maxHeartbeats 2000000 in
theorem c_l04Turn (p : Int × Int) (s : Int) (w : World) (hp : bdP p) (s0 : 0 ≤ s) (s1 : s ≤ 7) :
    Calls Try.prog 56 #[.agg #[.int .i64 p.1, .int .i64 p.2], .int .i64 s] w fun e w' => e = .returned (.agg #[.int .i64 (turnP s p).1, .int .i64 (turnP s p).2]) ∧ New w w' := by
  have HM := Lib.hid (mirP_bd s hp)
  obtain ⟨⟨p0, p1⟩, p2, p3⟩ := hp
  by_cases h4 : 4 ≤ s
  · have HE := Lib.hid (show mirP s p = ((-p.1), p.2) by simp [mirP, h4])
    have N0 : New w ((w.alloc (.cells #[.int .i64 (-p.1), .int .i64 p.2] 40)).alloc (.cells #[.int .i64 0, .int .i64 0] 40)) := ((New.same w).box _).box _
    have B0 : BoxV ((w.alloc (.cells #[.int .i64 (-p.1), .int .i64 p.2] 40)).alloc (.cells #[.int .i64 0, .int .i64 0] 40)) w.heap.size [.int .i64 (-p.1), .int .i64 p.2] := .two (by go_simp) (by go_simp) (by go_simp) (by go_simp) (by simp <;> omega)
    have B1 : BoxV ((w.alloc (.cells #[.int .i64 (-p.1), .int .i64 p.2] 40)).alloc (.cells #[.int .i64 0, .int .i64 0] 40)) (w.heap.size + 1) [.int .i64 0, .int .i64 0] := .two (by go_simp) (by go_simp) (by go_simp) (by go_simp) (by simp <;> omega)
    go_enter Try.func56, Try.ntmps56
    go_wp2
    generalize ((w.alloc (.cells #[.int .i64 (-p.1), .int .i64 p.2] 40)).alloc (.cells #[.int .i64 0, .int .i64 0] 40)) = W0 at *
    go_loopw [5] (fun i wr => ∃ j : Nat, ∃ q : Int × Int, j ≤ 3 ∧ i = .int .i64 j ∧ Hid (rotN j q = turnP s p) ∧ bdP q ∧ BoxV wr w.heap.size [.int .i64 q.1, .int .i64 q.2] ∧ BoxV wr (w.heap.size + 1) [.int .i64 0, .int .i64 0] ∧ New w wr) (fun i _ => (intOf i).toNat)
    case atStart =>
      have := HM.out
      have e := HE.out
      exact ⟨(s % 4).toNat, mirP s p, by omega, by congr 1; omega, Lib.hid rfl, HM.out, by rw [e]; exact B0, B1, N0⟩
    case round =>
      clear B0 B1 N0
      obtain ⟨j, q, hj, rfl, HQ, hq, B0, B1, hN⟩ := hrel
      have HB := Lib.hid hq
      obtain ⟨⟨q0, q1⟩, q2, q3⟩ := hq
      have ⟨⟨c0, d0⟩, ⟨f0, g0⟩, l0⟩ := B0.at2
      have ⟨⟨c1, d1⟩, ⟨f1, g1⟩, l1⟩ := B1.at2
      by_cases hj0 : 0 < j
      · obtain ⟨i, rfl⟩ : ∃ i, j = i + 1 := ⟨j - 1, by omega⟩
        have HR := Lib.hid (rotN_bd 1 HB.out)
        go_wp2
        go_roundw
        case rel => exact ⟨i, rotP q, by omega, by go_num, Lib.hid HQ.out, HR.out, (B0.both _ _), ((B1.off (p := ⟨w.heap.size, 0, none⟩) (by simp) _).off (p := ⟨w.heap.size, 1, none⟩) (by simp) _), (hN.setCell (by simp) _).setCell (by simp) _⟩
        case measure => simp [intOf]
      · have ej : j = 0 := by omega
        subst ej
        have HV := Lib.hid (show turnP s p = q from HQ.out.symm)
        go_wp2
        refine bodyPost_ret (v := .agg #[.int .i64 q.1, .int .i64 q.2]) (by simp [results, Try.results56, go_sem, *]) rfl ⟨by rw [HV.out], ?_⟩
        exact (hN.setCell (by simp) _).setCell (by simp) _
  · have HE := Lib.hid (show mirP s p = (p.1, p.2) by simp [mirP, h4])
    have N0 : New w ((w.alloc (.cells #[.int .i64 p.1, .int .i64 p.2] 40)).alloc (.cells #[.int .i64 0, .int .i64 0] 40)) := ((New.same w).box _).box _
    have B0 : BoxV ((w.alloc (.cells #[.int .i64 p.1, .int .i64 p.2] 40)).alloc (.cells #[.int .i64 0, .int .i64 0] 40)) w.heap.size [.int .i64 p.1, .int .i64 p.2] := .two (by go_simp) (by go_simp) (by go_simp) (by go_simp) (by simp <;> omega)
    have B1 : BoxV ((w.alloc (.cells #[.int .i64 p.1, .int .i64 p.2] 40)).alloc (.cells #[.int .i64 0, .int .i64 0] 40)) (w.heap.size + 1) [.int .i64 0, .int .i64 0] := .two (by go_simp) (by go_simp) (by go_simp) (by go_simp) (by simp <;> omega)
    go_enter Try.func56, Try.ntmps56
    go_wp2
    generalize ((w.alloc (.cells #[.int .i64 p.1, .int .i64 p.2] 40)).alloc (.cells #[.int .i64 0, .int .i64 0] 40)) = W0 at *
    go_loopw [5] (fun i wr => ∃ j : Nat, ∃ q : Int × Int, j ≤ 3 ∧ i = .int .i64 j ∧ Hid (rotN j q = turnP s p) ∧ bdP q ∧ BoxV wr w.heap.size [.int .i64 q.1, .int .i64 q.2] ∧ BoxV wr (w.heap.size + 1) [.int .i64 0, .int .i64 0] ∧ New w wr) (fun i _ => (intOf i).toNat)
    case atStart =>
      have := HM.out
      have e := HE.out
      exact ⟨(s % 4).toNat, mirP s p, by omega, by congr 1; omega, Lib.hid rfl, HM.out, by rw [e]; exact B0, B1, N0⟩
    case round =>
      clear B0 B1 N0
      obtain ⟨j, q, hj, rfl, HQ, hq, B0, B1, hN⟩ := hrel
      have HB := Lib.hid hq
      obtain ⟨⟨q0, q1⟩, q2, q3⟩ := hq
      have ⟨⟨c0, d0⟩, ⟨f0, g0⟩, l0⟩ := B0.at2
      have ⟨⟨c1, d1⟩, ⟨f1, g1⟩, l1⟩ := B1.at2
      by_cases hj0 : 0 < j
      · obtain ⟨i, rfl⟩ : ∃ i, j = i + 1 := ⟨j - 1, by omega⟩
        have HR := Lib.hid (rotN_bd 1 HB.out)
        go_wp2
        go_roundw
        case rel => exact ⟨i, rotP q, by omega, by go_num, Lib.hid HQ.out, HR.out, (B0.both _ _), ((B1.off (p := ⟨w.heap.size, 0, none⟩) (by simp) _).off (p := ⟨w.heap.size, 1, none⟩) (by simp) _), (hN.setCell (by simp) _).setCell (by simp) _⟩
        case measure => simp [intOf]
      · have ej : j = 0 := by omega
        subst ej
        have HV := Lib.hid (show turnP s p = q from HQ.out.symm)
        go_wp2
        refine bodyPost_ret (v := .agg #[.int .i64 q.1, .int .i64 q.2]) (by simp [results, Try.results56, go_sem, *]) rfl ⟨by rw [HV.out], ?_⟩
        exact (hN.setCell (by simp) _).setCell (by simp) _

set_option maxHeartbeats 4000000 in
theorem c_l04Turned (lo hi : Nat) (v : Value) (zs : List (Int × Int)) (s : Int) (w : World) (h : Rd w lo hi 2 v zs.length (zs.flatMap ptCells)) (hn : 0 < zs.length) (hl : zs.length ≤ 1000000) (hb : bdL zs) (s0 : 0 ≤ s) (s1 : s ≤ 7) :
    Calls Try.prog 40 #[v, .int .i64 s] w (GivesRow w 40 2 (sortR (homL (turnL s zs))).length ((sortR (homL (turnL s zs))).flatMap ptCells)) := by
  have HR := Lib.hid h
  have HD := Lib.hid (fun k hk => bdL_at hb (k := k) hk)
  have HT := Lib.hid (turnL_bd (s := s) hb)
  have HL := Lib.hid (turnL_len s zs)
  have HM := Lib.hid (homL_len (turnL s zs))
  obtain ⟨_, hm, hh, A, c, rfl, hrd⟩ := h
  obtain ⟨b, off, rfl, _, hb1, hc⟩ := hrd hn
  clear hc hrd hb
  go_enter Try.func40, Try.ntmps40
  go_wp2
  go_loopw [5, 6] (fun v i wr => ∃ k : Nat, k ≤ zs.length ∧ i = .int .i64 k ∧ wr.ownsRow w.heap.size 40 2 v k ((turnT zs s k).flatMap ptCells) ∧ New w wr) (fun _ i _ => zs.length - (intOf i).toNat)
  case atStart => exact ⟨0, Nat.zero_le _, rfl, by rw [turnT_zero]; exact World.ownsRow_made w #[] 0 (Nat.le_refl _) (by omega) rfl, (New.same _).box _⟩
  case round =>
    obtain ⟨k, hk, rfl, hown, hN⟩ := hrel
    by_cases hlt : k < zs.length
    · obtain ⟨x0, x1, bw⟩ := rd_pt HR.out hN rfl hlt
      have HDK := Lib.hid (HD.out k hlt)
      have HOW := Lib.hid hown
      clear hown
      go_wp2_with fail
      refine (c_l04Turn zs[k] s _ HDK.out s0 s1).mono ?_
      rintro e w2 ⟨rfl, n2⟩
      have hN2 := hN.step n2
      have hz2 := hN2.size
      have HO2 := Lib.hid (ownsRow_new HOW.out n2)
      clear x0 x1 bw
      go_wp2_with (at_builtin; refine wpList_app1 rfl _ _ rfl row_point _ w.heap.size HO2.out rfl [.int .i64 (turnP s zs[k]).1, .int .i64 (turnP s zs[k]).2] rfl rfl (by simp [Value.oneCell']) (by unfold maxLen; omega) (by omega) hz2 ?_; intro v1 w3 hown1 hb3 _ _)
      go_roundw
      case rel => exact ⟨k + 1, by omega, by go_num, turn_step hlt rfl hown1, hN2.trans hb3⟩
      case measure => simp [intOf]; omega
    · have ek : k = zs.length := by omega
      subst ek
      rw [turnT_all] at hown
      have HO := Lib.hid (Own.of hown)
      clear hown
      go_wp2_with fail
      refine (c_l04Home _ _ _ (turnL s zs) _ (by rw [HL.out]; exact HO.out.rd) (by rw [HL.out]; exact hn) (by rw [HL.out]; exact hl) HT.out).mono ?_
      rintro e w2 ⟨u2, rfl, hO2, n2⟩
      go_wp2_with fail
      refine (c_l04Sorted _ _ _ (homL (turnL s zs)) _ (by rw [HM.out]; exact hO2.rd) (by rw [HM.out, HL.out]; exact hl)).mono ?_
      rintro e w3 ⟨u3, rfl, hO3, n3⟩
      go_wp2
      go_ret
      exact ⟨_, rfl, hO3.wide (Nat.le_trans hN.size n2.size) (Nat.le_refl _) (Nat.le_refl _), (hN.step n2).step n3⟩

set_option maxHeartbeats 8000000 in
theorem c_turned (lo hi : Nat) (v : Value) (zs : List (Int × Int)) (s : Int) (w : World) (h : Rd w lo hi 2 v zs.length (zs.flatMap ptCells)) (hn : 0 < zs.length) (hl : zs.length ≤ 1000000) (hb : bdL zs) (hd : zs.Nodup) (s0 : 0 ≤ s) (s1 : s ≤ 7) :
    Calls Try.prog 41 #[v, .int .i64 s] w (GivesRow w 40 2 (sortR (homL (turnL s zs))).length ((sortR (homL (turnL s zs))).flatMap ptCells)) := by
  have HR := Lib.hid h
  have HD := Lib.hid (fun k hk => bdL_at hb (k := k) hk)
  have HND := Lib.hid (turnL_nd (s := s) hd)
  have HL := Lib.hid (turnL_len s zs)
  have HSB : Hid (bdL (sortR (turnL s zs))) := Lib.hid (fun z hz => turnL_bd hb z (((sortR_spec (turnL s zs)).2.1 z).1 hz))
  have HSL := Lib.hid (sortR_spec (turnL s zs)).2.2
  have HSN : Hid (0 < (sortR (turnL s zs)).length) := Lib.hid (List.length_pos_of_mem (((sortR_spec (turnL s zs)).2.1 (turnP s zs[0])).2 (List.mem_map.2 ⟨zs[0], List.getElem_mem hn, rfl⟩)))
  rw [← homL_sort, show (homL (sortR (turnL s zs))).length = (sortR (turnL s zs)).length from homL_len _]
  obtain ⟨_, hm, hh, A, c, rfl, hrd⟩ := h
  obtain ⟨b, off, rfl, _, hb1, hc⟩ := hrd hn
  clear hc hrd hb hd
  by_cases h4 : 4 ≤ s
  · go_enter Try.func41, Try.ntmps41
    go_wp2
    go_loopw [5, 10] (fun v i wr => ∃ k : Nat, k ≤ zs.length ∧ i = .int .i64 k ∧ wr.ownsRow w.heap.size 40 2 v k ((turnT zs s k).flatMap ptCells) ∧ New w wr) (fun _ i _ => zs.length - (intOf i).toNat)
    case atStart => exact ⟨0, Nat.zero_le _, rfl, by rw [turnT_zero]; exact World.ownsRow_nil _ _ _ _, New.same _⟩
    case round =>
      obtain ⟨k, hk, rfl, hown, hN⟩ := hrel
      by_cases hlt : k < zs.length
      · obtain ⟨x0, x1, bw⟩ := rd_pt HR.out hN rfl hlt
        have HDK := Lib.hid (HD.out k hlt)
        obtain ⟨⟨d1, d2⟩, d3, d4⟩ := HD.out k hlt
        have HE := Lib.hid (show mirP s zs[k] = ((-zs[k].1), zs[k].2) by unfold mirP; rw [if_pos (by omega)])
        have n7 : New wr (wr.alloc (.cells #[.int .i64 (-zs[k].1), .int .i64 zs[k].2] 40)) := (New.same wr).box _
        have C7 : BoxV (wr.alloc (.cells #[.int .i64 (-zs[k].1), .int .i64 zs[k].2] 40)) wr.heap.size [.int .i64 (-zs[k].1), .int .i64 zs[k].2] := .two (by go_simp) (by go_simp) (by go_simp) (by go_simp) (by simp)
        have HOW := Lib.hid ((Own.of hown).new n7)
        have hr7 : w.heap.size ≤ wr.heap.size := hN.size
        have hz7 : (wr.alloc (.cells #[.int .i64 (-zs[k].1), .int .i64 zs[k].2] 40)).heap.size = wr.heap.size + 1 := by simp
        have HZ := Lib.hid hz7
        clear hown hz7
        go_wp2
        clear x0 x1 bw
        generalize (wr.alloc (.cells #[.int .i64 (-zs[k].1), .int .i64 zs[k].2] 40)) = W7 at *
        have hN7 := hN.step n7
        generalize wr.heap.size = r at *
        go_loopw [22] (fun i wq => ∃ c : Nat, ∃ q : Int × Int, c ≤ (s % 4).toNat ∧ i = .int .i64 c ∧ Hid (rotN ((s % 4).toNat - c) q = turnP s zs[k]) ∧ bdP q ∧ BoxV wq r [.int .i64 q.1, .int .i64 q.2] ∧ Fr r (r + 1) W7 wq) (fun i _ => (s % 4).toNat - (intOf i).toNat)
        case atStart =>
          have e := HE.out
          exact ⟨0, mirP s zs[k], Nat.zero_le _, rfl, Lib.hid rfl, mirP_bd s HDK.out, by rw [e]; exact C7, Fr.refl _ _ _⟩
        case round =>
          clear C7
          obtain ⟨c, q, hc, rfl, HQ, hq, C7, F7⟩ := hrel
          have HB := Lib.hid hq
          obtain ⟨⟨q0, q1⟩, q2, q3⟩ := hq
          have ⟨⟨c0, e0⟩, ⟨f0, g0⟩, l0⟩ := C7.at2
          by_cases hcm : c < (s % 4).toNat
          · have t1 : (c : Int) < s % 4 := by omega
            have HR2 := Lib.hid (rotN_bd 1 HB.out)
            have HS := Lib.hid (rotN_step hcm q)
            go_wp2
            go_roundw
            case rel => exact ⟨c + 1, rotP q, by omega, by go_num, Lib.hid (by rw [← HS.out]; exact HQ.out), HR2.out, C7.both _ _, (F7.setCell (p := ⟨r, 0, none⟩) (by simp) (by simp) _).setCell (p := ⟨r, 1, none⟩) (by simp) (by simp) _⟩
            case measure => simp [intOf]; omega
          · have t1 : decide ((c : Int) < s % 4) = false := by simp; omega
            have HV : Hid (q = turnP s zs[k]) := Lib.hid (by have := HQ.out; rw [show (s % 4).toNat - c = 0 by omega] at this; exact this)
            have hN8 : New w _ := hN7.fr F7 hr7
            have HO8 := Lib.hid (HOW.out.fr F7 (.inl (Nat.le_refl _)))
            have hz8 := hN8.size
            go_wp2_with (at_builtin; refine wpList_app1 rfl _ _ rfl row_point _ w.heap.size HO8.out.1 rfl [.int .i64 q.1, .int .i64 q.2] rfl rfl (by simp [Value.oneCell']) (by unfold maxLen; omega) (by omega) hz8 ?_; intro v1 w3 hown1 hb3 _ _)
            go_roundw
            case rel => exact ⟨k + 1, by omega, by go_num, turn_step hlt HV.out hown1, hN8.trans hb3⟩
            case measure => simp [intOf]; omega
      · have ek : k = zs.length := by omega
        subst ek
        rw [turnT_all] at hown
        have HO := Lib.hid (Own.of hown)
        clear hown
        go_wp2_with fail
        refine (c_sortedShape _ _ _ (turnL s zs) _ (by rw [HL.out]; exact HO.out.rd) (by rw [HL.out]; exact hn) (by rw [HL.out]; exact hl) HND.out).mono ?_
        rintro e w2 ⟨u2, rfl, hO2, n2⟩
        go_wp2_with fail
        refine (c_home _ _ _ (sortR (turnL s zs)) _ hO2.rd HSN.out (Nat.le_trans HSL.out (by rw [HL.out]; exact hl)) HSB.out).mono ?_
        rintro e w3 ⟨u3, rfl, hO3, n3⟩
        go_wp2
        go_ret
        exact ⟨_, rfl, hO3.wide (Nat.le_trans hN.size n2.size) (Nat.le_refl _) (Nat.le_refl _), (hN.step n2).step n3⟩
  · go_enter Try.func41, Try.ntmps41
    go_wp2
    go_loopw [5, 10] (fun v i wr => ∃ k : Nat, k ≤ zs.length ∧ i = .int .i64 k ∧ wr.ownsRow w.heap.size 40 2 v k ((turnT zs s k).flatMap ptCells) ∧ New w wr) (fun _ i _ => zs.length - (intOf i).toNat)
    case atStart => exact ⟨0, Nat.zero_le _, rfl, by rw [turnT_zero]; exact World.ownsRow_nil _ _ _ _, New.same _⟩
    case round =>
      obtain ⟨k, hk, rfl, hown, hN⟩ := hrel
      by_cases hlt : k < zs.length
      · obtain ⟨x0, x1, bw⟩ := rd_pt HR.out hN rfl hlt
        have HDK := Lib.hid (HD.out k hlt)
        obtain ⟨⟨d1, d2⟩, d3, d4⟩ := HD.out k hlt
        have HE := Lib.hid (show mirP s zs[k] = (zs[k].1, zs[k].2) by unfold mirP; rw [if_neg (by omega)])
        have n7 : New wr (wr.alloc (.cells #[.int .i64 zs[k].1, .int .i64 zs[k].2] 40)) := (New.same wr).box _
        have C7 : BoxV (wr.alloc (.cells #[.int .i64 zs[k].1, .int .i64 zs[k].2] 40)) wr.heap.size [.int .i64 zs[k].1, .int .i64 zs[k].2] := .two (by go_simp) (by go_simp) (by go_simp) (by go_simp) (by simp)
        have HOW := Lib.hid ((Own.of hown).new n7)
        have hr7 : w.heap.size ≤ wr.heap.size := hN.size
        have hz7 : (wr.alloc (.cells #[.int .i64 zs[k].1, .int .i64 zs[k].2] 40)).heap.size = wr.heap.size + 1 := by simp
        have HZ := Lib.hid hz7
        clear hown hz7
        go_wp2
        clear x0 x1 bw
        generalize (wr.alloc (.cells #[.int .i64 zs[k].1, .int .i64 zs[k].2] 40)) = W7 at *
        have hN7 := hN.step n7
        generalize wr.heap.size = r at *
        go_loopw [22] (fun i wq => ∃ c : Nat, ∃ q : Int × Int, c ≤ (s % 4).toNat ∧ i = .int .i64 c ∧ Hid (rotN ((s % 4).toNat - c) q = turnP s zs[k]) ∧ bdP q ∧ BoxV wq r [.int .i64 q.1, .int .i64 q.2] ∧ Fr r (r + 1) W7 wq) (fun i _ => (s % 4).toNat - (intOf i).toNat)
        case atStart =>
          have e := HE.out
          exact ⟨0, mirP s zs[k], Nat.zero_le _, rfl, Lib.hid rfl, mirP_bd s HDK.out, by rw [e]; exact C7, Fr.refl _ _ _⟩
        case round =>
          clear C7
          obtain ⟨c, q, hc, rfl, HQ, hq, C7, F7⟩ := hrel
          have HB := Lib.hid hq
          obtain ⟨⟨q0, q1⟩, q2, q3⟩ := hq
          have ⟨⟨c0, e0⟩, ⟨f0, g0⟩, l0⟩ := C7.at2
          by_cases hcm : c < (s % 4).toNat
          · have t1 : (c : Int) < s % 4 := by omega
            have HR2 := Lib.hid (rotN_bd 1 HB.out)
            have HS := Lib.hid (rotN_step hcm q)
            go_wp2
            go_roundw
            case rel => exact ⟨c + 1, rotP q, by omega, by go_num, Lib.hid (by rw [← HS.out]; exact HQ.out), HR2.out, C7.both _ _, (F7.setCell (p := ⟨r, 0, none⟩) (by simp) (by simp) _).setCell (p := ⟨r, 1, none⟩) (by simp) (by simp) _⟩
            case measure => simp [intOf]; omega
          · have t1 : decide ((c : Int) < s % 4) = false := by simp; omega
            have HV : Hid (q = turnP s zs[k]) := Lib.hid (by have := HQ.out; rw [show (s % 4).toNat - c = 0 by omega] at this; exact this)
            have hN8 : New w _ := hN7.fr F7 hr7
            have HO8 := Lib.hid (HOW.out.fr F7 (.inl (Nat.le_refl _)))
            have hz8 := hN8.size
            go_wp2_with (at_builtin; refine wpList_app1 rfl _ _ rfl row_point _ w.heap.size HO8.out.1 rfl [.int .i64 q.1, .int .i64 q.2] rfl rfl (by simp [Value.oneCell']) (by unfold maxLen; omega) (by omega) hz8 ?_; intro v1 w3 hown1 hb3 _ _)
            go_roundw
            case rel => exact ⟨k + 1, by omega, by go_num, turn_step hlt HV.out hown1, hN8.trans hb3⟩
            case measure => simp [intOf]; omega
      · have ek : k = zs.length := by omega
        subst ek
        rw [turnT_all] at hown
        have HO := Lib.hid (Own.of hown)
        clear hown
        go_wp2_with fail
        refine (c_sortedShape _ _ _ (turnL s zs) _ (by rw [HL.out]; exact HO.out.rd) (by rw [HL.out]; exact hn) (by rw [HL.out]; exact hl) HND.out).mono ?_
        rintro e w2 ⟨u2, rfl, hO2, n2⟩
        go_wp2_with fail
        refine (c_home _ _ _ (sortR (turnL s zs)) _ hO2.rd HSN.out (Nat.le_trans HSL.out (by rw [HL.out]; exact hl)) HSB.out).mono ?_
        rintro e w3 ⟨u3, rfl, hO3, n3⟩
        go_wp2
        go_ret
        exact ⟨_, rfl, hO3.wide (Nat.le_trans hN.size n2.size) (Nat.le_refl _) (Nat.le_refl _), (hN.step n2).step n3⟩

end Go.Proofs.Ytmjnjdoegjdlhaa
