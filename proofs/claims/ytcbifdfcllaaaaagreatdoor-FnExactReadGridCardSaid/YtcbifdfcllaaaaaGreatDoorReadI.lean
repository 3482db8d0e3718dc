/- Contracts of the functions that read a number's text: the reference's. -/
import Derived.Test.YtcbifdfcllaaaaaGreatDoorRdP
import Derived.Test.YtcbifdfcllaaaaaGreatDoorStrO
import Derived.Test.YtcbifdfcllaaaaaGreatDoorSetP
import Derived.BigGuardPart
import Derived.Lib.SlicesS
import Derived.Shelf.Abstract
import Derived.Test.YtcbifdfcllaaaaaGreatDoorLayPI
import Derived.Lib.IfaceNeq
namespace Go.Proofs.YtcbifdfcllaaaaaGreatDoor
open Go.RowKit Go.Deep
set_option linter.unusedVariables false
set_option linter.unusedSimpArgs false

def digitR (c : Int) : Bool := decide (48 ≤ c ∧ c ≤ 57)
theorem digitB_yes {c : Int} (h : digitR c = true) : 48 ≤ c ∧ c ≤ 57 := by simpa [digitR] using h
theorem digitB_no {c : Int} (h : digitR c = false) : c < 48 ∨ 57 < c := by simp [digitR] at h; omega

set_option maxHeartbeats 400000 in
theorem c_l01DigitR (c : Int) (w : World) : Calls Tryz.prog 64 #[.int .u8 c] w fun e w' => e = .returned (.bool (digitR c)) ∧ w = w' := by
  go_enter Tryz.func64, Tryz.ntmps64
  go_wp2
  all_goals
    go_ret
    refine ⟨ret_bool ?_, rfl⟩
    rw [Bool.eq_iff_iff]
    unfold digitR
    simp
    try omega
theorem dv_no {b : UInt8} (h : digitR (b.toNat : Int) = false) : Lib.digitVal b = none := by
  have := digitB_no h
  unfold Lib.digitVal
  rw [if_neg (by omega)]
theorem dv_yes {b : UInt8} (h : digitR (b.toNat : Int) = true) : Lib.digitVal b = some (b.toNat - 48) := by
  have := digitB_yes h
  unfold Lib.digitVal
  rw [if_pos (by omega)]
theorem sgn_le (s : ByteArray) : sgn s ≤ 1 := by unfold sgn; split <;> omega
theorem sgn_one {s : ByteArray} (h : 0 < s.size) (h45 : (s[0].toNat : Int) = 45) : sgn s = 1 := by
  have e : s[0] = 45 := by
    have : s[0].toNat = 45 := by omega
    exact UInt8.toNat_inj.1 (by rw [this]; rfl)
  unfold sgn
  rw [list_at s h, e, if_pos rfl]
theorem sgn_no {s : ByteArray} (h : 0 < s.size) (h45 : (s[0].toNat : Int) ≠ 45) : sgn s = 0 := by
  unfold sgn
  rw [list_at s h, if_neg]
  intro e
  have e : s[0] = 45 := by simpa using e
  exact h45 (by rw [e]; rfl)
theorem rd_small {l : List UInt8} {k q : Nat} (h : Lib.decFrom 0 (l.take k) = some q) (hk : k ≤ 11) : q < 100000000000 := by
  have h1 := Lib.decFrom_lt _ _ _ h
  have h2 : (l.take k).length ≤ 11 := by rw [List.length_take]; omega
  have h3 : 10 ^ (l.take k).length ≤ 10 ^ 11 := Nat.pow_le_pow_right (by omega) h2
  omega
/-- one digit more -/
theorem rd_step {s : ByteArray} {k q : Nat} (hlt : k < s.size) (hs : sgn s ≤ k) (h : Lib.decFrom 0 ((s.data.toList.drop (sgn s)).take (k - sgn s)) = some q) (hd : digitR (s[k].toNat : Int) = true) :
    Lib.decFrom 0 ((s.data.toList.drop (sgn s)).take (k + 1 - sgn s)) = some (q * 10 + (s[k].toNat - 48)) := by
  rw [show k + 1 - sgn s = (k - sgn s) + 1 by omega]
  exact Lib.decFrom_take _ _ _ _ s[k] _ h (by rw [List.getElem?_drop, show sgn s + (k - sgn s) = k by omega]; exact list_at s hlt) (dv_yes hd)

def GivesRd (s : ByteArray) (w : World) (E : Ending) (w' : World) : Prop := ∃ n b, E = .returned (.tuple #[.int .i64 n, .bool b]) ∧ RnT s n b ∧ New w w'

set_option maxRecDepth 20000 in
set_option maxHeartbeats 4000000 in
theorem c_specReadDecimal (s : ByteArray) (w : World) (hs : s.size ≤ 1048576) : Calls Tryz.prog 40 #[.string s] w (GivesRd s w) := by
  by_cases h1 : s.size < 1 ∨ 11 < s.size
  · have HR := Lib.hid (RnT.size h1)
    rcases h1 with h1 | h1
    · have h2 : decide ((s.size : Int) < 1) = true := by simp; omega
      go_enter Tryz.func40, Tryz.ntmps40
      go_wp2
      all_goals (go_ret2; exact ⟨0, false, rfl, HR.out, New.same _⟩)
    · have h2 : decide ((s.size : Int) < 1) = false := by simp; omega
      have h3 : decide ((11 : Int) < (s.size : Int)) = true := by simp; omega
      go_enter Tryz.func40, Tryz.ntmps40
      go_wp2
      all_goals (go_ret2; exact ⟨0, false, rfl, HR.out, New.same _⟩)
  · have h0 : 0 < s.size := by omega
    have h11 : s.size ≤ 11 := by omega
    have h2 : decide ((s.size : Int) < 1) = false := by simp; omega
    have h3 : decide ((11 : Int) < (s.size : Int)) = false := by simp; omega
    clear h1
    go_enter Tryz.func40, Tryz.ntmps40
    go_wp2
    go_loop [5, 4] (fun i q => ∃ k n : Nat, k ≤ s.size ∧ i = .int .i64 k ∧ q = .int .i64 n ∧ Hid (Lib.decFrom 0 ((s.data.toList.drop (sgn s)).take (k - sgn s)) = some n)) (fun i _ => s.size - (intOf i).toNat)
    case atStart => exact ⟨0, 0, Nat.zero_le _, rfl, rfl, Lib.hid (by simp [Lib.decFrom])⟩
    case round =>
      obtain ⟨k, n, hk, rfl, rfl, HD⟩ := hrel
      have hn := rd_small HD.out (by omega)
      by_cases hlt : k < s.size
      · by_cases hsg : k = 0 ∧ (s[0].toNat : Int) = 45
        · obtain ⟨rfl, h45⟩ := hsg
          have HS := Lib.hid (sgn_one h0 h45)
          have hc : decide ((s[0].toNat : Int) = 45) = true := by simpa using h45
          have hcb : ((s[0].toNat : Int) == 45) = true := by simpa using h45
          have HN := Lib.hid (show Lib.decFrom 0 ((s.data.toList.drop (sgn s)).take (0 + 1 - sgn s)) = some n by rw [HS.out]; simpa [HS.out] using HD.out)
          go_wp2
          go_round
          case rel => exact ⟨0 + 1, n, by omega, by go_num, rfl, HN⟩
          case measure => simp [intOf]; omega
        · have hs1 : sgn s ≤ k := by
            by_cases hk0 : k = 0
            · have := sgn_no h0 (fun h => hsg ⟨hk0, h⟩); omega
            · have := sgn_le s; omega
          cases hd : digitR (s[k].toNat : Int)
          · have HB := Lib.hid (RnT.bad hs1 (list_at s hlt) (dv_no hd))
            by_cases hk0 : k = 0
            · subst hk0
              have hc : decide ((s[0].toNat : Int) = 45) = false := by simpa using hsg
              have hcb : ((s[0].toNat : Int) == 45) = false := by simpa using hsg
              clear hsg
              go_wp2_with (go_at_call 64; refine (c_l01DigitR _ _).mono ?_; rintro e w' ⟨rfl, rfl⟩)
              go_ret2
              exact ⟨0, false, rfl, HB.out, New.same _⟩
            · have hc : decide ((k : Int) = 0) = false := by simp; omega
              clear hsg
              go_wp2_with (go_at_call 64; refine (c_l01DigitR _ _).mono ?_; rintro e w' ⟨rfl, rfl⟩)
              go_ret2
              exact ⟨0, false, rfl, HB.out, New.same _⟩
          · have hd2 := digitB_yes hd
            have HN := Lib.hid (rd_step hlt hs1 HD.out hd)
            by_cases hk0 : k = 0
            · subst hk0
              have hc : decide ((s[0].toNat : Int) = 45) = false := by simpa using hsg
              have hcb : ((s[0].toNat : Int) == 45) = false := by simpa using hsg
              clear hsg
              go_wp2_with (go_at_call 64; refine (c_l01DigitR _ _).mono ?_; rintro e w' ⟨rfl, rfl⟩)
              go_round
              case rel => exact ⟨0 + 1, n * 10 + (s[0].toNat - 48), by omega, by go_num, by go_num, HN⟩
              case measure => simp [intOf]; omega
            · have hc : decide ((k : Int) = 0) = false := by simp; omega
              clear hsg
              go_wp2_with (go_at_call 64; refine (c_l01DigitR _ _).mono ?_; rintro e w' ⟨rfl, rfl⟩)
              go_round
              case rel => exact ⟨k + 1, n * 10 + (s[k].toNat - 48), by omega, by go_num, by go_num, HN⟩
              case measure => simp [intOf]; omega
      · have hk' : k = s.size := by omega
        subst hk'
        have hQ : Lib.decFrom 0 (s.data.toList.drop (sgn s)) = some n := by
          have h := HD.out
          rwa [List.take_of_length_le (by rw [List.length_drop]; exact Nat.le_of_eq (congrArg (· - sgn s) Array.length_toList))] at h
        by_cases h45 : (s[0].toNat : Int) = 45
        · have HS := Lib.hid (sgn_one h0 h45)
          have HT := RnT.done hQ (-(n : Int)) (by rw [HS.out]; simp)
          have hc : decide ((s[0].toNat : Int) = 45) = true := by simpa using h45
          have hcb : ((s[0].toNat : Int) == 45) = true := by simpa using h45
          have HY := Lib.hid HT.1
          have HX := Lib.hid HT.2
          clear HT hQ
          cases hl : inB (-(n : Int)) (-1000000000) 1000000000
          · have HR := Lib.hid (HX.out (.inl hl))
            go_wp2_with (go_at_call 36; refine (c_l00In _ _ _ _).mono ?_; rintro e w' ⟨rfl, rfl⟩)
            go_ret2
            exact ⟨0, false, rfl, HR.out, New.same _⟩
          · by_cases hq : decT (-(n : Int)) = s
            · have HR := Lib.hid (HY.out hl hq)
              have eX := sEq_yes hq
              clear hq
              go_wp2_with (first | (go_at_call 36; refine (c_l00In _ _ _ _).mono ?_; rintro e w' ⟨rfl, rfl⟩) | (go_at_call 65; refine (c_specDecimal (-(n : Int)) _ (by omega) (by omega)).mono ?_; rintro e w2 ⟨rfl, n2⟩))
              go_ret2
              exact ⟨_, true, rfl, HR.out, n2⟩
            · have HR := Lib.hid (HX.out (.inr hq))
              have eX := sEq_no hq
              clear hq
              go_wp2_with (first | (go_at_call 36; refine (c_l00In _ _ _ _).mono ?_; rintro e w' ⟨rfl, rfl⟩) | (go_at_call 65; refine (c_specDecimal (-(n : Int)) _ (by omega) (by omega)).mono ?_; rintro e w2 ⟨rfl, n2⟩))
              go_ret2
              exact ⟨0, false, rfl, HR.out, n2⟩
        · have HS := Lib.hid (sgn_no h0 h45)
          have HT := RnT.done hQ ((n : Int)) (by rw [HS.out]; simp)
          have hc : decide ((s[0].toNat : Int) = 45) = false := by simpa using h45
          have hcb : ((s[0].toNat : Int) == 45) = false := by simpa using h45
          have HY := Lib.hid HT.1
          have HX := Lib.hid HT.2
          clear HT hQ
          cases hl : inB ((n : Int)) (-1000000000) 1000000000
          · have HR := Lib.hid (HX.out (.inl hl))
            go_wp2_with (go_at_call 36; refine (c_l00In _ _ _ _).mono ?_; rintro e w' ⟨rfl, rfl⟩)
            go_ret2
            exact ⟨0, false, rfl, HR.out, New.same _⟩
          · by_cases hq : decT ((n : Int)) = s
            · have HR := Lib.hid (HY.out hl hq)
              have eX := sEq_yes hq
              clear hq
              go_wp2_with (first | (go_at_call 36; refine (c_l00In _ _ _ _).mono ?_; rintro e w' ⟨rfl, rfl⟩) | (go_at_call 65; refine (c_specDecimal ((n : Int)) _ (by omega) (by omega)).mono ?_; rintro e w2 ⟨rfl, n2⟩))
              go_ret2
              exact ⟨_, true, rfl, HR.out, n2⟩
            · have HR := Lib.hid (HX.out (.inr hq))
              have eX := sEq_no hq
              clear hq
              go_wp2_with (first | (go_at_call 36; refine (c_l00In _ _ _ _).mono ?_; rintro e w' ⟨rfl, rfl⟩) | (go_at_call 65; refine (c_specDecimal ((n : Int)) _ (by omega) (by omega)).mono ?_; rintro e w2 ⟨rfl, n2⟩))
              go_ret2
              exact ⟨0, false, rfl, HR.out, n2⟩
end Go.Proofs.YtcbifdfcllaaaaaGreatDoor

/- Contracts of the functions that read a number's text: the program's. -/
namespace Go.Proofs.YtcbifdfcllaaaaaGreatDoor
open Go.RowKit Go.Deep
set_option linter.unusedVariables false
set_option linter.unusedSimpArgs false

/-- the two errors that the library hands out stand in their variables -/
def ErrW (w : World) : Prop := (∃ tp p, w.var? Tryz.prog "strconv.ErrSyntax" = some #[.iface tp p]) ∧ ∃ tp p, w.var? Tryz.prog "strconv.ErrRange" = some #[.iface tp p]
theorem var_new {w w2 : World} {nm : String} {v : Array Value} (h : w.var? Tryz.prog nm = some v) (n : New w w2) : w2.var? Tryz.prog nm = some v := by
  unfold World.var? at *
  cases hg : Tryz.prog.globalNamed nm with
  | none => simp [hg] at h
  | some g =>
    simp only [hg, Option.bind_some] at h ⊢
    have hlt : g < w.heap.size := by
      rcases Nat.lt_or_ge g w.heap.size with h' | h'
      · exact h'
      · rw [Array.getElem?_eq_none h'] at h; simp at h
    rw [n.block g hlt]
    exact h
theorem err_new {w w2 : World} (h : ErrW w) (n : New w w2) : ErrW w2 := by
  obtain ⟨⟨a, b, c⟩, d, e, f⟩ := h
  exact ⟨⟨a, b, var_new c n⟩, d, e, var_new f n⟩
theorem new_bytes (w : World) (e : TypeId) (s : ByteArray) : New w (Lib.bytesWorld w e s) := ⟨rfl, rfl, rfl, by rw [Lib.bytesWorld_size]; omega, fun j hj => Lib.bytesWorld_at_old w e s j hj⟩

/-- what ParseInt hands back, as far as its caller looks -/
theorem c_ParseInt_ok (s : ByteArray) (v : Int) (w : World) (hs : s.size ≤ 1048576) (h : Lib.parseIntB 64 s.data.toList = .ok v) :
    Calls Tryz.prog 76 #[.string s, .int .i64 10, .int .i64 64] w fun e w' => e = .returned (.tuple #[.int .i64 v, .nilIface]) ∧ New w w' := by
  refine Calls.mono (R := fun e w' => e = .returned (.tuple #[.int .i64 v, .nilIface]) ∧ (w' = w ∨ ∃ t, w' = Lib.bytesWorld w (Tryz.lays174_ren.t 5) t)) (Any.strconv_ParseInt_10_at64_ok Tryz.lays174 s (by omega) v h w) ?_
  rintro e w' ⟨rfl, rfl | ⟨t, rfl⟩⟩
  · exact ⟨rfl, New.same _⟩
  · exact ⟨rfl, new_bytes _ _ _⟩
theorem c_ParseInt_err (s : ByteArray) (w : World) (hs : s.size ≤ 1048576) (hE : ErrW w) (h : ∀ v, Lib.parseIntB 64 s.data.toList ≠ .ok v) :
    Calls Tryz.prog 76 #[.string s, .int .i64 10, .int .i64 64] w fun e w' => (∃ v N, e = .returned (.tuple #[.int .i64 v, .iface (Tryz.lays174_ren.t 168) (.pointer (some ⟨N, 0, none⟩))])) ∧ New w w' := by
  obtain ⟨⟨tp, p, h1⟩, tp', p', h2⟩ := hE
  cases hp : Lib.parseIntB 64 s.data.toList
  case ok v => exact absurd hp (h v)
  case range =>
    refine Calls.mono (P := Tryz.prog) (f := 76) (Any.strconv_ParseInt_10_at64_range_var Tryz.lays174 s (by omega) hp tp' p' w h2) ?_
    rintro e w' ⟨N, rfl, _, _, hb⟩
    exact ⟨⟨_, N, rfl⟩, hb⟩
  · refine Calls.mono (P := Tryz.prog) (f := 76) (Any.strconv_ParseInt_10_at64_syntax_var Tryz.lays174 s (by omega) hp tp p w h1) ?_
    rintro e w' ⟨N, rfl, _, _, hb⟩
    exact ⟨⟨_, N, rfl⟩, hb⟩

set_option maxRecDepth 20000 in
set_option maxHeartbeats 4000000 in
theorem c_implReadDecimal (s : ByteArray) (w : World) (hs : s.size ≤ 1048576) (hT : TabW w) (hE : ErrW w) : Calls Tryz.prog 50 #[.string s] w (GivesRd s w) := by
  by_cases hp : ∃ v, Lib.parseIntB 64 s.data.toList = .ok v
  · obtain ⟨v, hp⟩ := hp
    have HP := Lib.hid hp
    have HC := Lib.hid (c_ParseInt_ok s v w hs hp)
    have HNo : Hid ((limB v = false ∨ decT v ≠ s) → RnT s 0 false) := Lib.hid (fun hc => .inr ⟨rfl, rfl, fun m hm e => by
      have h1 := par_of hm e
      rw [hp] at h1
      obtain rfl : v = m := by cases h1; rfl
      rcases hc with hc | hc
      · rw [hm] at hc; cases hc
      · exact hc e⟩)
    clear hp
    cases hl : inB v (-1000000000) 1000000000
    · have HR := Lib.hid (HNo.out (.inl hl))
      go_enter Tryz.func50, Tryz.ntmps50
      go_wp2_with (first | (go_at_call 76; refine HC.out.mono ?_; rintro e w1 ⟨rfl, n1⟩) | (go_at_call 67; refine (c_within _ _ _ _).mono ?_; rintro e w' ⟨rfl, rfl⟩))
      go_ret2
      exact ⟨0, false, rfl, HR.out, n1⟩
    · have hb := inB_iff.1 hl
      by_cases hq : decT v = s
      · have HR : Hid (RnT s v true) := Lib.hid (.inl ⟨rfl, hl, hq⟩)
        have eX := sEq_yes hq
        clear hq
        go_enter Tryz.func50, Tryz.ntmps50
        go_wp2_with (first | (go_at_call 76; refine HC.out.mono ?_; rintro e w1 ⟨rfl, n1⟩) | (go_at_call 67; refine (c_within _ _ _ _).mono ?_; rintro e w' ⟨rfl, rfl⟩) | (go_at_call 77; refine (c_implDecimal v _ (by omega) (by omega) (tab_new hT (by assumption))).mono ?_; rintro e w2 ⟨rfl, n2⟩))
        go_ret2
        exact ⟨_, true, rfl, HR.out, n1.step n2⟩
      · have HR := Lib.hid (HNo.out (.inr hq))
        have eX := sEq_no hq
        clear hq
        go_enter Tryz.func50, Tryz.ntmps50
        go_wp2_with (first | (go_at_call 76; refine HC.out.mono ?_; rintro e w1 ⟨rfl, n1⟩) | (go_at_call 67; refine (c_within _ _ _ _).mono ?_; rintro e w' ⟨rfl, rfl⟩) | (go_at_call 77; refine (c_implDecimal v _ (by omega) (by omega) (tab_new hT (by assumption))).mono ?_; rintro e w2 ⟨rfl, n2⟩))
        go_ret2
        exact ⟨0, false, rfl, HR.out, n1.step n2⟩
  · have hno : ∀ v, Lib.parseIntB 64 s.data.toList ≠ .ok v := fun v h => hp ⟨v, h⟩
    have HC := Lib.hid (c_ParseInt_err s w hs hE hno)
    have HR : Hid (RnT s 0 false) := Lib.hid (.inr ⟨rfl, rfl, fun m hm e => hno m (par_of hm e)⟩)
    clear hp hno
    go_enter Tryz.func50, Tryz.ntmps50
    go_wp2_with (go_at_call 76; refine HC.out.mono ?_; rintro e w1 ⟨⟨v, N, rfl⟩, n1⟩)
    go_ret2
    exact ⟨0, false, rfl, HR.out, n1⟩
end Go.Proofs.YtcbifdfcllaaaaaGreatDoor
