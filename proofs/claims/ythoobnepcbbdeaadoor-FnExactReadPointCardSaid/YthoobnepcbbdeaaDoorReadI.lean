/- Contracts of the functions that read a number's text: the program's. -/
import Derived.Test.YthoobnepcbbdeaaDoorRead
import Derived.Test.YthoobnepcbbdeaaDoorLayPI
import Derived.Lib.IfaceNeq
namespace Go.Proofs.YthoobnepcbbdeaaDoor
open Go.RowKit Go.Deep
set_option linter.unusedVariables false
set_option linter.unusedSimpArgs false

/-- the two errors that the library hands out stand in their variables -/
def ErrW (w : World) : Prop := (∃ tp p, w.var? Tryd.prog "strconv.ErrSyntax" = some #[.iface tp p]) ∧ ∃ tp p, w.var? Tryd.prog "strconv.ErrRange" = some #[.iface tp p]
theorem var_new {w w2 : World} {nm : String} {v : Array Value} (h : w.var? Tryd.prog nm = some v) (n : New w w2) : w2.var? Tryd.prog nm = some v := by
  unfold World.var? at *
  cases hg : Tryd.prog.globalNamed nm with
  | none => simp [hg] at h
  | some g =>
    simp only [hg, Option.bind_some] at h ⊢
    have hlt : g < w.heap.size := by
      rcases Nat.lt_or_ge g w.heap.size with h' | h'
      · exact h'
      · rw [Array.getElem?_eq_none h'] at h; simp at h
    rw [n.block g hlt]
    exact h
theorem err_new {w w2 : World} (h : ErrW w) (n : New w w2) : ErrW w2 := by
  obtain ⟨⟨a, b, c⟩, d, e, f⟩ := h
  exact ⟨⟨a, b, var_new c n⟩, d, e, var_new f n⟩
theorem new_bytes (w : World) (e : TypeId) (s : ByteArray) : New w (Lib.bytesWorld w e s) := ⟨rfl, rfl, rfl, by rw [Lib.bytesWorld_size]; omega, fun j hj => Lib.bytesWorld_at_old w e s j hj⟩

/-- what ParseInt hands back, as far as its caller looks -/
theorem c_ParseInt_ok (s : ByteArray) (v : Int) (w : World) (hs : s.size ≤ 1048576) (h : Lib.parseIntB 64 s.data.toList = .ok v) :
    Calls Tryd.prog 28 #[.string s, .int .i64 10, .int .i64 64] w fun e w' => e = .returned (.tuple #[.int .i64 v, .nilIface]) ∧ New w w' := by
  refine Calls.mono (R := fun e w' => e = .returned (.tuple #[.int .i64 v, .nilIface]) ∧ (w' = w ∨ ∃ t, w' = Lib.bytesWorld w (Tryd.lays174_ren.t 5) t)) (Any.strconv_ParseInt_10_at64_ok Tryd.lays174 s (by omega) v h w) ?_
  rintro e w' ⟨rfl, rfl | ⟨t, rfl⟩⟩
  · exact ⟨rfl, New.same _⟩
  · exact ⟨rfl, new_bytes _ _ _⟩
theorem c_ParseInt_err (s : ByteArray) (w : World) (hs : s.size ≤ 1048576) (hE : ErrW w) (h : ∀ v, Lib.parseIntB 64 s.data.toList ≠ .ok v) :
    Calls Tryd.prog 28 #[.string s, .int .i64 10, .int .i64 64] w fun e w' => (∃ v N, e = .returned (.tuple #[.int .i64 v, .iface (Tryd.lays174_ren.t 168) (.pointer (some ⟨N, 0, none⟩))])) ∧ New w w' := by
  obtain ⟨⟨tp, p, h1⟩, tp', p', h2⟩ := hE
  cases hp : Lib.parseIntB 64 s.data.toList
  case ok v => exact absurd hp (h v)
  case range =>
    refine Calls.mono (P := Tryd.prog) (f := 28) (Any.strconv_ParseInt_10_at64_range_var Tryd.lays174 s (by omega) hp tp' p' w h2) ?_
    rintro e w' ⟨N, rfl, _, _, hb⟩
    exact ⟨⟨_, N, rfl⟩, hb⟩
  · refine Calls.mono (P := Tryd.prog) (f := 28) (Any.strconv_ParseInt_10_at64_syntax_var Tryd.lays174 s (by omega) hp tp p w h1) ?_
    rintro e w' ⟨N, rfl, _, _, hb⟩
    exact ⟨⟨_, N, rfl⟩, hb⟩

set_option maxRecDepth 20000 in
set_option maxHeartbeats 4000000 in
theorem c_implReadDecimal (s : ByteArray) (w : World) (hs : s.size ≤ 1048576) (hT : TabW w) (hE : ErrW w) : Calls Tryd.prog 17 #[.string s] w (GivesRd s w) := by
  by_cases hp : ∃ v, Lib.parseIntB 64 s.data.toList = .ok v
  · obtain ⟨v, hp⟩ := hp
    have HP := Lib.hid hp
    have HC := Lib.hid (c_ParseInt_ok s v w hs hp)
    have HNo : Hid ((limB v = false ∨ decT v ≠ s) → RdS s 0 false) := Lib.hid (fun hc => .inr ⟨rfl, rfl, fun m hm e => by
      have h1 := par_of hm e
      rw [hp] at h1
      obtain rfl : v = m := by cases h1; rfl
      rcases hc with hc | hc
      · rw [hm] at hc; cases hc
      · exact hc e⟩)
    clear hp
    cases hl : inB v (-1000000000) 1000000000
    · have HR := Lib.hid (HNo.out (.inl hl))
      go_enter Tryd.func17, Tryd.ntmps17
      go_wp2_with (first | (go_at_call 28; refine HC.out.mono ?_; rintro e w1 ⟨rfl, n1⟩) | (go_at_call 29; refine (c_within _ _ _ _).mono ?_; rintro e w' ⟨rfl, rfl⟩))
      go_ret2
      exact ⟨0, false, rfl, HR.out, n1⟩
    · have hb := inB_iff.1 hl
      by_cases hq : decT v = s
      · have HR : Hid (RdS s v true) := Lib.hid (.inl ⟨rfl, hl, hq⟩)
        have eX := sEq_yes hq
        clear hq
        go_enter Tryd.func17, Tryd.ntmps17
        go_wp2_with (first | (go_at_call 28; refine HC.out.mono ?_; rintro e w1 ⟨rfl, n1⟩) | (go_at_call 29; refine (c_within _ _ _ _).mono ?_; rintro e w' ⟨rfl, rfl⟩) | (go_at_call 9; refine (c_implDecimal v _ (by omega) (by omega) (tab_new hT (by assumption))).mono ?_; rintro e w2 ⟨rfl, n2⟩))
        go_ret2
        exact ⟨_, true, rfl, HR.out, n1.step n2⟩
      · have HR := Lib.hid (HNo.out (.inr hq))
        have eX := sEq_no hq
        clear hq
        go_enter Tryd.func17, Tryd.ntmps17
        go_wp2_with (first | (go_at_call 28; refine HC.out.mono ?_; rintro e w1 ⟨rfl, n1⟩) | (go_at_call 29; refine (c_within _ _ _ _).mono ?_; rintro e w' ⟨rfl, rfl⟩) | (go_at_call 9; refine (c_implDecimal v _ (by omega) (by omega) (tab_new hT (by assumption))).mono ?_; rintro e w2 ⟨rfl, n2⟩))
        go_ret2
        exact ⟨0, false, rfl, HR.out, n1.step n2⟩
  · have hno : ∀ v, Lib.parseIntB 64 s.data.toList ≠ .ok v := fun v h => hp ⟨v, h⟩
    have HC := Lib.hid (c_ParseInt_err s w hs hE hno)
    have HR : Hid (RdS s 0 false) := Lib.hid (.inr ⟨rfl, rfl, fun m hm e => hno m (par_of hm e)⟩)
    clear hp hno
    go_enter Tryd.func17, Tryd.ntmps17
    go_wp2_with (go_at_call 28; refine HC.out.mono ?_; rintro e w1 ⟨⟨v, N, rfl⟩, n1⟩)
    go_ret2
    exact ⟨0, false, rfl, HR.out, n1⟩
end Go.Proofs.YthoobnepcbbdeaaDoor
