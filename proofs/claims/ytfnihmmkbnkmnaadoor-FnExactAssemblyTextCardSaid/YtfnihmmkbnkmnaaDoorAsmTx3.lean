/- Contracts of the two functions that write an assembly, or nothing. -/
import Derived.Test.YtfnihmmkbnkmnaaDoorAsmTx2
namespace Go.Proofs.YtfnihmmkbnkmnaaDoor
open Go.RowKit Go.Deep
set_option linter.unusedVariables false
set_option linter.unusedSimpArgs false

theorem asm_pb {n : Nat} {zs : List ((Int × Int) × Int)} (h : asmOk n zs = true) : ∀ z ∈ zs, pB z := by
  intro z hz
  simp only [asmOk, Bool.and_eq_true, frmB, frmC] at h
  obtain ⟨k, hk, rfl⟩ := List.getElem_of_mem hz
  have := List.all_eq_true.1 h.1.2 k (List.mem_range.2 hk)
  simp only [plAt, Bool.and_eq_true] at this
  have hv := this.1
  simp only [List.getD_eq_getElem?_getD, hk, List.getElem?_eq_getElem, Option.getD_some, vpB, Bool.and_eq_true] at hv
  obtain ⟨a, b⟩ := hv
  have := inB_iff.1 a
  have := inB_iff.1 b
  unfold pB
  omega
set_option maxHeartbeats 1000000 in
theorem c_specAssemblyText (lo hi lo' hi' : Nat) (gv tv v : Value) (G : List (ByteArray × Int)) (T : List (ByteArray × List Int)) (sv : List Value) (zs : List ((Int × Int) × Int)) (w : World) (h : RdS w lo hi gv tv G T sv) (hg : ∀ g ∈ G, g.1.size ≤ maxLen) (ht : ∀ t ∈ T, t.1.size ≤ maxLen) (hz : Rd w lo' hi' 3 v zs.length (zs.flatMap plCells)) :
    Calls Tryd.prog 17 #[.agg #[gv, tv], .agg #[v]] w fun e w' => e = .returned (.string (asmT G T zs)) ∧ New w w' := by
  obtain ⟨A, c, B, d, rfl, rfl⟩ := h.form
  have HR := Lib.hid hz
  obtain ⟨_, hm, _, A', c', rfl, _⟩ := hz
  have HH := Lib.hid h
  clear h
  have n0 : New w ((w.alloc (.cells #[.slice A G.length c, .slice B T.length d] 37)).alloc (.cells #[.slice A' zs.length c'] 48)) := ((New.same w).box _).box _
  have B0 : BoxV ((w.alloc (.cells #[.slice A G.length c, .slice B T.length d] 37)).alloc (.cells #[.slice A' zs.length c'] 48)) w.heap.size [.slice A G.length c, .slice B T.length d] := .two (by go_simp) (by go_simp) (by go_simp) (by go_simp) (by simp <;> omega)
  have B1 : BoxV ((w.alloc (.cells #[.slice A G.length c, .slice B T.length d] 37)).alloc (.cells #[.slice A' zs.length c'] 48)) (w.heap.size + 1) [.slice A' zs.length c'] := .one (by go_simp) (by go_simp) (by simp <;> omega)
  have HC := Lib.hid (c_l02Ok _ _ _ _ _ G T sv _ B0 (HH.out.new n0) hg ht)
  cases hs : setB G T
  · have E := Lib.hid (show asmT G T zs = ⟨#[]⟩ by simp [asmT, vaB, hs])
    rw [hs] at HC
    clear hs
    go_enter Tryd.func17, Tryd.ntmps17
    go_wp2_with (go_at_call 31; refine HC.out.mono ?_; rintro e w1 ⟨rfl, n1⟩)
    go_ret
    rw [E.out]
    exact ⟨rfl, n0.step n1⟩
  · rw [hs] at HC
    obtain ⟨i1, i2, i3, _⟩ := set_in hs
    cases ha : asmOk T.length zs
    · have E := Lib.hid (show asmT G T zs = ⟨#[]⟩ by simp [asmT, vaB, hs, ha])
      have HA := Lib.hid ha
      clear hs ha
      go_enter Tryd.func17, Tryd.ntmps17
      go_wp2_with (first | (go_at_call 31; refine HC.out.mono ?_; rintro e w1 ⟨rfl, n1⟩) | (go_at_call 40; refine (c_l03Ok _ _ _ _ _ _ _ _ T.length zs _ (B0.new n1) (by omega) (B1.new n1) ((HR.out.new n0).new n1)).mono ?_; rintro e w2 ⟨rfl, n2⟩; rw [HA.out]))
      go_ret
      rw [E.out]
      exact ⟨rfl, (n0.step n1).step n2⟩
    · have E := Lib.hid (show asmT G T zs = ⟨(aL T zs zs.length).toArray⟩ by simp [asmT, vaB, hs, ha])
      have HA := Lib.hid ha
      have HS := Lib.hid hs
      clear hs ha
      go_enter Tryd.func17, Tryd.ntmps17
      go_wp2_with (first | (go_at_call 31; refine HC.out.mono ?_; rintro e w1 ⟨rfl, n1⟩) | (go_at_call 40; refine (c_l03Ok _ _ _ _ _ _ _ _ T.length zs _ (B0.new n1) (by omega) (B1.new n1) ((HR.out.new n0).new n1)).mono ?_; rintro e w2 ⟨rfl, n2⟩; rw [HA.out]) | (go_at_call 41; refine (c_l05Assembly _ _ _ _ _ _ _ _ _ G T sv zs _ ((B0.new n1).new n2) ((B1.new n1).new n2) (((HH.out.new n0).new n1).new n2) (((HR.out.new n0).new n1).new n2) HS.out HA.out (asm_pb HA.out)).mono ?_; rintro e w3 ⟨rfl, n3⟩))
      go_ret
      rw [E.out]
      exact ⟨rfl, ((n0.step n1).step n2).step n3⟩
set_option maxHeartbeats 1000000 in
theorem c_implAssemblyText (lo hi lo' hi' : Nat) (gv tv v : Value) (G : List (ByteArray × Int)) (T : List (ByteArray × List Int)) (sv : List Value) (zs : List ((Int × Int) × Int)) (w : World) (h : RdS w lo hi gv tv G T sv) (hg : ∀ g ∈ G, g.1.size ≤ maxLen) (ht : ∀ t ∈ T, t.1.size ≤ maxLen) (hz : Rd w lo' hi' 3 v zs.length (zs.flatMap plCells)) (hTw : TabW w) :
    Calls Tryd.prog 19 #[.agg #[gv, tv], .agg #[v]] w fun e w' => e = .returned (.string (asmT G T zs)) ∧ New w w' := by
  obtain ⟨A, c, B, d, rfl, rfl⟩ := h.form
  have HR := Lib.hid hz
  obtain ⟨_, hm, _, A', c', rfl, _⟩ := hz
  have HH := Lib.hid h
  have HTW := Lib.hid hTw
  clear h hTw
  have n0 : New w ((w.alloc (.cells #[.slice A G.length c, .slice B T.length d] 37)).alloc (.cells #[.slice A' zs.length c'] 48)) := ((New.same w).box _).box _
  have B0 : BoxV ((w.alloc (.cells #[.slice A G.length c, .slice B T.length d] 37)).alloc (.cells #[.slice A' zs.length c'] 48)) w.heap.size [.slice A G.length c, .slice B T.length d] := .two (by go_simp) (by go_simp) (by go_simp) (by go_simp) (by simp <;> omega)
  have B1 : BoxV ((w.alloc (.cells #[.slice A G.length c, .slice B T.length d] 37)).alloc (.cells #[.slice A' zs.length c'] 48)) (w.heap.size + 1) [.slice A' zs.length c'] := .one (by go_simp) (by go_simp) (by simp <;> omega)
  cases hv : vaB G T zs
  · have E := Lib.hid (show asmT G T zs = ⟨#[]⟩ by simp [asmT, hv])
    have HV := Lib.hid hv
    clear hv
    go_enter Tryd.func19, Tryd.ntmps19
    go_wp2_with fail
    generalize ((w.alloc (.cells #[.slice A G.length c, .slice B T.length d] 37)).alloc (.cells #[.slice A' zs.length c'] 48)) = W0 at *
    refine (c_implValidAssembly _ _ _ _ _ _ _ G T sv zs _ (HH.out.new n0) hg ht (HR.out.new n0)).mono ?_
    rintro e w1 ⟨rfl, n1⟩
    rw [HV.out]
    go_wp2
    go_ret
    rw [E.out]
    exact ⟨rfl, n0.step n1⟩
  · have E := Lib.hid (show asmT G T zs = ⟨(aL T zs zs.length).toArray⟩ by simp [asmT, hv])
    have HV := Lib.hid hv
    have HS : Hid (setB G T = true ∧ asmOk T.length zs = true) := Lib.hid (by simpa [vaB] using hv)
    clear hv
    go_enter Tryd.func19, Tryd.ntmps19
    go_wp2_with fail
    generalize ((w.alloc (.cells #[.slice A G.length c, .slice B T.length d] 37)).alloc (.cells #[.slice A' zs.length c'] 48)) = W0 at *
    refine (c_implValidAssembly _ _ _ _ _ _ _ G T sv zs _ (HH.out.new n0) hg ht (HR.out.new n0)).mono ?_
    rintro e w1 ⟨rfl, n1⟩
    rw [HV.out]
    have ⟨⟨bx0, by0⟩, _, bl0⟩ := (B0.new n1).at2
    have ⟨cx0, _, cl0⟩ := (B1.new n1).at1
    go_wp2_with fail
    refine (c_assemblyText _ _ _ _ _ _ _ G T sv zs _ ((HH.out.new n0).new n1) ((HR.out.new n0).new n1) HS.out.1 HS.out.2 (asm_pb HS.out.2) (tab_new HTW.out (n0.step n1))).mono ?_
    rintro e w2 ⟨rfl, n2⟩
    go_wp2
    go_ret
    rw [E.out]
    exact ⟨rfl, (n0.step n1).step n2⟩
end Go.Proofs.YtfnihmmkbnkmnaaDoor
