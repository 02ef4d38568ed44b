/- What a clock keeps. -/
import Derived.Test.YtdbfnonpndlejaaDoorL1
namespace Go.Proofs.YtdbfnonpndlejaaDoor
open Go.RowKit

theorem ClkOk.mono {N M : Nat} {c : ClkD} (h : ClkOk N c) (hNM : N ≤ M) : ClkOk M c :=
  ⟨h.t, ⟨h.l0.1, by have := h.l0.2; omega⟩, ⟨h.l1.1, by have := h.l1.2; omega⟩, h.o0, h.o1, h.team, h.now, h.til⟩
theorem pass_ok {N : Nat} {c : ClkD} {t : Int} (h : ClkOk N c) (ht : c.now ≤ t ∧ t ≤ 1073741824) : ClkOk N (c.pass t) :=
  ⟨h.t, at_bd h 0 t, at_bd h 1 t, h.o0, h.o1, h.team, ⟨by have := h.now.1; show 0 ≤ t; omega, ht.2⟩, h.til⟩
theorem start_ok {N : Nat} {c : ClkD} (k t : Int) (h : ClkOk N c) : ClkOk (N + 1) (c.start k t).1 := by
  by_cases hz : c.wrong k t = 0
  · obtain ⟨hk, ht⟩ := wrong_zero hz
    by_cases hm : c.team = -1
    · by_cases hl : c.left k = 0
      · rw [ClkD.start_n hz hm hl]; exact h.mono (by omega)
      · rw [ClkD.start_y hz hm hl]
        have p := (pass_ok h ht).mono (show N ≤ N + 1 by omega)
        exact ⟨p.t, p.l0, p.l1, p.o0, p.o1, by show k = -1 ∨ k = 0 ∨ k = 1; omega, p.now, p.til⟩
    · rw [ClkD.start_s hz hm]; exact h.mono (by omega)
  · rw [ClkD.start_w rfl hz]; exact h.mono (by omega)
theorem stop_ok {N : Nat} {c : ClkD} (t : Int) (h : ClkOk N c) : ClkOk (N + 1) (c.stop t).1 := by
  by_cases hz : c.wrong 0 t = 0
  · obtain ⟨hk, ht⟩ := wrong_zero hz
    by_cases hm : c.team = -1
    · rw [ClkD.stop_s hz hm]; exact h.mono (by omega)
    · rw [ClkD.stop_y hz hm]
      have p := (pass_ok h ht).mono (show N ≤ N + 1 by omega)
      exact ⟨p.t, p.l0, p.l1, p.o0, p.o1, .inl rfl, p.now, p.til⟩
  · rw [ClkD.stop_w rfl hz]; exact h.mono (by omega)
theorem extra_ok {N : Nat} {c : ClkD} (t : Int) (h : ClkOk N c) : ClkOk (N + 1) (c.extra t).1 := by
  by_cases hz : c.wrong 0 t = 0
  · obtain ⟨hk, ht⟩ := wrong_zero hz
    by_cases hm : c.team = -1
    · rw [ClkD.extra_y hz hm]
      have p := pass_ok h ht
      have e := h.ex
      exact ⟨p.t, ⟨by have := p.l0.1; show 0 ≤ (c.pass t).l0 + c.t.extra; omega, by have := p.l0.2; show (c.pass t).l0 + c.t.extra ≤ _; omega⟩, ⟨by have := p.l1.1; show 0 ≤ (c.pass t).l1 + c.t.extra; omega, by have := p.l1.2; show (c.pass t).l1 + c.t.extra ≤ _; omega⟩, p.o0, p.o1, p.team, p.now, p.til⟩
    · rw [ClkD.extra_s hz hm]; exact h.mono (by omega)
  · rw [ClkD.extra_w rfl hz]; exact h.mono (by omega)
theorem out_ok {N : Nat} {c : ClkD} (k t : Int) (h : ClkOk N c) : ClkOk (N + 1) (c.out k t).1 := by
  by_cases hz : c.wrong k t = 0
  · obtain ⟨hk, ht⟩ := wrong_zero hz
    have p := (pass_ok h ht).mono (show N ≤ N + 1 by omega)
    have e := h.len
    have hn := h.now
    have o0 := h.o0
    have o1 := h.o1
    by_cases hm : c.team = k ∧ c.til ≤ t
    · by_cases hl : c.outs k = 0
      · rw [ClkD.out_n hz hm hl]; exact h.mono (by omega)
      · rcases hk with rfl | rfl
        · have hl' : c.o0 ≠ 0 := hl
          rw [ClkD.out_y0 hz hm hl']
          exact ⟨p.t, p.l0, p.l1, ⟨by show 0 ≤ c.o0 - 1; omega, by show c.o0 - 1 ≤ 10; omega⟩, p.o1, p.team, p.now, ⟨by show 0 ≤ t + c.t.len; omega, by show t + c.t.len ≤ 1073841824; omega⟩⟩
        · have hl' : c.o1 ≠ 0 := hl
          rw [ClkD.out_y1 hz hm hl']
          exact ⟨p.t, p.l0, p.l1, p.o0, ⟨by show 0 ≤ c.o1 - 1; omega, by show c.o1 - 1 ≤ 10; omega⟩, p.team, p.now, ⟨by show 0 ≤ t + c.t.len; omega, by show t + c.t.len ≤ 1073841824; omega⟩⟩
    · rw [ClkD.out_s hz hm]; exact h.mono (by omega)
  · rw [ClkD.out_w rfl hz]; exact h.mono (by omega)
theorem new_ok {t : TimesD} (h : t.ok = true) : ClkOk 0 ⟨t, t.total, t.total, t.outs, t.outs, -1, 0, 0⟩ := by
  have q := h
  simp [TimesD.ok, inB] at q
  refine ⟨h, ?_, ?_, ?_, ?_, .inl rfl, ?_, ?_⟩ <;> simp <;> omega
theorem RObj.only {w w' : World} {B B2 : Nat} {c : ClkD} (h : RObj w B2 c) (ho : Only B w w') (hlt : B < B2) : RObj w' B2 c := (ho.rest B2 hlt (Array.getElem?_eq_some_iff.1 h).1).trans h
theorem SlP.only {w0 w w' : World} {v : Value} {l : List PressD} (h : SlP w0 v l) (hb : Below w0.heap.size w0 w) (ho : Below w0.heap.size w w') : SlP w' v l := h.below (hb.trans ho)
/-- The state of the round. -/
def ClkS (w : World) (B B2 k : Nat) (q : ClkD) (wx : World) : Prop := CObj wx B q ∧ RObj wx B2 q ∧ ClkOk k q ∧ Below w.heap.size w wx
def SwR (w : World) (B B2 k : Nat) (f g : Value) (wx : World) : Prop := ∃ q E, f = .int .i64 E ∧ g = .int .i64 E ∧ ClkS w B B2 k q wx
end Go.Proofs.YtdbfnonpndlejaaDoor
