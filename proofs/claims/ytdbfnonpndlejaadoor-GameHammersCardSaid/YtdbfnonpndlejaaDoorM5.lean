/- How a game stands behind its lines: the plain law of the sums. -/
import Derived.Test.YtdbfnonpndlejaaDoorM4
namespace Go.Proofs.YtdbfnonpndlejaaDoor
open Go.RowKit

/-- What is known of a standing behind i valid lines. -/
structure AloneOk (m : MatchD) (i : Nat) (s : StD) : Prop where
  over : s.over = (decide (m.ends ≤ (i : Int)) && decide (s.p0 ≠ s.p1))
  extra : s.extra = (!s.over && decide (m.ends ≤ (i : Int)))
  win : s.win = if s.over then (if s.p1 < s.p0 then 0 else 1) else -1
  ham : decide (s.ham < 0) = s.over
def addP (s : StD) (x : LineD) : StD := { s with p0 := s.p0 + (if x.team = 0 then x.pts else 0), p1 := s.p1 + (if x.team = 1 then x.pts else 0) }
theorem ended_p (s : StD) : (ended s).p0 = s.p0 ∧ (ended s).p1 = s.p1 := by
  unfold ended
  split
  · exact ⟨rfl, rfl⟩
  · split <;> exact ⟨rfl, rfl⟩
theorem behind_p (m : MatchD) (s : StD) (x : LineD) : (behind m s x).p0 = s.p0 + (if x.team = 0 then x.pts else 0) ∧ (behind m s x).p1 = s.p1 + (if x.team = 1 then x.pts else 0) := by
  unfold behind
  obtain ⟨h1, h2⟩ := ended_p (played m s x)
  rw [h1, h2]
  exact ⟨rfl, rfl⟩
theorem behind_alone {m : MatchD} {i : Nat} {s : StD} {x : LineD} (hm : m.most ≤ 8) (hs : StOk i s) (hf : fits m s x = true) : AloneOk m (i + 1) (behind m s x) := by
  have hk := behind_ok hm hs hf
  have he : (played m s x).extra = decide (m.ends ≤ ((i + 1 : Nat) : Int)) := by
    have h : (played m s x).extra = decide (m.ends ≤ s.ends + 1) := rfl
    rw [h, hs.ends]
    simp
  have hov : (played m s x).over = false := (fits_line hf).1
  have hw : (played m s x).win = s.win := rfl
  have hws := hs.win (fits_line hf).1
  unfold behind at hk ⊢
  generalize played m s x = q at *
  unfold ended at hk ⊢
  by_cases hE : m.ends ≤ ((i + 1 : Nat) : Int)
  · have hEd : q.extra = true := by rw [he]; simpa using hE
    rcases Int.lt_trichotomy q.p0 q.p1 with h | h | h
    · rw [if_neg (by simp; omega), if_pos (by simp [hEd]; omega)]
      exact ⟨by simp [StD.end]; exact ⟨by omega, decide_eq_true (by omega)⟩, by simp [StD.end], by simp [StD.end]; omega, by simp [StD.end]⟩
    · rw [if_neg (by simp; omega), if_neg (by simp; omega)] at hk ⊢
      refine ⟨by rw [hov]; simp [h], by rw [hov, hEd]; simp; simpa using hE, by rw [hov, hw, hws]; rfl, ?_⟩
      have := hk.ham hov
      rw [hov]; simp; omega
    · rw [if_pos (by simp [hEd]; omega)]
      exact ⟨by simp [StD.end]; exact ⟨by omega, decide_eq_true (by omega)⟩, by simp [StD.end], by simp [StD.end]; omega, by simp [StD.end]⟩
  · have hEd : q.extra = false := by rw [he]; simpa using hE
    rw [if_neg (by simp [hEd]), if_neg (by simp [hEd])] at hk ⊢
    refine ⟨by rw [hov]; simp; intro h; exact absurd (by simpa using h) hE, by rw [hov, hEd]; simp; omega, by rw [hov, hw, hws]; rfl, ?_⟩
    have := hk.ham hov
    rw [hov]; simp; omega
theorem CardOk.alone {m : MatchD} {first : Int} {card : List LineD} (h : CardOk m first card) (k : Nat) (hk : k ≤ card.length) : AloneOk m k (stAt m first card k) := by
  cases k with
  | zero =>
    have hf := h.asked.2
    have he : 1 ≤ m.ends := by
      have := h.asked.1
      unfold MatchD.ok inB at this
      simp at this
      omega
    refine ⟨?_, ?_, ?_, ?_⟩
    · simp [stAt, begun]
    · simp [stAt, begun]; omega
    · simp [stAt, begun]
    · exact decide_eq_false (show ¬ first < 0 by omega)
  | succ k =>
    exact behind_alone h.most (h.st k (by omega)) ((badN_fits m first card k (by rw [h.bad]; omega)).2.1 (by rw [h.bad]; omega))
theorem CardOk.on {m : MatchD} {first : Int} {card : List LineD} (h : CardOk m first card) (k : Nat) (hk : k < card.length) : (stAt m first card k).over = false := stAt_on m first card k (by rw [h.bad]; exact hk)
theorem CardOk.team {m : MatchD} {first : Int} {card : List LineD} (h : CardOk m first card) (k : Nat) (hk : k < card.length) : card[k].team = -1 ∧ card[k].pts = 0 ∨ (card[k].team = 0 ∨ card[k].team = 1) ∧ 1 ≤ card[k].pts ∧ card[k].pts ≤ m.most := by
  have hf := fits_line ((badN_fits m first card k (by rw [h.bad]; omega)).2.1 (by rw [h.bad]; exact hk))
  rw [List.getD_eq_getElem?_getD, List.getElem?_eq_getElem hk] at hf
  exact hf.2
end Go.Proofs.YtdbfnonpndlejaaDoor
