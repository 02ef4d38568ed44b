/- The standing behind a line, and the skip's state behind an end: the plain law. -/
import Derived.Test.YtolnhicngepnnaaGreatGM3
namespace Go.Proofs.YtolnhicngepnnaaGreat

def leadN (l h p : Int) : Int := if h = 0 then l + p else l - p
def hamN (h p : Int) : Int := if 0 < p then 1 - h else h
/-- The points of a line, as the skip counts them. -/
def ptN (x : LineD) (h : Int) : Int := if x.team = h then x.pts else -x.pts
structure StepOk (m : MatchD) (n : Nat) (s t : StD) (x : LineD) : Prop where
  ham : s.ham = 0 ∨ s.ham = 1
  lead : -96 ≤ s.p0 - s.p1 ∧ s.p0 - s.p1 ≤ 96
  pt : -8 ≤ ptN x s.ham ∧ ptN x s.ham ≤ 8
  next : leadN (s.p0 - s.p1) s.ham (ptN x s.ham) = t.p0 - t.p1
  lead2 : -96 ≤ t.p0 - t.p1 ∧ t.p0 - t.p1 ≤ 96
  ham2 : t.over = false → t.ham = hamN s.ham (ptN x s.ham)
  ham3 : hamN s.ham (ptN x s.ham) = 0 ∨ hamN s.ham (ptN x s.ham) = 1
  over : t.over = (decide (m.ends - n - 1 = 0) && decide (t.p0 - t.p1 ≠ 0))
  win : t.over = true → (t.win = 0 ↔ 0 < t.p0 - t.p1)
  pb : (-1000 ≤ t.p0 ∧ t.p0 ≤ 1000) ∧ -1000 ≤ t.p1 ∧ t.p1 ≤ 1000
theorem stand_step {m : MatchD} {first : Int} {card : List LineD} {n : Nat} (hch : m.change = false) (hr : (replayR m first (card.take (n + 1)) (-1)).2.2 = 0) (hn : n < card.length) (hne : (n : Int) < m.ends) (h12 : m.ends ≤ 12) :
    (replayR m first (card.take (n + 1)) (-1)).1 = stAt m first card (n + 1) ∧ StepOk m n (stAt m first card n) (stAt m first card (n + 1)) (card.getD n ⟨0, 0, false⟩) ∧ (stAt m first card n).over = false := by
  obtain ⟨ha, hl, hb, he⟩ := replayR_zero m first _ hr
  have hlen : (card.take (n + 1)).length = n + 1 := by simp; omega
  rw [hlen] at hb he
  have hm8 : m.most ≤ 8 ∧ (first = 0 ∨ first = 1) := by
    simp only [MatchD.asked, MatchD.ok, inB, Bool.and_eq_true, decide_eq_true_eq] at ha
    omega
  have hf := (badN_fits m first (card.take (n + 1)) n (by omega)).2.1 (by omega)
  have e1 := stAt_take m first card (n + 1) n (by omega)
  have e2 := stAt_take m first card (n + 1) (n + 1) (Nat.le_refl _)
  have s1 := stAt_ok hm8.1 hm8.2 (card.take (n + 1)) n (by omega)
  have s2 := stAt_ok hm8.1 hm8.2 (card.take (n + 1)) (n + 1) (by omega)
  rw [e2] at he s2
  rw [e1] at s1 hf
  have e3 : (card.take (n + 1)).getD n ⟨0, 0, false⟩ = card.getD n ⟨0, 0, false⟩ := by
    rw [List.getD_eq_getElem?_getD, List.getD_eq_getElem?_getD, List.getElem?_take, if_pos (by omega)]
  rw [e3] at hf
  refine ⟨by rw [he], ?_, (fits_line hf).1⟩
  have e4 := stAt_succ m first card n
  generalize stAt m first card (n + 1) = t at *
  generalize stAt m first card n = s at *
  generalize card.getD n ⟨0, 0, false⟩ = x at *
  clear he e1 e2 e3 hb hl ha hr hlen
  obtain ⟨ho, hx⟩ := fits_line hf
  have hh := s1.ham ho
  have hp0 := s1.p0
  have hp1 := s1.p1
  have hend := s1.ends
  have q0 := s2.p0
  have q1 := s2.p1
  have hP0 : (played m s x).p0 = s.p0 + (if x.team = 0 then x.pts else 0) := rfl
  have hP1 : (played m s x).p1 = s.p1 + (if x.team = 1 then x.pts else 0) := rfl
  have hPe : (played m s x).extra = decide (m.ends ≤ s.ends + 1) := rfl
  have hPh : (played m s x).ham = if 0 ≤ x.team then 1 - x.team else if m.change then 1 - s.ham else s.ham := rfl
  have hPo : (played m s x).over = false := ho
  rw [hch] at hPh
  have ht : t = ended (played m s x) := e4
  have htp : t.p0 = (played m s x).p0 ∧ t.p1 = (played m s x).p1 := by
    rw [ht]; unfold ended
    split
    · exact ⟨rfl, rfl⟩
    · split
      · exact ⟨rfl, rfl⟩
      · exact ⟨rfl, rfl⟩
  have hpt : -8 ≤ ptN x s.ham ∧ ptN x s.ham ≤ 8 := by unfold ptN; split <;> omega
  have hnext : leadN (s.p0 - s.p1) s.ham (ptN x s.ham) = t.p0 - t.p1 := by
    rw [htp.1, htp.2, hP0, hP1]
    unfold leadN ptN
    repeat' split
    all_goals omega
  have hover : t.over = (decide (m.ends ≤ s.ends + 1) && decide (t.p0 - t.p1 ≠ 0)) := by
    rw [htp.1, htp.2, ht]
    generalize played m s x = p at *
    unfold ended
    rw [hPe]
    by_cases h1 : m.ends ≤ s.ends + 1
    · by_cases h2 : p.p0 > p.p1
      · simp [h1, h2, StD.end] <;> omega
      · by_cases h3 : p.p1 > p.p0
        · simp [h1, h2, h3, StD.end] <;> omega
        · simp [h1, h2, h3, hPo] <;> omega
    · simp [h1, hPo]
  have hwin : t.over = true → (t.win = 0 ↔ 0 < t.p0 - t.p1) := by
    rw [htp.1, htp.2, ht]
    generalize played m s x = p at *
    unfold ended
    rw [hPe]
    by_cases h1 : m.ends ≤ s.ends + 1
    · by_cases h2 : p.p0 > p.p1
      · simp [h1, h2, StD.end] <;> omega
      · by_cases h3 : p.p1 > p.p0
        · simp [h1, h2, h3, StD.end] <;> omega
        · simp [h1, h2, h3, hPo]
    · simp [h1, hPo]
  have hham : t.over = false → t.ham = hamN s.ham (ptN x s.ham) := by
    intro h
    have hte : t = played m s x := by
      rw [ht] at h ⊢
      unfold ended at h ⊢
      split
      · next h1 => rw [if_pos h1] at h; cases h
      · next h1 =>
        rw [if_neg h1] at h
        split
        · next h2 => rw [if_pos h2] at h; cases h
        · rfl
    rw [hte, hPh]
    unfold hamN ptN
    repeat' split
    all_goals first | omega | (simp at * <;> omega)
  refine ⟨hh, by omega, hpt, hnext, by omega, hham, ?_, ?_, hwin, by omega⟩
  · unfold hamN; split <;> omega
  · rw [hover]
    congr 1
    rw [hend]
    exact decide_eq_decide.2 (by omega)
end Go.Proofs.YtolnhicngepnnaaGreat
