/- How a game stands: what is known of it, line by line. -/
import Derived.Test.YtolnhicngepnnaaGreatGM1
namespace Go.Proofs.YtolnhicngepnnaaGreat

theorem stAt_succ (m : MatchD) (first : Int) (card : List LineD) (k : Nat) : stAt m first card (k + 1) = behind m (stAt m first card k) (card.getD k ⟨0, 0, false⟩) := rfl
theorem badN_spec (m : MatchD) : ∀ (l : List LineD) (s : StD), badN m s l < l.length → ∃ x, l[badN m s l]? = some x := by
  intro l s h
  exact ⟨l[badN m s l], List.getElem?_eq_getElem h⟩
/-- The lines ahead of the first bad one fit; it does not. -/
theorem badN_fits (m : MatchD) (first : Int) (card : List LineD) : ∀ (k : Nat), k ≤ badN m (begun first) card →
    badN m (stAt m first card k) (card.drop k) = badN m (begun first) card - k ∧ (k < badN m (begun first) card → fits m (stAt m first card k) (card.getD k ⟨0, 0, false⟩) = true) ∧
    (k = badN m (begun first) card → k < card.length → fits m (stAt m first card k) (card.getD k ⟨0, 0, false⟩) = false) := by
  have step : ∀ (s : StD) (k : Nat), badN m s (card.drop k) = if h : k < card.length then (if fits m s (card.getD k ⟨0, 0, false⟩) then badN m (behind m s (card.getD k ⟨0, 0, false⟩)) (card.drop (k + 1)) + 1 else 0) else 0 := by
    intro s k
    by_cases h : k < card.length
    · rw [dif_pos h, List.drop_eq_getElem_cons h, badN, List.getD_eq_getElem?_getD, List.getElem?_eq_getElem h]
      rfl
    · rw [dif_neg h, List.drop_eq_nil_of_le (by omega)]; rfl
  intro k
  induction k with
  | zero =>
    intro _
    have h := step (begun first) 0
    rw [List.drop_zero] at h
    refine ⟨by simp [stAt], fun h0 => ?_, fun h0 hl => ?_⟩
    · rw [h] at h0
      by_cases hl : 0 < card.length
      · rw [dif_pos hl] at h0
        by_cases hf : fits m (begun first) (card.getD 0 ⟨0, 0, false⟩) = true
        · exact hf
        · rw [if_neg hf] at h0; omega
      · rw [dif_neg hl] at h0; omega
    · rw [h, dif_pos hl] at h0
      by_cases hf : fits m (begun first) (card.getD 0 ⟨0, 0, false⟩) = true
      · rw [if_pos hf] at h0; omega
      · have q : fits m (begun first) (card.getD 0 ⟨0, 0, false⟩) = false := by simpa using hf
        exact q
  | succ k ih =>
    intro hk
    obtain ⟨h1, h2, -⟩ := ih (by omega)
    have hf := h2 (by omega)
    have hs := step (stAt m first card k) k
    have hlen : k < card.length := by have := badN_le m card (begun first); omega
    rw [h1, dif_pos hlen, if_pos hf] at hs
    have e : badN m (stAt m first card (k + 1)) (card.drop (k + 1)) = badN m (begun first) card - (k + 1) := by rw [stAt_succ]; omega
    have hs2 := step (stAt m first card (k + 1)) (k + 1)
    refine ⟨e, fun h0 => ?_, fun h0 hl => ?_⟩
    · rw [e] at hs2
      by_cases hl : k + 1 < card.length
      · rw [dif_pos hl] at hs2
        by_cases hf : fits m (stAt m first card (k + 1)) (card.getD (k + 1) ⟨0, 0, false⟩) = true
        · exact hf
        · rw [if_neg hf] at hs2; omega
      · rw [dif_neg hl] at hs2; omega
    · rw [e, dif_pos hl] at hs2
      by_cases hf : fits m (stAt m first card (k + 1)) (card.getD (k + 1) ⟨0, 0, false⟩) = true
      · rw [if_pos hf] at hs2; omega
      · simpa using hf
theorem begun_ok {first : Int} (h : first = 0 ∨ first = 1) : StOk 0 (begun first) := ⟨rfl, by simp [begun], by simp [begun], fun _ => h, fun _ => rfl⟩
/-- What a line that fits is. -/
theorem fits_line {m : MatchD} {s : StD} {x : LineD} (h : fits m s x = true) : s.over = false ∧ (x.team = -1 ∧ x.pts = 0 ∨ (x.team = 0 ∨ x.team = 1) ∧ 1 ≤ x.pts ∧ x.pts ≤ m.most) := by
  unfold fits lineOk at h
  simp [inB] at h
  obtain ⟨⟨h1, h2⟩, -⟩ := h
  refine ⟨h1, ?_⟩
  omega
theorem behind_ok {m : MatchD} (hm : m.most ≤ 8) {k : Nat} {s : StD} {x : LineD} (hs : StOk k s) (h : fits m s x = true) : StOk (k + 1) (behind m s x) := by
  obtain ⟨ho, hx⟩ := fits_line h
  have hp0 := hs.p0
  have hp1 := hs.p1
  have he := hs.ends
  have hh := hs.ham ho
  have hw := hs.win ho
  have a0 : 0 ≤ (if x.team = 0 then x.pts else 0) ∧ (if x.team = 0 then x.pts else 0) ≤ 8 := by split <;> omega
  have a1 : 0 ≤ (if x.team = 1 then x.pts else 0) ∧ (if x.team = 1 then x.pts else 0) ≤ 8 := by split <;> omega
  have hP : StOk (k + 1) (played m s x) := by
    refine ⟨?_, ?_, ?_, fun _ => ?_, fun _ => hw⟩
    · show s.ends + 1 = _; omega
    · show 0 ≤ s.p0 + _ ∧ s.p0 + _ ≤ _; omega
    · show 0 ≤ s.p1 + _ ∧ s.p1 + _ ≤ _; omega
    · have e : (played m s x).ham = if 0 ≤ x.team then 1 - x.team else if m.change then 1 - s.ham else s.ham := rfl
      rw [e]
      rcases hx with ⟨h1, -⟩ | ⟨h1 | h1, -⟩
      · rw [if_neg (by omega)]
        cases m.change
        · simpa using hh
        · simp only [if_true]; omega
      · rw [if_pos (by omega)]; omega
      · rw [if_pos (by omega)]; omega
  unfold behind ended
  split
  · exact ⟨hP.ends, hP.p0, hP.p1, fun h => absurd (show true = false from h) (by decide), fun h => absurd (show true = false from h) (by decide)⟩
  · split
    · exact ⟨hP.ends, hP.p0, hP.p1, fun h => absurd (show true = false from h) (by decide), fun h => absurd (show true = false from h) (by decide)⟩
    · exact hP
theorem stAt_ok {m : MatchD} (hm : m.most ≤ 8) {first : Int} (hf : first = 0 ∨ first = 1) (card : List LineD) : ∀ k, k ≤ badN m (begun first) card → StOk k (stAt m first card k) := by
  intro k
  induction k with
  | zero => intro _; exact begun_ok hf
  | succ k ih =>
    intro hk
    exact behind_ok hm (ih (by omega)) ((badN_fits m first card k (by omega)).2.1 (by omega))
end Go.Proofs.YtolnhicngepnnaaGreat
