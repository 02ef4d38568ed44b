/- The hammers and the power plays of a valid card: the plain law. -/
import Derived.Test.YtdbfnonpndlejaaDoorM5
namespace Go.Proofs.YtdbfnonpndlejaaDoor
open Go.RowKit

theorem CardOk.hamN {m : MatchD} {first : Int} {card : List LineD} (h : CardOk m first card) : ∀ k, k ≤ card.length → hamL m first card k = (List.range k).map (fun j => (stAt m first card j).ham) := by
  intro k
  induction k with
  | zero => intro _; rfl
  | succ k ih =>
    intro hk
    rw [hamL_succ, ih (by omega), h.on k (by omega), List.range_succ, List.map_append]
    rfl
theorem CardOk.hamLen {m : MatchD} {first : Int} {card : List LineD} (h : CardOk m first card) : (hamL m first card (card.length + 1)).length = if (stAt m first card card.length).over then card.length else card.length + 1 := by
  rw [hamL_succ, h.hamN card.length (Nat.le_refl _), List.length_append]
  cases (stAt m first card card.length).over <;> simp
theorem CardOk.hamAt {m : MatchD} {first : Int} {card : List LineD} (h : CardOk m first card) (i : Nat) (hi : i < (hamL m first card (card.length + 1)).length) : (hamL m first card (card.length + 1))[i]? = some (stAt m first card i).ham := by
  have hl := h.hamLen
  rw [hl] at hi
  rw [hamL_succ, h.hamN card.length (Nat.le_refl _)]
  by_cases hin : i < card.length
  · rw [List.getElem?_append_left (by simpa using hin), List.getElem?_map, List.getElem?_range hin]; rfl
  · cases ho : (stAt m first card card.length).over with
    | true => rw [ho] at hi; simp at hi; omega
    | false =>
      rw [ho] at hi
      simp at hi
      obtain rfl : i = card.length := by omega
      rw [List.getElem?_append_right (by simp)]
      simp
theorem fits_pow {m : MatchD} {s : StD} {x : LineD} (h : fits m s x = true) (hp : x.pow = true) : m.power = true ∧ s.ends < m.ends ∧ s.powAt s.ham = false := by
  unfold fits powOk at h
  rw [hp] at h
  simp at h
  exact ⟨h.2.1.1, h.2.1.2, h.2.2⟩
theorem ended_w (s : StD) : (ended s).w0 = s.w0 ∧ (ended s).w1 = s.w1 := by
  unfold ended
  split
  · exact ⟨rfl, rfl⟩
  · split <;> exact ⟨rfl, rfl⟩
theorem behind_w (m : MatchD) (s : StD) (x : LineD) : (behind m s x).w0 = (s.w0 || (x.pow && s.ham == 0)) ∧ (behind m s x).w1 = (s.w1 || (x.pow && s.ham == 1)) := by
  unfold behind
  obtain ⟨h1, h2⟩ := ended_w (played m s x)
  rw [h1, h2]
  exact ⟨rfl, rfl⟩
theorem behind_ham (m : MatchD) (s : StD) (x : LineD) (h : (behind m s x).over = false) : (behind m s x).ham = if 0 ≤ x.team then 1 - x.team else if m.change then 1 - s.ham else s.ham := by
  unfold behind at h ⊢
  unfold ended at h ⊢
  split
  · rename_i h1
    rw [if_pos h1] at h
    cases h
  · rename_i h1
    rw [if_neg h1] at h
    split
    · rename_i h2
      rw [if_pos h2] at h
      cases h
    · rfl
/-- One power play more, or none. -/
def cnt (b : Bool) : Int := if b then 1 else 0
theorem cnt_no (b : Bool) : cnt (b || false) = cnt b := by cases b <;> rfl
theorem CardOk.fit {m : MatchD} {first : Int} {card : List LineD} (h : CardOk m first card) (k : Nat) (hk : k < card.length) : fits m (stAt m first card k) card[k] = true := by
  have hf := (badN_fits m first card k (by rw [h.bad]; omega)).2.1 (by rw [h.bad]; exact hk)
  rw [List.getD_eq_getElem?_getD, List.getElem?_eq_getElem hk] at hf
  exact hf
theorem stAt_get (m : MatchD) (first : Int) (card : List LineD) (k : Nat) (hk : k < card.length) : stAt m first card (k + 1) = behind m (stAt m first card k) card[k] := by
  rw [stAt_succ, List.getD_eq_getElem?_getD, List.getElem?_eq_getElem hk]
  rfl
end Go.Proofs.YtdbfnonpndlejaaDoor
