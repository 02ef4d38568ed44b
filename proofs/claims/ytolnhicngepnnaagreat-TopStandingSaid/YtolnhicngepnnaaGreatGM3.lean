/- The hammers: the plain law. -/
import Derived.Test.YtolnhicngepnnaaGreatGM2
namespace Go.Proofs.YtolnhicngepnnaaGreat

theorem stAt_take (m : MatchD) (first : Int) (card : List LineD) (n : Nat) : ∀ k, k ≤ n → stAt m first (card.take n) k = stAt m first card k := by
  intro k
  induction k with
  | zero => intro _; rfl
  | succ k ih =>
    intro hk
    rw [stAt_succ, stAt_succ, ih (by omega)]
    congr 1
    rw [List.getD_eq_getElem?_getD, List.getD_eq_getElem?_getD, List.getElem?_take, if_pos (by omega)]
theorem badN_take (m : MatchD) : ∀ (card : List LineD) (n : Nat) (s : StD), n ≤ badN m s card → badN m s (card.take n) = n := by
  intro card
  induction card with
  | nil => intro n s h; simp [badN] at h; subst h; rfl
  | cons x l ih =>
    intro n s h
    cases n with
    | zero => rfl
    | succ n =>
      unfold badN at h
      by_cases hf : fits m s x = true
      · rw [if_pos hf] at h
        show badN m s (x :: l.take n) = n + 1
        unfold badN
        rw [if_pos hf, ih n _ (by omega)]
      · rw [if_neg hf] at h; omega
/-- A card that is right so far: its standing. -/
theorem replayR_take (m : MatchD) (first : Int) (card : List LineD) (n : Nat) (ha : m.asked first (-1) = true) (hl : card.length ≤ 40) (hn : n ≤ badN m (begun first) card) :
    replayR m first (card.take n) (-1) = (stAt m first card n, -1, 0) := by
  have hb := badN_le m card (begun first)
  have hlen : (card.take n).length = n := by simp; omega
  unfold replayR
  rw [if_pos ha, if_pos (by omega), badN_take m card n _ hn, hlen, if_neg (by omega), if_pos rfl, stAt_take m first card n n (Nat.le_refl _)]
/-- Ahead of the first line that does not fit the game goes on. -/
theorem stAt_on (m : MatchD) (first : Int) (card : List LineD) (k : Nat) (hk : k < badN m (begun first) card) : (stAt m first card k).over = false :=
  (fits_line ((badN_fits m first card k (by omega)).2.1 hk)).1
def hamL (m : MatchD) (first : Int) (card : List LineD) (n : Nat) : List Int := ((List.range n).filter (fun k => !(stAt m first card k).over)).map (fun k => (stAt m first card k).ham)
theorem hamL_succ (m : MatchD) (first : Int) (card : List LineD) (n : Nat) : hamL m first card (n + 1) = hamL m first card n ++ (if (stAt m first card n).over then [] else [(stAt m first card n).ham]) := by
  unfold hamL
  rw [List.range_succ, List.filter_append, List.map_append]
  congr 1
  cases h : (stAt m first card n).over <;> simp [h]
def hamsR (m : MatchD) (first : Int) (card : List LineD) : List Int × Int :=
  if (replayR m first card (-1)).2.2 = 0 then (hamL m first card (card.length + 1), 0) else ([], (replayR m first card (-1)).2.2)
theorem replayR_zero (m : MatchD) (first : Int) (card : List LineD) (h : (replayR m first card (-1)).2.2 = 0) :
    m.asked first (-1) = true ∧ card.length ≤ 40 ∧ badN m (begun first) card = card.length ∧ replayR m first card (-1) = (stAt m first card card.length, -1, 0) := by
  have hb := badN_le m card (begun first)
  unfold replayR at h ⊢
  by_cases ha : m.asked first (-1) = true
  · rw [if_pos ha] at h ⊢
    by_cases hl : card.length ≤ 40
    · rw [if_pos hl] at h ⊢
      by_cases hn : badN m (begun first) card < card.length
      · rw [if_pos hn] at h; cases h
      · rw [if_neg hn, if_pos rfl]
        exact ⟨ha, hl, by omega, rfl⟩
    · rw [if_neg hl] at h; cases h
  · rw [if_neg ha] at h; cases h
theorem hamL_on (m : MatchD) (first : Int) (card : List LineD) (k : Nat) (hk : k < badN m (begun first) card) : hamL m first card (k + 1) = hamL m first card k ++ [(stAt m first card k).ham] := by
  rw [hamL_succ, stAt_on m first card k hk]; rfl
theorem hamL_len (m : MatchD) (first : Int) (card : List LineD) : ∀ k, k ≤ badN m (begun first) card → (hamL m first card k).length = k := by
  intro k
  induction k with
  | zero => intro _; rfl
  | succ k ih => intro hk; rw [hamL_on m first card k (by omega), List.length_append, ih (by omega)]; rfl
end Go.Proofs.YtolnhicngepnnaaGreat
