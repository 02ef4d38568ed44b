/- The board: the plain law. -/
import Derived.Test.YtdbfnonpndlejaaDoorB3
import Derived.Lib.Join
namespace Go.Proofs.YtdbfnonpndlejaaDoor
open Go.RowKit

/-- What a card is that was gone through without a fault. -/
structure CardOk (m : MatchD) (first : Int) (card : List LineD) : Prop where
  asked : m.ok = true ∧ (first = 0 ∨ first = 1)
  few : card.length ≤ 40
  bad : badN m (begun first) card = card.length
theorem replayR_ok (m : MatchD) (first : Int) (card : List LineD) (con : Int) (h : (replayR m first card con).2.2 = 0) : CardOk m first card := by
  have hb := badN_le m card (begun first)
  unfold replayR at h
  by_cases ha : m.asked first con = true
  · rw [if_pos ha] at h
    by_cases hl : card.length ≤ 40
    · rw [if_pos hl] at h
      by_cases hn : badN m (begun first) card < card.length
      · rw [if_pos hn] at h; cases h
      · refine ⟨?_, hl, by omega⟩
        unfold MatchD.asked at ha
        simp only [Bool.and_eq_true] at ha
        exact ⟨ha.1.1, in01 ha.1.2⟩
    · rw [if_neg hl] at h; cases h
  · rw [if_neg ha] at h; cases h
theorem CardOk.most {m : MatchD} {first : Int} {card : List LineD} (h : CardOk m first card) : m.most ≤ 8 := ok_most h.asked.1
theorem CardOk.zero {m : MatchD} {first : Int} {card : List LineD} (h : CardOk m first card) : replayR m first card (-1) = (stAt m first card card.length, -1, 0) := by
  have h2 := replayR_take m first card card.length (by
    unfold MatchD.asked
    rw [h.asked.1]
    rcases h.asked.2 with rfl | rfl <;> rfl) h.few (by rw [h.bad]; exact Nat.le_refl _)
  rwa [List.take_length] at h2
theorem CardOk.hams {m : MatchD} {first : Int} {card : List LineD} (h : CardOk m first card) : hamsR m first card = (hamL m first card (card.length + 1), 0) := by
  unfold hamsR
  rw [if_pos (by rw [h.zero])]
theorem CardOk.st {m : MatchD} {first : Int} {card : List LineD} (h : CardOk m first card) (k : Nat) (hk : k ≤ card.length) : StOk k (stAt m first card k) := stAt_ok h.most h.asked.2 card k (by rw [h.bad]; exact hk)
theorem CardOk.len {m : MatchD} {first : Int} {card : List LineD} (h : CardOk m first card) : card.length ≤ (hamL m first card (card.length + 1)).length := by
  rw [hamL_succ, List.length_append, hamL_len m first card card.length (by rw [h.bad]; exact Nat.le_refl _)]
  omega
theorem CardOk.line {m : MatchD} {first : Int} {card : List LineD} (h : CardOk m first card) : ∀ x ∈ card, 0 ≤ x.pts ∧ x.pts ≤ 8 := by
  intro x hx
  obtain ⟨k, hk, rfl⟩ := List.getElem_of_mem hx
  have hf := fits_line ((badN_fits m first card k (by rw [h.bad]; omega)).2.1 (by rw [h.bad]; exact hk))
  rw [List.getD_eq_getElem?_getD, List.getElem?_eq_getElem hk] at hf
  have := h.most
  rcases hf.2 with ⟨-, h1⟩ | ⟨-, h1, h2⟩
  · simp only [Option.getD_some] at h1; omega
  · simp only [Option.getD_some] at h1 h2; omega
def ptsOf (s : StD) (t : Int) : Int := if t = 0 then s.p0 else s.p1
def rowHead (t first : Int) : List UInt8 := [if t = 0 then 114 else 121, if t = first then 42 else 32]
def rowParts (t first con : Int) (card : List LineD) (hams : List Int) (s : StD) : List (List UInt8) :=
  rowHead t first :: (colsL t card hams card.length ++ [[61], Lib.itoa (ptsOf s t)] ++ (if con = t then [[120]] else []))
def rowL (t first con : Int) (card : List LineD) (hams : List Int) (s : StD) : List UInt8 := Lib.join (rowParts t first con card hams s) [32] ++ [10]
def boardL (first con : Int) (card : List LineD) (hams : List Int) (s : StD) : List UInt8 := rowL 0 first con card hams s ++ rowL 1 first con card hams s
def boardR (m : MatchD) (first : Int) (card : List LineD) (con : Int) : List UInt8 × Int :=
  if (replayR m first card con).2.2 = 0 then (boardL first con card (hamL m first card (card.length + 1)) (replayR m first card con).1, 0) else ([], (replayR m first card con).2.2)
theorem replayR_pts (m : MatchD) (first : Int) (card : List LineD) (con : Int) (h : (replayR m first card con).2.2 = 0) : 0 ≤ (replayR m first card con).1.p0 ∧ (replayR m first card con).1.p0 ≤ 320 ∧ 0 ≤ (replayR m first card con).1.p1 ∧ (replayR m first card con).1.p1 ≤ 320 := by
  have hc := replayR_ok m first card con h
  have hs := hc.st card.length (Nat.le_refl _)
  have h0 := hs.p0
  have h1 := hs.p1
  have hf := hc.few
  have hb := hc.bad
  have key : (replayR m first card con).1 = stAt m first card card.length ∨ (replayR m first card con).1 = (stAt m first card card.length).end (1 - con) := by
    unfold replayR at h ⊢
    by_cases ha : m.asked first con = true
    · rw [if_pos ha, if_pos hf, if_neg (by omega)] at h ⊢
      split
      · left; rfl
      · rename_i hne
        rw [if_neg hne] at h
        split
        · rename_i hov
          rw [if_pos hov] at h; cases h
        · right; rfl
    · rw [if_neg ha] at h; cases h
  rcases key with e | e
  · rw [e]; omega
  · rw [e]; simp only [StD.end]; omega
theorem lens_le (n : Nat) : ∀ l : List (List UInt8), (∀ x ∈ l, x.length ≤ n) → Lib.lens l ≤ n * l.length := by
  intro l
  induction l with
  | nil => intro _; simp [Lib.lens]
  | cons x l ih =>
    intro h
    have h1 := ih (fun y hy => h y (List.mem_cons_of_mem _ hy))
    have h2 := h x (List.mem_cons_self)
    simp only [Lib.lens, List.map_cons, List.sum_cons, List.length_cons] at h1 ⊢
    rw [Nat.mul_succ]
    omega
theorem parts_len (t first con : Int) (card : List LineD) (hams : List Int) (s : StD) : (rowParts t first con card hams s).length ≤ card.length + 4 := by
  unfold rowParts
  simp only [List.length_cons, List.length_append, colsL_length, List.length_nil]
  split <;> simp
theorem row_len (t first con : Int) (card : List LineD) (hams : List Int) (s : StD) (hc : card.length ≤ 40) (hl : ∀ x ∈ card, 0 ≤ x.pts ∧ x.pts ≤ 8) (hp : 0 ≤ ptsOf s t ∧ ptsOf s t ≤ 320) : (rowL t first con card hams s).length ≤ 20000 := by
  have h0 := parts_len t first con card hams s
  have h1 : ∀ x ∈ rowParts t first con card hams s, x.length ≤ 321 := by
    intro x hx
    unfold rowParts at hx
    simp only [List.mem_cons, List.mem_append] at hx
    rcases hx with rfl | (hx | hx) | hx
    · simp [rowHead]
    · unfold colsL at hx
      obtain ⟨i, hi, rfl⟩ := List.mem_map.1 hx
      have hi' : i < card.length := by simpa using hi
      have hd : card.getD i ⟨0, 0, false⟩ = card[i] := by rw [List.getD_eq_getElem?_getD, List.getElem?_eq_getElem hi']; rfl
      rw [hd]
      have := colL_len t (hams.getD i 0) card[i] (hl _ (List.getElem_mem hi'))
      omega
    · rcases hx with rfl | rfl | hx
      · simp
      · have := itoa_len (ptsOf s t) hp.1; omega
      · simp at hx
    · split at hx
      · simp at hx; subst hx; simp
      · simp at hx
  unfold rowL
  rw [List.length_append, show rowParts t first con card hams s = rowHead t first :: (rowParts t first con card hams s).tail from rfl, Lib.join_length]
  have h2 := lens_le 321 _ h1
  have h3 : Lib.lens (rowHead t first :: (rowParts t first con card hams s).tail) = Lib.lens (rowParts t first con card hams s) := rfl
  have h4 : (rowParts t first con card hams s).tail.length ≤ card.length + 3 := by rw [List.length_tail]; omega
  have h5 : 321 * (rowParts t first con card hams s).length ≤ 321 * 44 := Nat.mul_le_mul_left _ (by omega)
  rw [h3]
  simp only [List.length_cons, List.length_nil]
  omega
end Go.Proofs.YtdbfnonpndlejaaDoor
