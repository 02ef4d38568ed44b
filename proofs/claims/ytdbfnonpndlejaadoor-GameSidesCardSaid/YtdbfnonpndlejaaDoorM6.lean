/- A game with the teams exchanged: the plain law. -/
import Derived.Test.YtdbfnonpndlejaaDoorM4
namespace Go.Proofs.YtdbfnonpndlejaaDoor
open Go.RowKit

def swapL (x : LineD) : LineD := { x with team := swap01 x.team }
def swS (s : StD) : StD := { s with p0 := s.p1, p1 := s.p0, w0 := s.w1, w1 := s.w0, ham := swap01 s.ham, win := swap01 s.win }
theorem swap_swap (x : Int) : swap01 (swap01 x) = x := by
  unfold swap01
  by_cases h : x = 0 ∨ x = 1
  · rcases h with rfl | rfl <;> rfl
  · simp only [h, if_false]
theorem swS_swS (s : StD) : swS (swS s) = s := by
  obtain ⟨a, b, c, d, e, f, g, h, i⟩ := s
  simp [swS, swap_swap]
theorem swap_le (x : Int) : (x = 0 ∧ swap01 x = 1) ∨ (x = 1 ∧ swap01 x = 0) ∨ (x ≠ 0 ∧ x ≠ 1 ∧ swap01 x = x) := by
  unfold swap01
  by_cases h : x = 0 ∨ x = 1
  · rcases h with rfl | rfl
    · exact .inl ⟨rfl, rfl⟩
    · exact .inr (.inl ⟨rfl, rfl⟩)
  · simp only [h, if_false]
    exact .inr (.inr ⟨by omega, by omega, trivial⟩)
theorem line_swap (m : MatchD) (x : LineD) : lineOk m (swapL x) = lineOk m x := by
  unfold lineOk swapL inB
  rcases swap_le x.team with ⟨h1, -⟩ | ⟨h1, -⟩ | ⟨-, -, h3⟩
  · simp [h1, swap01]
  · simp [h1, swap01]
  · simp [h3]
theorem fits_swap (m : MatchD) (s : StD) (x : LineD) (hh : s.over = false → s.ham = 0 ∨ s.ham = 1) : fits m (swS s) (swapL x) = fits m s x := by
  unfold fits
  rw [line_swap]
  cases ho : s.over with
  | true => simp [swS, ho]
  | false =>
    have hp : powOk m (swS s) (swapL x) = powOk m s x := by
      unfold powOk StD.powAt
      rcases hh ho with h | h <;> simp [swS, swapL, h, swap01]
    rw [hp]
    simp [swS, ho]
theorem behind_swap (m : MatchD) (s : StD) (x : LineD) (hf : fits m s x = true) (hh : s.over = false → s.ham = 0 ∨ s.ham = 1) (hw : s.over = false → s.win = -1) : behind m (swS s) (swapL x) = swS (behind m s x) := by
  obtain ⟨ho, hx⟩ := fits_line hf
  have hham := hh ho
  have hwin := hw ho
  have hP : played m (swS s) (swapL x) = swS (played m s x) := by
    obtain ⟨t, p, w⟩ := x
    obtain ⟨p0, p1, e, h, wi, ov, ex, w0, w1⟩ := s
    simp only at hham hwin ho hx
    have ht : t = -1 ∨ t = 0 ∨ t = 1 := by omega
    subst hwin ho
    rcases ht with rfl | rfl | rfl <;> rcases hham with rfl | rfl <;> cases hc : m.change <;> simp [played, swS, swapL, swap01, hc]
  unfold behind
  rw [hP]
  have hov : (played m s x).over = false := ho
  have hwi : (played m s x).win = -1 := hwin
  generalize played m s x = q at *
  obtain ⟨p0, p1, e, h, wi, ov, ex, w0, w1⟩ := q
  simp only at hov hwi
  subst hov hwi
  unfold ended
  rcases Int.lt_trichotomy p0 p1 with h1 | h1 | h1
  · cases ex <;> simp [swS, StD.end, swap01, h1, show ¬ p1 < p0 by omega]
  · cases ex <;> simp [swS, swap01, h1]
  · cases ex <;> simp [swS, StD.end, swap01, h1, show ¬ p0 < p1 by omega]
theorem getD_swap (card : List LineD) (k : Nat) (hk : k < card.length) : (card.map swapL).getD k ⟨0, 0, false⟩ = swapL (card.getD k ⟨0, 0, false⟩) := by
  rw [List.getD_eq_getElem?_getD, List.getD_eq_getElem?_getD, List.getElem?_map, List.getElem?_eq_getElem hk]
  rfl
theorem badN_swap (m : MatchD) (hm : m.most ≤ 8) : ∀ (card : List LineD) (i : Nat) (s : StD), StOk i s → badN m (swS s) (card.map swapL) = badN m s card := by
  intro card
  induction card with
  | nil => intro _ _ _; rfl
  | cons x l ih =>
    intro i s hs
    simp only [List.map_cons]
    unfold badN
    rw [fits_swap m s x hs.ham]
    by_cases hf : fits m s x = true
    · rw [if_pos hf, if_pos hf, behind_swap m s x hf hs.ham hs.win, ih (i + 1) _ (behind_ok hm hs hf)]
    · rw [if_neg hf, if_neg hf]
theorem begun_swap {first : Int} (h : first = 0 ∨ first = 1) : begun (1 - first) = swS (begun first) := by
  rcases h with rfl | rfl <;> rfl
theorem stAt_swap (m : MatchD) (hm : m.most ≤ 8) (first : Int) (hf : first = 0 ∨ first = 1) (card : List LineD) : ∀ k, k ≤ badN m (begun first) card → stAt m (1 - first) (card.map swapL) k = swS (stAt m first card k) := by
  intro k
  induction k with
  | zero => intro _; exact begun_swap hf
  | succ k ih =>
    intro hk
    have hs := stAt_ok hm hf card k (by omega)
    have hkl : k < card.length := by have := badN_le m card (begun first); omega
    rw [stAt_succ, stAt_succ, ih (by omega), getD_swap card k hkl]
    exact behind_swap m _ _ ((badN_fits m first card k (by omega)).2.1 (by omega)) hs.ham hs.win
/-- The standing with the teams exchanged back. -/
def backS (code : Int) (s : StD) : StD := if code = 0 then swS s else { s with p0 := s.p1, p1 := s.p0, w0 := s.w1, w1 := s.w0 }
theorem backS_zero (code : Int) (h : code ≠ 0) : backS code zeroS = zeroS := by unfold backS; rw [if_neg h]; rfl
theorem sides_law (m : MatchD) (first : Int) (card : List LineD) (con : Int) (hf : first = 0 ∨ first = 1) (hc : con = -1 ∨ con = 0 ∨ con = 1) :
    (replayR m (1 - first) (card.map swapL) (swap01 con)).2 = (replayR m first card con).2 ∧ backS (replayR m first card con).2.2 (replayR m (1 - first) (card.map swapL) (swap01 con)).1 = (replayR m first card con).1 := by
  have ha : m.asked (1 - first) (swap01 con) = m.asked first con := by
    unfold MatchD.asked inB
    rcases hf with rfl | rfl <;> rcases hc with rfl | rfl | rfl <;> simp [swap01]
  have hsc : swap01 con = -1 ↔ con = -1 := by rcases hc with rfl | rfl | rfl <;> simp [swap01]
  unfold replayR
  rw [ha, List.length_map]
  by_cases hA : m.asked first con = true
  · rw [if_pos hA, if_pos hA]
    have hm : m.most ≤ 8 := by
      unfold MatchD.asked at hA
      simp only [Bool.and_eq_true] at hA
      exact ok_most hA.1.1
    by_cases hl : card.length ≤ 40
    · rw [if_pos hl, if_pos hl]
      have hbn : badN m (begun (1 - first)) (card.map swapL) = badN m (begun first) card := by
        rw [begun_swap hf]; exact badN_swap m hm card 0 _ (begun_ok hf)
      rw [hbn]
      by_cases hb : badN m (begun first) card < card.length
      · rw [if_pos hb, if_pos hb]
        exact ⟨rfl, backS_zero _ (by intro h; cases h)⟩
      · have hbe : badN m (begun first) card = card.length := by have := badN_le m card (begun first); omega
        rw [if_neg hb, if_neg hb, stAt_swap m hm first hf card card.length (by omega)]
        by_cases hcn : con = -1
        · rw [if_pos hcn, if_pos (hsc.2 hcn)]
          exact ⟨rfl, by unfold backS; rw [if_pos rfl]; exact swS_swS _⟩
        · rw [if_neg hcn, if_neg (fun e => hcn (hsc.1 e))]
          have ho : (swS (stAt m first card card.length)).over = (stAt m first card card.length).over := rfl
          have he : (swS (stAt m first card card.length)).ends = (stAt m first card card.length).ends := rfl
          rw [ho, he]
          by_cases hov : ((stAt m first card card.length).over || decide ((stAt m first card card.length).ends < m.early)) = true
          · rw [if_pos hov, if_pos hov]
            exact ⟨rfl, backS_zero _ (by intro h; cases h)⟩
          · rw [if_neg hov, if_neg hov]
            refine ⟨rfl, ?_⟩
            unfold backS
            rw [if_pos rfl]
            rcases hc with rfl | rfl | rfl
            · exact absurd rfl hcn
            · rfl
            · rfl
    · rw [if_neg hl, if_neg hl]
      exact ⟨rfl, backS_zero _ (by intro h; cases h)⟩
  · rw [if_neg hA, if_neg hA]
    exact ⟨rfl, backS_zero _ (by intro h; cases h)⟩
end Go.Proofs.YtdbfnonpndlejaaDoor
