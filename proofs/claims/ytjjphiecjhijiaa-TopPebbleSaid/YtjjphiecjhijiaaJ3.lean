import Derived.Test.YtjjphiecjhijiaaJ2
namespace Go.Proofs.Ytjjphiecjhijiaa
open Go.RowKit

/-- Two entries exchanged. -/
def swapL (a : List Nat) (i p : Nat) : List Nat := (a.set i (a.getD p 0)).set p (a.getD i 0)
theorem swapL_length (a : List Nat) (i p : Nat) : (swapL a i p).length = a.length := by simp [swapL]
theorem swapL_perm (a : List Nat) (i p : Nat) (hi : i < a.length) (hp : p < a.length) : (swapL a i p).Perm a := by
  have := List.set_set_perm hi hp
  simpa [swapL, List.getD_eq_getElem?_getD, hi, hp] using this
theorem swapL_get (a : List Nat) (i p j : Nat) (hi : i < a.length) (hp : p < a.length) : (swapL a i p).getD j 0 = if j = p then a.getD i 0 else if j = i then a.getD p 0 else a.getD j 0 := by
  unfold swapL
  by_cases h1 : j = p
  · subst h1; simp [List.getD_eq_getElem?_getD, hp]
  · rw [if_neg h1]
    by_cases h2 : j = i
    · subst h2
      simp [List.getD_eq_getElem?_getD, Ne.symm h1, hi]
    · simp [List.getD_eq_getElem?_getD, Ne.symm h1, Ne.symm h2, h2]

/-- A strict order that is total on different numbers. -/
structure Ord (r : Nat → Nat → Bool) : Prop where
  irr : ∀ x, r x x = false
  tr : ∀ x y z, r x y = true → r y z = true → r x z = true
  tot : ∀ x y, x ≠ y → r x y = false → r y x = true
theorem Ord.ntr {r : Nat → Nat → Bool} (h : Ord r) (x y z : Nat) (h1 : r x y = false) (h2 : r y z = false) : r x z = false := by
  by_cases e1 : x = y
  · subst e1; exact h2
  · by_cases e2 : y = z
    · subst e2; exact h1
    · have a := h.tot x y e1 h1
      have b := h.tot y z e2 h2
      cases hx : r x z with
      | false => rfl
      | true =>
        have := h.tr _ _ _ hx (h.tr _ _ _ b a)
        rw [h.irr] at this; cases this
theorem less_ord (l : List Mach) : Ord (lessJ l) where
  irr x := by simp [lessJ]
  tr x y z h1 h2 := by
    simp only [lessJ, Bool.or_eq_true, Bool.and_eq_true, decide_eq_true_eq, beq_iff_eq] at *
    omega
  tot x y hne h := by
    simp only [lessJ, Bool.or_eq_false_iff, Bool.and_eq_false_iff, decide_eq_false_iff_not, beq_eq_false_iff_ne, Bool.or_eq_true, Bool.and_eq_true, decide_eq_true_eq, beq_iff_eq] at *
    omega

/-- A heap, but maybe at entry i, ahead of what is behind it. -/
def UpO (r : Nat → Nat → Bool) (a : List Nat) (i : Nat) : Prop :=
  (∀ j, 0 < j → j < a.length → j ≠ i → r (a.getD j 0) (a.getD ((j - 1) / 2) 0) = false) ∧
  (∀ j, 0 < j → j < a.length → (j - 1) / 2 = i → 0 < i → r (a.getD j 0) (a.getD ((i - 1) / 2) 0) = false)
def HeapO (r : Nat → Nat → Bool) (a : List Nat) : Prop := ∀ j, 0 < j → j < a.length → r (a.getD j 0) (a.getD ((j - 1) / 2) 0) = false
theorem UpO.done {r : Nat → Nat → Bool} {a : List Nat} {i : Nat} (h : UpO r a i) (hd : i = 0 ∨ r (a.getD i 0) (a.getD ((i - 1) / 2) 0) = false) : HeapO r a := by
  intro j h0 hj
  by_cases e : j = i
  · subst e
    rcases hd with hd | hd
    · omega
    · exact hd
  · exact h.1 j h0 hj e
theorem UpO.start {r : Nat → Nat → Bool} {a : List Nat} {x : Nat} (h : HeapO r a) : UpO r (a ++ [x]) a.length := by
  refine ⟨?_, ?_⟩
  · intro j h0 hj hne
    have hj' : j < a.length := by simp at hj; omega
    have := h j h0 hj'
    simpa [List.getD_eq_getElem?_getD, List.getElem?_append_left hj', List.getElem?_append_left (show (j - 1) / 2 < a.length by omega)] using this
  · intro j h0 hj e
    simp at hj
    omega
theorem UpO.up {r : Nat → Nat → Bool} (ho : Ord r) {a : List Nat} {i : Nat} (h : UpO r a i) (hi : 0 < i) (hl : i < a.length) (hr : r (a.getD i 0) (a.getD ((i - 1) / 2) 0) = true) : UpO r (swapL a i ((i - 1) / 2)) ((i - 1) / 2) := by
  have hpi : (i - 1) / 2 < i := by omega
  have hpl : (i - 1) / 2 < a.length := by omega
  have asym : r (a.getD ((i - 1) / 2) 0) (a.getD i 0) = false := by
    cases hx : r (a.getD ((i - 1) / 2) 0) (a.getD i 0) with
    | false => rfl
    | true => have := ho.tr _ _ _ hr hx; rw [ho.irr] at this; cases this
  refine ⟨?_, ?_⟩
  · intro j h0 hj hne
    rw [swapL_length] at hj
    rw [swapL_get _ _ _ _ hl hpl, swapL_get _ _ _ _ hl hpl, if_neg hne]
    by_cases e : j = i
    · subst e; rw [if_pos rfl, if_pos rfl]; exact asym
    · rw [if_neg e]
      by_cases e2 : (j - 1) / 2 = (i - 1) / 2
      · rw [if_pos e2]
        have := h.1 j h0 hj e
        rw [e2] at this
        exact ho.ntr _ _ _ this asym
      · rw [if_neg e2]
        by_cases e3 : (j - 1) / 2 = i
        · rw [if_pos e3]
          exact h.2 j h0 hj e3 hi
        · rw [if_neg e3]
          exact h.1 j h0 hj e
  · intro j h0 hj hpj hp0
    rw [swapL_length] at hj
    have hq : ((i - 1) / 2 - 1) / 2 ≠ (i - 1) / 2 := by omega
    have hq2 : ((i - 1) / 2 - 1) / 2 ≠ i := by omega
    rw [swapL_get _ _ _ _ hl hpl, swapL_get _ _ _ _ hl hpl, if_neg hq, if_neg hq2]
    have hpp := h.1 ((i - 1) / 2) hp0 hpl (by omega)
    have hjne : j ≠ (i - 1) / 2 := by omega
    rw [if_neg hjne]
    by_cases e : j = i
    · subst e; rw [if_pos rfl]; exact hpp
    · rw [if_neg e]
      have := h.1 j h0 hj e
      rw [hpj] at this
      exact ho.ntr _ _ _ this hpp
/-- The first of a heap is ahead of all others. -/
theorem HeapO.first {r : Nat → Nat → Bool} (ho : Ord r) {a : List Nat} (h : HeapO r a) : ∀ n j, j ≤ n → j < a.length → r (a.getD j 0) (a.getD 0 0) = false := by
  intro n
  induction n with
  | zero =>
    intro j hj hl
    obtain rfl : j = 0 := (by omega)
    exact ho.irr _
  | succ n ih =>
    intro j hj hl
    by_cases e : j = 0
    · subst e; exact ho.irr _
    · exact ho.ntr _ _ _ (h j (by omega) hl) (ih ((j - 1) / 2) (by omega) (by omega))
/-- A heap, but maybe at the two entries behind i. -/
def DownO (r : Nat → Nat → Bool) (a : List Nat) (i : Nat) : Prop :=
  (∀ j, 0 < j → j < a.length → (j - 1) / 2 ≠ i → r (a.getD j 0) (a.getD ((j - 1) / 2) 0) = false) ∧
  (∀ j, 0 < j → j < a.length → (j - 1) / 2 = i → 0 < i → r (a.getD j 0) (a.getD ((i - 1) / 2) 0) = false)
theorem DownO.done {r : Nat → Nat → Bool} {a : List Nat} {i : Nat} (h : DownO r a i) (h1 : 2 * i + 1 < a.length → r (a.getD (2 * i + 1) 0) (a.getD i 0) = false) (h2 : 2 * i + 2 < a.length → r (a.getD (2 * i + 2) 0) (a.getD i 0) = false) : HeapO r a := by
  intro j h0 hj
  by_cases e : (j - 1) / 2 = i
  · rw [e]
    rcases (by omega : j = 2 * i + 1 ∨ j = 2 * i + 2) with rfl | rfl
    · exact h1 hj
    · exact h2 hj
  · exact h.1 j h0 hj e
/-- The entry c behind i is the least of i and the two behind it: exchanged, what is left to do is at c. -/
theorem DownO.down {r : Nat → Nat → Bool} (ho : Ord r) {a : List Nat} {i c : Nat} (h : DownO r a i) (hc : c < a.length) (hci : (c - 1) / 2 = i) (hc0 : 0 < c) (hr : r (a.getD c 0) (a.getD i 0) = true)
    (hb : ∀ j, 0 < j → j < a.length → (j - 1) / 2 = i → r (a.getD j 0) (a.getD c 0) = false) : DownO r (swapL a c i) c := by
  have hil : i < a.length := by omega
  have hic : i < c := by omega
  have asym : r (a.getD i 0) (a.getD c 0) = false := by
    cases hx : r (a.getD i 0) (a.getD c 0) with
    | false => rfl
    | true => have := ho.tr _ _ _ hr hx; rw [ho.irr] at this; cases this
  refine ⟨?_, ?_⟩
  · intro j h0 hj hne
    rw [swapL_length] at hj
    rw [swapL_get _ _ _ _ hc hil, swapL_get _ _ _ _ hc hil]
    by_cases e : (j - 1) / 2 = i
    · rw [if_pos e, if_neg (show j ≠ i by omega)]
      by_cases e2 : j = c
      · subst e2; rw [if_pos rfl]; exact asym
      · rw [if_neg e2]; exact hb j h0 hj e
    · rw [if_neg e, if_neg hne]
      by_cases e2 : j = i
      · subst e2
        rw [if_pos rfl]
        exact h.2 c hc0 hc hci h0
      · rw [if_neg e2, if_neg (show j ≠ c by rintro rfl; exact e hci)]
        exact h.1 j h0 hj e
  · intro j h0 hj hpj _
    rw [swapL_length] at hj
    rw [swapL_get _ _ _ _ hc hil, swapL_get _ _ _ _ hc hil, if_pos hci, if_neg (show j ≠ i by omega), if_neg (show j ≠ c by omega)]
    have := h.1 j h0 hj (by omega)
    rwa [hpj] at this
end Go.Proofs.Ytjjphiecjhijiaa
