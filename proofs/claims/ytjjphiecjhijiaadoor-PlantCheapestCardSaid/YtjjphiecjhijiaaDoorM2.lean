import Derived.Test.YtjjphiecjhijiaaDoorS1
namespace Go.Proofs.YtjjphiecjhijiaaDoor
open Go.RowKit

theorem snocI {α : Type} {Q : List α → Prop} (h0 : Q []) (h1 : ∀ l x, Q l → Q (l ++ [x])) : ∀ l, Q l := by
  intro l
  generalize hn : l.length = n
  induction n generalizing l with
  | zero => obtain rfl := List.length_eq_zero_iff.1 hn; exact h0
  | succ n ih =>
    rcases List.eq_nil_or_concat l with rfl | ⟨l', x, rfl⟩
    · simp at hn
    · rw [List.concat_eq_append]
      exact h1 _ _ (ih _ (by simpa using hn))
/-- The numbers of a set, from the least on. -/
def elems (s : Nat) : List Nat := (List.range 64).filter s.testBit
theorem elems_mem {s i : Nat} (hs : s < 18446744073709551616) : i ∈ elems s ↔ s.testBit i = true := by
  unfold elems
  rw [List.mem_filter]
  constructor
  · exact fun h => h.2
  · intro h
    refine ⟨?_, h⟩
    rw [List.mem_range]
    apply Nat.lt_of_not_le
    intro hle
    have h2 : 2 ^ 64 ≤ 2 ^ i := Nat.pow_le_pow_right (by decide) hle
    rw [Nat.testBit_lt_two_pow (by omega)] at h
    cases h
theorem elems_nodup (s : Nat) : (elems s).Nodup := List.Nodup.sublist List.filter_sublist List.nodup_range
theorem elems_zero : elems 0 = [] := by simp [elems]
theorem elems_ne {s : Nat} (h : s ≠ 0) (hs : s < 18446744073709551616) : elems s ≠ [] := by
  intro e
  have := (elems_mem (i := low s) hs).2 (low_spec s h hs).1
  rw [e] at this; simp at this
theorem elems_clr {s i : Nat} (hi : i < 64) (hs : s < 18446744073709551616) : elems (clr s i) = (elems s).filter (fun j => !decide (j = i)) := by
  unfold elems
  rw [List.filter_filter]
  apply List.filter_congr
  intro j _
  rw [clr_bit s i j hi hs, Bool.and_comm]
theorem filter_erase {l : List Nat} (hd : l.Nodup) (i : Nat) : l.filter (fun j => !decide (j = i)) = l.erase i := by
  rw [hd.erase_eq_filter]
  apply List.filter_congr
  intro j _
  by_cases h : j = i <;> simp [h]
theorem elems_erase {s i : Nat} (hi : i < 64) (hs : s < 18446744073709551616) : elems (clr s i) = (elems s).erase i := by
  rw [elems_clr hi hs, filter_erase (elems_nodup s)]
/-- The numbers of a set: the least, and those of the rest. -/
theorem elems_low {s : Nat} (h0 : s ≠ 0) (hs : s < 18446744073709551616) : elems s = low s :: elems (clr s (low s)) := by
  have hl := low_lt s h0 hs
  obtain ⟨h1, h2⟩ := low_spec s h0 hs
  have key : ∀ n k, k + n = 64 → k ≤ low s → (List.range' k n).filter s.testBit = low s :: (List.range' k n).filter (clr s (low s)).testBit := by
    intro n
    induction n with
    | zero => intro k e hk; omega
    | succ n ih =>
      intro k e hk
      rw [List.range'_succ, List.filter_cons, List.filter_cons]
      by_cases e2 : k = low s
      · rw [e2, h1, clr_bit s _ _ hl hs]
        simp only [if_true, decide_true, Bool.not_true, Bool.and_false, Bool.false_eq_true, if_false]
        congr 1
        apply List.filter_congr
        intro j hj
        have := List.mem_range'_1.1 hj
        rw [clr_bit s _ _ hl hs]
        simp; intro _; omega
      · rw [h2 k (by omega), clr_bit s _ _ hl hs, h2 k (by omega)]
        simp only [Bool.false_and, Bool.false_eq_true, if_false]
        exact ih (k + 1) (by omega) (by omega)
  have := key 64 0 rfl (Nat.zero_le _)
  rw [elems, elems, List.range_eq_range']
  exact this
theorem elems_lt {s n i : Nat} (hs : s < 2 ^ n) (hn : n ≤ 64) (h : i ∈ elems s) : i < n := by
  have hs64 : s < 18446744073709551616 := Nat.lt_of_lt_of_le hs (show 2 ^ n ≤ 2 ^ 64 from Nat.pow_le_pow_right (by decide) hn)
  have hb := (elems_mem hs64).1 h
  apply Nat.lt_of_not_le
  intro hle
  have h2 : 2 ^ n ≤ 2 ^ i := Nat.pow_le_pow_right (by decide) hle
  rw [Nat.testBit_lt_two_pow (by omega)] at hb
  cases hb
theorem elems_full (n : Nat) (hn : n ≤ 64) : elems (2 ^ n - 1) = List.range n := by
  unfold elems
  have e : 64 = n + (64 - n) := by omega
  rw [e, List.range_add, List.filter_append]
  have h1 : (List.range n).filter (2 ^ n - 1).testBit = List.range n := by
    rw [List.filter_eq_self]
    intro i hi
    rw [Nat.testBit_two_pow_sub_one]
    simpa using hi
  have h2 : (List.map (fun x => n + x) (List.range (64 - n))).filter (2 ^ n - 1).testBit = [] := by
    rw [List.filter_eq_nil_iff]
    intro i hi
    obtain ⟨j, _, rfl⟩ := List.mem_map.1 hi
    rw [Nat.testBit_two_pow_sub_one]
    simp
  rw [h1, h2, List.append_nil]
theorem low_mem {s : Nat} (h0 : s ≠ 0) (hs : s < 18446744073709551616) : low s ∈ elems s := (elems_mem hs).2 (low_spec s h0 hs).1

/-- How much two stones differ. -/
def absI (n : Int) : Int := max n (-n)
def mark (lm : List (Int × Int)) (i : Nat) : Int × Int := lm.getD i (0, 0)
def difM (lm : List (Int × Int)) (a b : Nat) : Int := absI ((mark lm a).1 - (mark lm b).1) + absI ((mark lm a).2 - (mark lm b).2)
/-- One more stone that may go with the first one. -/
def stepB (acc : Int × Nat) (s : Int) (b : Nat) : Int × Nat := if acc.1 < 0 ∨ s < acc.1 then (s, b) else acc
/-- The least sum of n pairs of these stones, and what goes with the first one. -/
def mB (lm : List (Int × Int)) : Nat → List Nat → Int × Nat
  | 0, _ => (0, 0)
  | _ + 1, [] => (0, 0)
  | n + 1, a :: rest => rest.foldl (fun acc b => stepB acc ((mB lm n (rest.erase b)).1 + difM lm a b) b) (-1, 0)
def mOk (lm : List (Int × Int)) : Prop := ∀ i, 0 ≤ (mark lm i).1 ∧ (mark lm i).1 ≤ 1000000 ∧ 0 ≤ (mark lm i).2 ∧ (mark lm i).2 ≤ 1000000
theorem dif_bd {lm : List (Int × Int)} (h : mOk lm) (a b : Nat) : 0 ≤ difM lm a b ∧ difM lm a b ≤ 2000000 := by
  have := h a; have := h b
  unfold difM absI; omega
/-- The fold over some of the stones. -/
def foldB (lm : List (Int × Int)) (n a : Nat) (rest pre : List Nat) : Int × Nat := pre.foldl (fun acc b => stepB acc ((mB lm n (rest.erase b)).1 + difM lm a b) b) (-1, 0)
theorem foldB_snoc (lm : List (Int × Int)) (n a : Nat) (rest pre : List Nat) (b : Nat) : foldB lm n a rest (pre ++ [b]) = stepB (foldB lm n a rest pre) ((mB lm n (rest.erase b)).1 + difM lm a b) b := by simp [foldB]
theorem mB_bd {lm : List (Int × Int)} (h : mOk lm) : ∀ (n : Nat) (l : List Nat), l.length = 2 * n → 0 ≤ (mB lm n l).1 ∧ (mB lm n l).1 ≤ n * 2000000 := by
  intro n
  induction n with
  | zero => intro l _; simp [mB]
  | succ n ih =>
    intro l hl
    cases l with
    | nil => simp at hl
    | cons a rest =>
      have key : ∀ (pre : List Nat), (∀ b ∈ pre, b ∈ rest) → (pre = [] ∧ foldB lm n a rest pre = (-1, 0)) ∨ (0 ≤ (foldB lm n a rest pre).1 ∧ (foldB lm n a rest pre).1 ≤ (n + 1 : Nat) * 2000000) := by
        refine snocI ?_ ?_
        · intro _; exact .inl ⟨rfl, rfl⟩
        · intro pre b ihp hm
          have hb := ih (rest.erase b) (by rw [List.length_erase_of_mem (hm b (by simp))]; simp at hl; omega)
          have hd := dif_bd h a b
          rw [foldB_snoc]
          refine .inr ?_
          unfold stepB
          rcases ihp (fun x hx => hm x (by simp [hx])) with ⟨_, e⟩ | e
          · rw [e]; simp; omega
          · split
            · simp only; omega
            · exact e
      have := key rest (fun _ h => h)
      rcases this with ⟨rfl, _⟩ | h
      · simp at hl; omega
      · exact h
theorem foldB_bd {lm : List (Int × Int)} (h : mOk lm) (n a : Nat) (rest pre : List Nat) (hl : rest.length = 2 * n + 1) : (∀ b ∈ pre, b ∈ rest) → -1 ≤ (foldB lm n a rest pre).1 ∧ (foldB lm n a rest pre).1 ≤ (n + 1 : Nat) * 2000000 := by
  refine snocI (Q := fun pre => (∀ b ∈ pre, b ∈ rest) → -1 ≤ (foldB lm n a rest pre).1 ∧ (foldB lm n a rest pre).1 ≤ (n + 1 : Nat) * 2000000) ?_ ?_ pre
  · intro _; simp [foldB]; omega
  · intro pre b ihp hm
    have hb := mB_bd h n (rest.erase b) (by rw [List.length_erase_of_mem (hm b (by simp))]; omega)
    have hd := dif_bd h a b
    have := ihp (fun x hx => hm x (by simp [hx]))
    rw [foldB_snoc]
    unfold stepB
    split
    · simp only; omega
    · exact this
end Go.Proofs.YtjjphiecjhijiaaDoor
