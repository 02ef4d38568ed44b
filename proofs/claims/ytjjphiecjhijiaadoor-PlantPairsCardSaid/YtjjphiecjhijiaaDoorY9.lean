/- The best pairs: no other pairs have a lesser sum, and the order of the stones does not count; besomlaw12.PlantPairs walked. -/
import Derived.Test.YtjjphiecjhijiaaDoorN3
import Derived.Test.YtjjphiecjhijiaaDoorP9
import Derived.Test.YtjjphiecjhijiaaDoorV1
import Derived.BigRegion
/- The plain law of pairs: no other pairs have a lesser sum, and the order of the stones does not count. -/
namespace Go.Proofs.YtjjphiecjhijiaaDoor
open Go.RowKit

/-- The sum of stones, pair by pair. -/
def sumP (lm : List (Int × Int)) : List Nat → Int
  | a :: b :: r => difM lm a b + sumP lm r
  | _ => 0
theorem dif_comm (lm : List (Int × Int)) (a b : Nat) : difM lm a b = difM lm b a := by unfold difM absI; omega
theorem two_ind {α : Type} {P : List α → Prop} (h0 : P []) (h1 : ∀ a, P [a]) (h2 : ∀ a b r, P r → P (a :: b :: r)) : ∀ l, P l
  | [] => h0
  | [a] => h1 a
  | a :: b :: r => h2 a b r (two_ind h0 h1 h2 r)
theorem sumP_bd {lm : List (Int × Int)} (hm : mOk lm) (l : List Nat) : 0 ≤ sumP lm l ∧ sumP lm l ≤ l.length * 1000000 := by
  induction l using two_ind with
  | h0 => simp [sumP]
  | h1 a => simp [sumP]
  | h2 a b r ih =>
    have := dif_bd hm a b
    simp only [sumP, List.length_cons]
    push_cast
    omega
theorem sumP_snoc (lm : List (Int × Int)) (l : List Nat) (x : Nat) : sumP lm (l ++ [x]) = sumP lm l + if l.length % 2 = 1 then difM lm (l.getD (l.length - 1) 0) x else 0 := by
  induction l using two_ind with
  | h0 => simp [sumP]
  | h1 a => simp [sumP]
  | h2 a b r ih =>
    simp only [List.cons_append, sumP, ih, List.length_cons]
    have e1 : (r.length + 1 + 1) % 2 = r.length % 2 := by omega
    rw [e1]
    by_cases h : r.length % 2 = 1
    · rw [if_pos h, if_pos h]
      have e2 : r.length + 1 + 1 - 1 = (r.length - 1) + 1 + 1 := by omega
      rw [e2, List.getD_cons_succ, List.getD_cons_succ]
      omega
    · rw [if_neg h, if_neg h]; omega
theorem sumP_map {lm lm' : List (Int × Int)} (f : Nat → Nat) (l : List Nat) (h : ∀ x ∈ l, mark lm' (f x) = mark lm x) : sumP lm' (l.map f) = sumP lm l := by
  induction l using two_ind with
  | h0 => rfl
  | h1 a => rfl
  | h2 a b r ih =>
    simp only [List.map_cons, sumP]
    rw [ih (fun x hx => h x (by simp [hx]))]
    unfold difM
    rw [h a (by simp), h b (by simp)]
/-- The pair of a stone. -/
theorem pair_of (lm : List (Int × Int)) (a : Nat) (l : List Nat) : l.length % 2 = 0 → a ∈ l → ∃ b r, l.Perm (a :: b :: r) ∧ sumP lm l = difM lm a b + sumP lm r ∧ r.length % 2 = 0 := by
  induction l using two_ind with
  | h0 => intro _ h; cases h
  | h1 a => intro h; simp at h
  | h2 x y r ih =>
    intro hl ha
    have hr : r.length % 2 = 0 := by simp at hl; omega
    by_cases hx : a = x
    · subst hx
      exact ⟨y, r, List.Perm.refl _, rfl, hr⟩
    · by_cases hy : a = y
      · subst hy
        exact ⟨x, r, List.Perm.swap _ _ _, by rw [dif_comm]; rfl, hr⟩
      · have har : a ∈ r := by simpa [hx, hy] using ha
        obtain ⟨b, r', h1, h2, h3⟩ := ih hr har
        refine ⟨b, x :: y :: r', ?_, ?_, by simp; omega⟩
        · refine ((h1.cons y).cons x).trans ?_
          have e1 : (x :: y :: a :: b :: r').Perm (a :: b :: x :: y :: r') := by
            have : ([x, y] ++ ([a, b] ++ r')).Perm ([a, b] ++ ([x, y] ++ r')) := by
              rw [← List.append_assoc, ← List.append_assoc]
              exact List.Perm.append_right _ List.perm_append_comm
            simpa using this
          exact e1
        · simp only [sumP, h2]; omega
theorem foldB_min {lm : List (Int × Int)} (hm : mOk lm) (n a : Nat) (rest : List Nat) (hl : rest.length = 2 * n + 1) (pre : List Nat) : (∀ b ∈ pre, b ∈ rest) → (pre ≠ [] → 0 ≤ (foldB lm n a rest pre).1 ∧ (foldB lm n a rest pre).1 = (mB lm n (rest.erase (foldB lm n a rest pre).2)).1 + difM lm a (foldB lm n a rest pre).2) ∧ ∀ b ∈ pre, (foldB lm n a rest pre).1 ≤ (mB lm n (rest.erase b)).1 + difM lm a b := by
  refine snocI (Q := fun pre => (∀ b ∈ pre, b ∈ rest) → (pre ≠ [] → 0 ≤ (foldB lm n a rest pre).1 ∧ (foldB lm n a rest pre).1 = (mB lm n (rest.erase (foldB lm n a rest pre).2)).1 + difM lm a (foldB lm n a rest pre).2) ∧ ∀ b ∈ pre, (foldB lm n a rest pre).1 ≤ (mB lm n (rest.erase b)).1 + difM lm a b) ?_ ?_ pre
  · intro _; simp
  · intro pre b ih hp
    have h1 := ih (fun x hx => hp x (by simp [hx]))
    have hb := mB_bd hm n (rest.erase b) (by rw [List.length_erase_of_mem (hp b (by simp))]; omega)
    have hd := dif_bd hm a b
    rw [foldB_snoc]
    unfold stepB
    by_cases hc : (foldB lm n a rest pre).1 < 0 ∨ (mB lm n (rest.erase b)).1 + difM lm a b < (foldB lm n a rest pre).1
    · rw [if_pos hc]
      refine ⟨fun _ => ⟨by simp only; omega, rfl⟩, fun x hx => ?_⟩
      simp only
      rcases List.mem_append.1 hx with hx | hx
      · have h2 := h1.2 x hx
        have h3 := (h1.1 (by rintro rfl; cases hx)).1
        omega
      · simp at hx; rw [hx]; omega
    · rw [if_neg hc]
      have hne : pre ≠ [] := by rintro rfl; exact hc (.inl (by simp [foldB]))
      refine ⟨fun _ => h1.1 hne, fun x hx => ?_⟩
      rcases List.mem_append.1 hx with hx | hx
      · exact h1.2 x hx
      · simp at hx; rw [hx]; omega
/-- No other pairs have a lesser sum. -/
theorem mB_le {lm : List (Int × Int)} (hm : mOk lm) : ∀ (n : Nat) (ord left : List Nat), ord.Perm left → left.length = 2 * n → (mB lm n left).1 ≤ sumP lm ord := by
  intro n
  induction n with
  | zero =>
    intro ord left hp hl
    obtain rfl : left = [] := List.length_eq_zero_iff.1 (by omega)
    obtain rfl := hp.eq_nil
    simp [mB, sumP]
  | succ n ih =>
    intro ord left hp hl
    cases left with
    | nil => simp at hl
    | cons a rest =>
      obtain ⟨b, r, h1, h2, -⟩ := pair_of lm a ord (by rw [hp.length_eq]; omega) (hp.mem_iff.2 (by simp))
      have hbr : (b :: r).Perm rest := (List.perm_cons a).1 (h1.symm.trans hp)
      have hb : b ∈ rest := hbr.mem_iff.1 (by simp)
      have hrl : rest.length = 2 * n + 1 := by simp at hl; omega
      have hre : r.Perm (rest.erase b) := by
        have := hbr.erase b
        rwa [List.erase_cons_head] at this
      have h3 := ih r (rest.erase b) hre (by rw [List.length_erase_of_mem hb]; omega)
      have h4 := (foldB_min hm n a rest hrl rest (fun _ h => h)).2 b hb
      have h5 : (mB lm (n + 1) (a :: rest)).1 = (foldB lm n a rest rest).1 := rfl
      omega
/-- The stones in the order of the best pairs. -/
def ordL (lm : List (Int × Int)) : Nat → List Nat → List Nat
  | 0, _ => []
  | _ + 1, [] => []
  | n + 1, a :: rest => a :: (mB lm (n + 1) (a :: rest)).2 :: ordL lm n (rest.erase (mB lm (n + 1) (a :: rest)).2)
theorem ordL_ok {lm : List (Int × Int)} (hm : mOk lm) : ∀ (n : Nat) (left : List Nat), left.length = 2 * n → (ordL lm n left).Perm left ∧ sumP lm (ordL lm n left) = (mB lm n left).1 := by
  intro n
  induction n with
  | zero =>
    intro left hl
    obtain rfl : left = [] := List.length_eq_zero_iff.1 (by omega)
    exact ⟨List.Perm.refl _, rfl⟩
  | succ n ih =>
    intro left hl
    cases left with
    | nil => simp at hl
    | cons a rest =>
      have hb := mB_with hm n a rest hl
      have hrl : rest.length = 2 * n + 1 := by simp at hl; omega
      obtain ⟨h1, h2⟩ := ih (rest.erase (mB lm (n + 1) (a :: rest)).2) (by rw [List.length_erase_of_mem hb]; omega)
      have h3 := ((foldB_min hm n a rest hrl rest (fun _ h => h)).1 (by rintro rfl; simp at hrl)).2
      have h5 : mB lm (n + 1) (a :: rest) = foldB lm n a rest rest := rfl
      refine ⟨?_, ?_⟩
      · refine List.Perm.cons a ((h1.cons _).trans ?_)
        exact (List.perm_cons_erase hb).symm
      · rw [ordL, sumP, h2]
        rw [← h5] at h3
        omega
theorem pairsL_ord (lm : List (Int × Int)) : ∀ (n : Nat) (left : List Nat), left.length = 2 * n → mOk lm → (pairsL lm n left).length = n ∧ ∀ i, i < n → (pairsL lm n left)[i]? = some (((ordL lm n left).getD (2 * i) 0 : Int), ((ordL lm n left).getD (2 * i + 1) 0 : Int)) := by
  intro n
  induction n with
  | zero => intro left hl hm; exact ⟨rfl, by omega⟩
  | succ n ih =>
    intro left hl hm
    cases left with
    | nil => simp at hl
    | cons a rest =>
      have hb := mB_with hm n a rest hl
      obtain ⟨h1, h2⟩ := ih (rest.erase (mB lm (n + 1) (a :: rest)).2) (by rw [List.length_erase_of_mem hb]; simp at hl; omega) hm
      refine ⟨by simp [pairsL, h1], fun i hi => ?_⟩
      cases i with
      | zero => simp [pairsL, ordL]
      | succ i =>
        have := h2 i (by omega)
        rw [pairsL, List.getElem?_cons_succ, this]
        have e1 : 2 * (i + 1) = (2 * i) + 1 + 1 := by omega
        have e2 : 2 * (i + 1) + 1 = (2 * i + 1) + 1 + 1 := by omega
        rw [e2, e1, ordL, List.getD_cons_succ, List.getD_cons_succ, List.getD_cons_succ, List.getD_cons_succ]
theorem ordL_sorted {lm : List (Int × Int)} (hm : mOk lm) : ∀ (n : Nat) (left : List Nat), left.length = 2 * n → left.Pairwise (· < ·) → ∀ i, i < n → (ordL lm n left).getD (2 * i) 0 < (ordL lm n left).getD (2 * i + 1) 0 ∧ (0 < i → (ordL lm n left).getD (2 * (i - 1)) 0 < (ordL lm n left).getD (2 * i) 0) := by
  intro n
  induction n with
  | zero => intro left hl hs i hi; omega
  | succ n ih =>
    intro left hl hs i hi
    cases left with
    | nil => simp at hl
    | cons a rest =>
      have hb := mB_with hm n a rest hl
      obtain ⟨hs1, hs2⟩ := List.pairwise_cons.1 hs
      have hle : (rest.erase (mB lm (n + 1) (a :: rest)).2).length = 2 * n := by rw [List.length_erase_of_mem hb]; simp at hl; omega
      have hp := (ordL_ok hm n _ hle).1
      have h2 := ih (rest.erase (mB lm (n + 1) (a :: rest)).2) hle (List.Pairwise.sublist List.erase_sublist hs2)
      cases i with
      | zero => exact ⟨by simpa [ordL] using hs1 _ hb, by omega⟩
      | succ i =>
        have e1 : 2 * (i + 1) = (2 * i) + 1 + 1 := by omega
        have e2 : 2 * (i + 1) + 1 = (2 * i + 1) + 1 + 1 := by omega
        have h3 := h2 i (by omega)
        rw [e2, e1, ordL, List.getD_cons_succ, List.getD_cons_succ, List.getD_cons_succ, List.getD_cons_succ]
        refine ⟨h3.1, fun _ => ?_⟩
        rw [Nat.add_sub_cancel]
        cases i with
        | zero =>
          simp only [Nat.mul_zero, List.getD_cons_zero]
          apply hs1
          apply List.mem_of_mem_erase (b := (mB lm (n + 1) (a :: rest)).2)
          rw [← hp.mem_iff]
          have hl0 : 0 < (ordL lm n (rest.erase (mB lm (n + 1) (a :: rest)).2)).length := by rw [hp.length_eq]; omega
          rw [List.getD_eq_getElem?_getD, List.getElem?_eq_getElem hl0]
          exact List.getElem_mem _
        | succ i =>
          have h4 := h3.2 (by omega)
          rw [Nat.add_sub_cancel] at h4
          rw [show 2 * (i + 1) = (2 * i) + 1 + 1 by omega, List.getD_cons_succ, List.getD_cons_succ]
          rw [show 2 * i + 1 + 1 = 2 * (i + 1) by omega]
          exact h4
/-- The order of the stones does not count. -/
theorem mB_turned {lm : List (Int × Int)} (hm : mOk lm) (n : Nat) (ord : List Nat) (hp : ord.Perm (List.range (2 * n))) : (mB (ord.map (mark lm)) n (List.range (2 * n))).1 = (mB lm n (List.range (2 * n))).1 := by
  have hol : ord.length = 2 * n := by rw [hp.length_eq]; simp
  have hnd : ord.Nodup := hp.nodup_iff.2 List.nodup_range
  have hmk : ∀ i (h : i < ord.length), mark (ord.map (mark lm)) i = mark lm ord[i] := by
    intro i h
    conv => lhs; unfold mark
    rw [List.getD_eq_getElem?_getD, List.getElem?_map, List.getElem?_eq_getElem h]
    rfl
  have hm' : mOk (ord.map (mark lm)) := by
    intro i
    by_cases h : i < ord.length
    · rw [hmk i h]; exact hm _
    · unfold mark
      rw [List.getD_eq_getElem?_getD, List.getElem?_eq_none (by simpa using h)]
      simp
  apply Int.le_antisymm
  · obtain ⟨h1, h2⟩ := ordL_ok hm n (List.range (2 * n)) (by simp)
    rw [← h2]
    have hmem : ∀ x ∈ ordL lm n (List.range (2 * n)), x ∈ ord := fun x hx => hp.mem_iff.2 (h1.mem_iff.1 hx)
    have hmap : sumP (ord.map (mark lm)) ((ordL lm n (List.range (2 * n))).map fun x => ord.idxOf x) = sumP lm (ordL lm n (List.range (2 * n))) := by
      apply sumP_map
      intro x hx
      have hx := hmem x hx
      rw [hmk _ (List.idxOf_lt_length_iff.2 hx)]
      congr 1
      exact List.getElem_idxOf _
    rw [← hmap]
    apply mB_le hm' n _ _ ?_ (by simp)
    refine ((h1.trans hp.symm).map fun x => ord.idxOf x).trans (List.Perm.of_eq ?_)
    apply List.ext_getElem
    · simp [hol]
    · intro i h3 h4
      rw [List.getElem_map, List.getElem_range]
      exact hnd.idxOf_getElem i _
  · obtain ⟨h1, h2⟩ := ordL_ok hm' n (List.range (2 * n)) (by simp)
    rw [← h2]
    have hmap : sumP lm ((ordL (ord.map (mark lm)) n (List.range (2 * n))).map fun i => ord.getD i 0) = sumP (ord.map (mark lm)) (ordL (ord.map (mark lm)) n (List.range (2 * n))) := by
      apply sumP_map
      intro x hx
      have hx : x < ord.length := by have := h1.mem_iff.1 hx; simp at this; omega
      rw [hmk x hx, List.getD_eq_getElem?_getD, List.getElem?_eq_getElem hx]
      rfl
    rw [← hmap]
    apply mB_le hm n _ _ ?_ (by simp)
    refine (h1.map fun i => ord.getD i 0).trans ?_
    refine List.Perm.trans (List.Perm.of_eq ?_) hp
    apply List.ext_getElem
    · simp [hol]
    · intro i h3 h4
      rw [List.getElem_map, List.getElem_range, List.getD_eq_getElem?_getD, List.getElem?_eq_getElem h4]
      rfl
/-- What a round over the best pairs meets. -/
theorem pairs_round {lm : List (Int × Int)} (hm : mOk lm) (n k : Nat) (hk : k < n) (O : List Nat) (hO : O = ordL lm n (List.range (2 * n))) (A B : Nat) (hA : A = O.getD (2 * k) 0) (hB : B = O.getD (2 * k + 1) 0) :
    (pairsL lm n (List.range (2 * n)))[k]? = some ((A : Int), (B : Int)) ∧ A < B ∧ B < 2 * n ∧ (0 < k → O.getD (2 * (k - 1)) 0 < A) ∧ A ∉ O.take (2 * k) ∧ B ∉ O.take (2 * k) ∧ O.take (2 * (k + 1)) = O.take (2 * k) ++ [A] ++ [B] ∧ sumP lm (O.take (2 * (k + 1))) = sumP lm (O.take (2 * k)) + difM lm A B := by
  have hr : (List.range (2 * n)).length = 2 * n := by simp
  have hp := (ordL_ok hm n (List.range (2 * n)) hr).1
  have hs := ordL_sorted hm n (List.range (2 * n)) hr List.pairwise_lt_range k hk
  have h1 := (pairsL_ord lm n (List.range (2 * n)) hr hm).2 k hk
  rw [← hO] at hp hs h1
  rw [← hA, ← hB] at h1 hs
  have hl : O.length = 2 * n := by rw [hp.length_eq]; simp
  have hnd : O.Nodup := hp.nodup_iff.2 List.nodup_range
  have eA : A = O[2 * k]'(by omega) := by rw [hA, List.getD_eq_getElem?_getD, List.getElem?_eq_getElem (by omega)]; rfl
  have eB : B = O[2 * k + 1]'(by omega) := by rw [hB, List.getD_eq_getElem?_getD, List.getElem?_eq_getElem (by omega)]; rfl
  have hno : ∀ i (hi : i < O.length), 2 * k ≤ i → O[i] ∉ O.take (2 * k) := by
    intro i hi hle hmem
    obtain ⟨j, hj, e⟩ := List.getElem_of_mem hmem
    rw [List.getElem_take] at e
    have hj' : j < 2 * k := by simp at hj; omega
    exact List.pairwise_iff_getElem.1 hnd j i _ hi (by omega) e
  have ht : O.take (2 * (k + 1)) = O.take (2 * k) ++ [A] ++ [B] := by
    rw [show 2 * (k + 1) = 2 * k + 1 + 1 by omega, List.take_succ_eq_append_getElem (by omega), List.take_succ_eq_append_getElem (by omega), ← eA, ← eB]
  refine ⟨h1, hs.1, ?_, hs.2, by rw [eA]; exact hno _ _ (Nat.le_refl _), by rw [eB]; exact hno _ _ (by omega), ht, ?_⟩
  · have : B ∈ O := by rw [eB]; exact List.getElem_mem _
    simpa using hp.mem_iff.1 this
  · have hlt : (O.take (2 * k)).length = 2 * k := by simp; omega
    rw [ht, sumP_snoc, sumP_snoc, if_neg (by rw [hlt]; omega), if_pos (by simp only [List.length_append, hlt, List.length_singleton]; omega)]
    have : (O.take (2 * k) ++ [A]).getD ((O.take (2 * k) ++ [A]).length - 1) 0 = A := by
      rw [List.getD_eq_getElem?_getD, List.length_append, List.length_singleton, Nat.add_sub_cancel, List.getElem?_append_right (Nat.le_refl _)]
      simp
    rw [this]; omega
/-- One more stone in the order. -/
theorem order_round {ord : List Nat} {k : Nat} (hp : ord.Perm (List.range k)) (at' : Nat) : (ord.take at' ++ [k] ++ ord.drop at').Perm (List.range (k + 1)) := by
  rw [List.range_succ]
  refine List.Perm.trans ?_ (hp.append_right [k])
  have h1 : (ord.take at' ++ [k] ++ ord.drop at').Perm (ord.take at' ++ (ord.drop at' ++ [k])) := by
    rw [List.append_assoc]
    exact List.Perm.append_left _ List.perm_append_comm
  refine h1.trans (List.Perm.of_eq ?_)
  rw [← List.append_assoc, List.take_append_drop]
theorem other_round (lm : List (Int × Int)) (ord : List Nat) (k : Nat) (hk : k < ord.length) : sumP lm (ord.take (k + 1)) = sumP lm (ord.take k) + if k % 2 = 1 then difM lm (ord.getD (k - 1) 0) ord[k] else 0 := by
  have hl : (ord.take k).length = k := by simp; omega
  rw [List.take_succ_eq_append_getElem hk, sumP_snoc, hl]
  by_cases h : k % 2 = 1
  · rw [if_pos h, if_pos h]
    congr 2
    rw [List.getD_eq_getElem?_getD, List.getD_eq_getElem?_getD, List.getElem?_take_of_lt (by omega)]
  · rw [if_neg h, if_neg h]
end Go.Proofs.YtjjphiecjhijiaaDoor
/- Slices of bytes, a set of numbers in a map, an append of ints at a plain step. -/
namespace Go.Proofs.YtjjphiecjhijiaaDoor
open Go.RowKit Go.Maps

theorem wpList_append_ints {ops : Array Oper} {rest : List Oper} {o : Oper} {a : Act} {Q : Exit → Act → World → Prop} (w : World) (hgd : o.guard = none) (s x : Operand)
    (ho : o.op = .call { callee := .builtin .append, args := #[s, x], argTypes := #[22, 22] }) (base : Nat) (v : Value) (n : Nat) (xs : List Value) (hs : a.eval s = v) (hown : w.ownsRow base 3 1 v n xs)
    (rv : Value) (row : List Int) (hx : a.eval x = rv) (hr : SlI w rv row) (hsm : n + row.length ≤ 1000) (hbase : base ≤ w.heap.size) (N : Nat) (ys : List Value) (hN : n + row.length = N) (hys : xs ++ row.map (.int .i64) = ys)
    (h : ∀ v' w', w'.ownsRow base 3 1 v' N ys → w.grownBy w' v.ownBlock → wpList Tryd.prog ops Q rest (a.put o.dst v') w') : wpList Tryd.prog ops Q (o :: rest) a w :=
  wpList_plain hgd fun _ hK => wp_append_ints w s x ho base v n xs hs hown rv row hx hr hsm hbase N ys hN hys fun v' w' h1 h2 => hK _ _ (h v' w' h1 h2)

/-- A slice of bytes. -/
def SlB (w : World) (v : Value) (l : List Int) : Prop := SlV w v l.length (l.map (.int .u8)) ∧ ∀ x ∈ l, 0 ≤ x ∧ x ≤ 255
theorem SlB.below {w w' : World} {v : Value} {l : List Int} (h : SlB w v l) (hb : Below w.heap.size w w') : SlB w' v l := ⟨h.1.below hb, h.2⟩
theorem SlB.open {w : World} {v : Value} {l : List Int} (h : SlB w v l) :
    ∃ a cap, v = .slice a l.length cap ∧ l.length ≤ 140737488351232 ∧ ∀ k (hk : k < l.length), ∃ b off, a = some ⟨b, off, none⟩ ∧ b < w.heap.size ∧ w.cell? ⟨b, off + k, none⟩ = some (.int .u8 l[k]) ∧ 0 ≤ l[k] ∧ l[k] ≤ 255 := by
  obtain ⟨⟨a, cap, rfl, hn, hc⟩, hx⟩ := h
  refine ⟨a, cap, rfl, hn, fun k hk => ?_⟩
  rcases hc with hc | ⟨b, off, rfl, hlt, hc⟩
  · omega
  · exact ⟨b, off, rfl, hlt, by have := hc k (by simpa using hk); simpa using this, hx _ (List.getElem_mem _)⟩

/-- A map from numbers to truth: those of a list are in it, each with true. -/
def SeenF (w : World) (b : Nat) (l : List Int) : Prop := ∃ M, MapF encI w b M ∧ (∀ k, (M k).isSome = decide (k ∈ l)) ∧ ∀ k v, M k = some v → v = .bool true
theorem SeenF.below {w w' : World} {b : Nat} {l : List Int} (h : SeenF w b l) (hb : Below w.heap.size w w') : SeenF w' b l := by
  obtain ⟨M, h1, h2, h3⟩ := h
  exact ⟨M, h1.below' hb, h2, h3⟩
theorem SeenF.lt {w : World} {b : Nat} {l : List Int} (h : SeenF w b l) : b < w.heap.size := by obtain ⟨M, h1, _⟩ := h; exact h1.lt
theorem SeenF.made (w : World) : SeenF (w.alloc (.map #[] 0)) w.heap.size [] := ⟨_, MapF.made w, fun k => by simp, fun k v h => by cases h⟩
theorem zero4 (w : World) : (zeroValue 4).run Tryd.prog w = .ok (.bool false) w := by
  have h : (Tryd.prog.info? 4).map (fun i => (i.zero, i.size, i.bytes)) = some (some (.bool false), 1, 1) := by kernel_rfl
  obtain ⟨i0, hi, hz0, hz1, hz2⟩ := info_parts h
  simp [zeroValue, typeInfo, hi, hz0, go_sem]
theorem SeenF.look {w : World} {b : Nat} {l : List Int} (h : SeenF w b l) (k : Int) : (Instr.lookup 48 (.map (some b)) (.int .i64 k) false).run Tryd.prog w = .ok (.bool (decide (k ∈ l))) w := by
  obtain ⟨M, h1, h2, h3⟩ := h
  have hl := MapF.lookup keyI3 Tryd.underlying48 h1 (zero4 w) k
  have h4 := h2 k
  cases e : M k with
  | none => rw [e] at hl h4; rw [← h4]; exact hl
  | some v =>
    rw [e] at hl h4
    rw [← h4]
    rw [h3 k v e] at hl
    exact hl
theorem SeenF.add {w : World} {b : Nat} {l : List Int} (h : SeenF w b l) (k : Int) :
    ∃ w', (Instr.mapUpdate 48 (.map (some b)) (.int .i64 k) (.bool true)).run Tryd.prog w = .ok () w' ∧ SeenF w' b (l ++ [k]) ∧ w.grownBy w' (some b) ∧ w'.heap.size = w.heap.size := by
  obtain ⟨M, h1, h2, h3⟩ := h
  obtain ⟨w', hr, hm, hg, hs⟩ := h1.update keyI3 Tryd.underlying48 k (.bool true)
  refine ⟨w', hr, ⟨_, hm, ?_, ?_⟩, hg, hs⟩
  · intro k'
    by_cases e : k' = k
    · simp [e]
    · simp [e, h2]
  · intro k' v hv
    by_cases e : k' = k
    · simp [e] at hv; exact hv.symm
    · simp [e] at hv; exact h3 k' v hv
end Go.Proofs.YtjjphiecjhijiaaDoor
/- besomlaw12.PlantPairs walked. -/
namespace Go.Proofs.YtjjphiecjhijiaaDoor
open Go.RowKit Go.Maps
attribute [local go_sem] alloc_drewN setCell_drewN

def castL (l : List Nat) : List Int := l.map fun (x : Nat) => (x : Int)
theorem castL_mem {l : List Nat} {a : Nat} : (a : Int) ∈ castL l ↔ a ∈ l := by
  unfold castL
  constructor
  · intro h
    obtain ⟨x, hx, e⟩ := List.mem_map.1 h
    have : x = a := by omega
    rw [← this]; exact hx
  · intro h; exact List.mem_map.2 ⟨a, h, rfl⟩

theorem bel_new {w : World} (o : Obj) : Below w.heap.size w (w.alloc o) := (Below.refl _ _).alloc (Nat.le_refl _) _
theorem own_lower {w : World} {b b' : Nat} {t : TypeId} {sz n : Nat} {v : Value} {xs : List Value} (h : w.ownsRow b t sz v n xs) (hb : b' ≤ b) : w.ownsRow b' t sz v n xs := by
  refine ⟨h.1, h.2.imp id ?_⟩
  rintro ⟨g, cap, cur, h1, h2, h3⟩
  exact ⟨g, cap, cur, h1, Nat.le_trans hb h2, h3⟩
theorem info51 : (Tryd.prog.info? 51).map (fun i => (i.zero, i.size, i.bytes)) = some (some (.agg #[.int .i64 0, .int .i64 0]), 2, 16) := by kernel_rfl
def AtV (j : Nat) (v : Value) : Prop := ∃ q : Nat, q ≤ j ∧ v = .int .i64 q
set_option maxRecDepth 100000 in
set_option maxHeartbeats 2000000 in
/-- besomlaw12.PlantPairs returns true. -/
theorem pairs_any (v u : Value) (lm : List (Int × Int)) (bl : List Int) (w : World) (hs : SlK w v lm) (hb : SlB w u bl) (hT : TabW w) : Calls Tryd.prog 6 #[v, u] w (True1 w) := by
  have HS := hid hs
  have HBY := hid hb
  have HT := hid hT
  obtain ⟨a, cap, rfl, hll, -⟩ := hs.open
  obtain ⟨ab, capb, rfl, hlb, -⟩ := hb.open
  clear hs hb hT
  by_cases h20 : lm.length > 20
  · have h20I : decide ((lm.length : Int) > 20) = true := by simp; omega
    go_enter Tryd.func6, Tryd.ntmps6
    go_wp2_with fail
    refine (awake_any _ HT.out).mono ?_
    rintro e W2 ⟨rfl, hb2⟩
    have HB2 := hid hb2
    clear hb2
    go_wp2_with fail
    go_ret
    exact ⟨rfl, HB2.out⟩
  · have h20I : decide ((lm.length : Int) > 20) = false := by simp; omega
    have HM := hid (match_any _ lm w HS.out HT.out)
    have HMB := hid (show marksB lm = (decide (lm.length % 2 = 0) && (decide (lm.length ≤ 16) && !lm.any badK)) from rfl)
    have HR := hid (show matchR lm = if marksB lm then (pairsL lm (lm.length / 2) (List.range lm.length), (mB lm (lm.length / 2) (List.range lm.length)).1, 0) else ([], 0, 2) from rfl)
    have HRM := hid (fun w' h => refMarks_any (.slice a lm.length cap) lm w' h)
    clear h20
    cases hmb : marksB lm with
    | false =>
      rw [hmb] at HR HRM
      have HRR := hid (show matchR lm = ([], 0, 2) by rw [HR.out]; rfl)
      clear hmb HMB HR
      go_enter Tryd.func6, Tryd.ntmps6
      go_wp2_with fail
      refine HM.out.mono ?_
      rintro e W1 ⟨⟨v1, rfl, hs1⟩, hb1⟩
      rw [HRR.out]
      have HB1 := hid hb1
      clear hs1 hb1
      go_wp2_with fail
      refine (HRM.out W1 (HS.out.below HB1.out)).mono ?_
      rintro e w' ⟨rfl, rfl⟩
      go_wp2_with fail
      refine (awake_any W1 (HT.out.below' HB1.out)).mono ?_
      rintro e W2 ⟨rfl, hb2⟩
      have HB2 := hid (HB1.out.trans (hb2.mono HB1.out.size))
      clear hb2
      go_wp2_with fail
      go_ret
      exact ⟨rfl, HB2.out⟩
    | true =>
      rw [hmb] at HR
      have h := HMB.out.symm
      rw [hmb] at h
      simp only [Bool.and_eq_true, decide_eq_true_eq, Bool.not_eq_true'] at h
      obtain ⟨h2, h16, hany⟩ := h
      have HOK := hid (mOk_of hany)
      obtain ⟨n, hn⟩ : ∃ n, lm.length = 2 * n := ⟨lm.length / 2, by omega⟩
      have HN := hid hn
      have hn8 : n ≤ 8 := by omega
      have HANY := hid hany
      have HRR := hid (show matchR lm = (pairsL lm n (List.range (2 * n)), (mB lm n (List.range (2 * n))).1, 0) by
        rw [HR.out, if_pos rfl, show lm.length / 2 = n by omega, hn])
      have HPL := hid (pairsL_ord lm n (List.range (2 * n)) (by simp) HOK.out).1
      obtain ⟨O, hO⟩ : ∃ O, O = ordL lm n (List.range (2 * n)) := ⟨_, rfl⟩
      have HO := hid hO
      have HOP := hid (show O.Perm (List.range (2 * n)) by rw [hO]; exact (ordL_ok HOK.out n (List.range (2 * n)) (by simp)).1)
      have HOS := hid (show sumP lm O = (mB lm n (List.range (2 * n))).1 by rw [hO]; exact (ordL_ok HOK.out n (List.range (2 * n)) (by simp)).2)
      have hOl : O.length = 2 * n := by rw [HOP.out.length_eq]; simp
      have HOL := hid hOl
      clear hmb hany HR HMB h2 hn hO hOl
      go_enter Tryd.func6, Tryd.ntmps6
      go_wp2_with fail
      refine HM.out.mono ?_
      rintro e W1 ⟨⟨v1, rfl, hs1⟩, hb1⟩
      rw [HRR.out] at hs1 ⊢
      have HS1 := hid hs1
      have HB1 := hid hb1
      obtain ⟨a1, cap1, rfl, hl1, hc1⟩ := hs1.open
      have HC1 := hid hc1
      have HSM := hid (show (mB lm n (List.range (2 * n))).1 = (mB lm n (List.range (2 * n))).1 from rfl)
      have HLE := hid (fun ord (h : List.Perm ord (List.range (2 * n))) => mB_le HOK.out n ord (List.range (2 * n)) h (by simp))
      have HTU := hid (fun ord (h : List.Perm ord (List.range (2 * n))) => mB_turned HOK.out n ord h)
      have HMP := hid (mB_bd HOK.out n (List.range (2 * n)) (by simp))
      simp only [HPL.out] at HC1 HS1 ⊢
      clear hs1 hb1 hc1 hl1
      generalize hMM : (mB lm n (List.range (2 * n))).1 = M at *
      clear hMM
      have hmk := @run_makeMap Tryd.prog
      go_wp2_with fail
      clear hmk
      have hmade := SeenF.made W1
      go_loopw [9, 10] (fun o i wr => ∃ k : Nat, k ≤ n ∧ i = .int .i64 k ∧ o = .int .i64 (sumP lm (O.take (2 * k))) ∧ SeenF wr W1.heap.size (castL (O.take (2 * k))) ∧ Below W1.heap.size W1 wr) (fun _ i _ => n - (intOf i).toNat)
      case atStart => exact ⟨0, Nat.zero_le _, rfl, by simp [sumP], by simpa [castL] using hmade, (Below.refl _ _).alloc (Nat.le_refl _) _⟩
      case round =>
        obtain ⟨k, hk, rfl, rfl, hsf, hbr⟩ := hrel
        obtain ⟨w2, rfl⟩ : ∃ w2 : World, w2 = wr := ⟨_, rfl⟩
        clear hmade
        by_cases hkn : k < n
        · --BEGIN a
          have HSF := hid hsf
          have HB := hid hbr
          obtain ⟨A, hA⟩ : ∃ A, A = O.getD (2 * k) 0 := ⟨_, rfl⟩
          obtain ⟨B, hB⟩ : ∃ B, B = O.getD (2 * k + 1) 0 := ⟨_, rfl⟩
          have hPR := pairs_round HOK.out n k hkn O HO.out A B hA hB
          obtain ⟨hp1, hp2, hp3, hp4, hp5, hp6, hp7, hp8⟩ := hPR
          have HP7 := hid hp7
          have HP8 := hid hp8
          have hS1 := sumP_bd HOK.out (O.take (2 * k))
          have hSl : (O.take (2 * k)).length ≤ 2 * k := by simp; omega
          have hmA : ((A : Int) ∈ castL (O.take (2 * k))) = False := eq_false (fun h => hp5 (castL_mem.1 h))
          have hmB : ((B : Int) ∈ castL (O.take (2 * k))) = False := eq_false (fun h => hp6 (castL_mem.1 h))
          have HMA := hid hmA
          have HMBB := hid hmB
          obtain ⟨b1, o1, rfl, hbl1, hcc1⟩ := HC1.out k hkn
          have HCC1 := hid hcc1
          obtain ⟨hxk, hxe⟩ := List.getElem?_eq_some_iff.1 hp1
          have hcA := (hcc1 k hkn).1
          have hcB := (hcc1 k hkn).2
          rw [hxe] at hcA hcB
          have x0 := rdB hbr hbl1 hcA
          have x1 := rdB hbr hbl1 hcB
          have hAn := HN.out
          have hAl : (A : Int) < (lm.length : Int) := by omega
          have hBl : (B : Int) < (lm.length : Int) := by omega
          have hAB : ¬ (B : Int) ≤ (A : Int) := by omega
          have hBL : ¬ (lm.length : Int) ≤ (B : Int) := by omega
          have hS20 : sumP lm (O.take (2 * k)) ≤ 20000000 := by omega
          clear hp1 hp5 hp6 hp7 hp8 hsf hbr hmA hmB hA hB hcc1 hxk hxe hcA hcB hAn hSl
          go_upto_region 10 with fail
          go_cut [11, 12] (fun x y wx => x = .int .i64 (A : Int) ∧ y = .int .i64 (B : Int) ∧ ∃ d, wx = w2.drewN d)
          case first =>
            go_wp2_with fail
            go_quiet (fail)
            go_wp2_with fail
            go_meet
            exact ⟨rfl, rfl, _, rfl⟩
          case rest =>
            obtain ⟨rfl, rfl, d2, rfl⟩ := hcut
            have HSF3 := hid (HSF.out.below (drewNB (Below.refl _ _) d2))
            have HB3 := hid (drewNB HB.out d2)
            clear x0 x1
            generalize w2.drewN d2 = w3 at *
            have hlkA := HSF3.out.look (A : Int)
            have hlkB := HSF3.out.look (B : Int)
            simp only [HMA.out, HMBB.out, decide_false] at hlkA hlkB
            go_upto_region 11 with fail
            go_cut [98] (fun x wx => x = .bool false ∧ wx = w3)
            case first =>
              cases k with
              | zero =>
                go_wp2_with fail
                go_meet
                exact ⟨rfl, rfl⟩
              | succ k' =>
                have hx2 := rdB HB3.out hbl1 (HCC1.out k' (by omega)).1
                obtain ⟨hxk, hxe⟩ := List.getElem?_eq_some_iff.1 (pairs_round HOK.out n k' (by omega) O HO.out _ _ rfl rfl).1
                rw [hxe] at hx2
                have hp5 : ¬ (A : Int) ≤ ((O.getD (2 * k') 0 : Nat) : Int) := by
                  have := hp4 (by omega)
                  rw [Nat.add_sub_cancel] at this
                  omega
                clear hp4 hxe hxk
                generalize O.getD (2 * k') 0 = A0 at *
                go_wp2_with fail
                go_meet
                exact ⟨rfl, rfl⟩
            case rest =>
              obtain ⟨rfl, rfl⟩ := hcut
              clear hlkA hlkB hAB hBL hp4
              obtain ⟨w4, hr4, hsf4, hg4, hz4⟩ := HSF3.out.add (A : Int)
              obtain ⟨w5, hr5, hsf5, hg5, hz5⟩ := hsf4.add (B : Int)
              have hb4 : Below W1.heap.size W1 w4 := HB3.out.grown hg4 HB3.out.size (fun r hr => by have := Option.some.inj hr; omega)
              have hb5 : Below W1.heap.size W1 w5 := hb4.grown hg5 hb4.size (fun r hr => by have := Option.some.inj hr; omega)
              have HB5 := hid hb5
              have HB50 := hid (HB1.out.trans (hb5.mono HB1.out.size))
              have HSF5 := hid hsf5
              have hAn : A < lm.length := by omega
              have hBn : B < lm.length := by omega
              obtain ⟨ak2, capk2, ek, -, hkc⟩ := (HS.out.below HB50.out).open
              obtain ⟨bk, offk, rfl, hbk, hkk⟩ := hkc A hAn
              obtain ⟨e1, -, -⟩ := Value.slice.inj ek
              subst e1
              obtain ⟨ma0, ma1⟩ := hkk A hAn
              obtain ⟨mb0, mb1⟩ := hkk B hBn
              have hta := HOK.out A
              have htb := HOK.out B
              rw [← mark_get lm A hAn] at hta
              rw [← mark_get lm B hBn] at htb
              have HDF := hid (fun w' => refDiffer_any lm[A] lm[B] w' ⟨hta.1, hta.2.1⟩ hta.2.2 ⟨htb.1, htb.2.1⟩ htb.2.2)
              have HDM := hid (show difM lm A B = absI (lm[A].1 - lm[B].1) + absI (lm[A].2 - lm[B].2) by unfold difM; rw [mark_get lm A hAn, mark_get lm B hBn])
              have hdd := dif_bd HOK.out A B
              rw [← HDM.out] at HDF
              clear hsf4 hsf5 hg4 hg5 hz4 hz5 hb4 hb5 hkc hkk ek hta htb HDM
              generalize difM lm A B = dv at *
              generalize sumP lm (O.take (2 * k)) = S at *
              have hwS : IntKind.i64.wrap (S + dv) = S + dv := IntWalk.i64_in _ (by omega)
              go_upto_region 14 with fail
              clear hr4 hr5
              go_region_held3 (fun w' => w'.cell? ⟨bk, offk + A * 2, none⟩ = some (.int .i64 lm[A].1) ∧ w'.cell? ⟨bk, offk + A * 2 + 1, none⟩ = some (.int .i64 lm[A].2) ∧ w'.cell? ⟨bk, offk + B * 2, none⟩ = some (.int .i64 lm[B].1) ∧ w'.cell? ⟨bk, offk + B * 2 + 1, none⟩ = some (.int .i64 lm[B].2))
                (first | exact ⟨ma0, ma1, mb0, mb1⟩ | exact ⟨bcs hbq ma0, bcs hbq ma1, bcs hbq mb0, bcs hbq mb1⟩ | go_keep)
                (first | (go_at_call 23; refine (HDF.out _).mono ?_; (rintro e w' ⟨rfl, hbq⟩)))
              all_goals
                have hb6 : Below w5.heap.size w5 w' := by repeat' (first | exact Below.refl _ _ | apply drewNB | apply Below.drew | exact hbq | exact (drewNB (Below.refl _ _) _).trans hbq | exact ((Below.refl _ _).drew).trans hbq)
                have H6 := hid (And.intro (HSF5.out.below hb6) (HB5.out.trans (hb6.mono HB5.out.size)))
                clear hb6 hbq ma0 ma1 mb0 mb1 HDF
                go_wp2_with fail
                refine ⟨⟨k + 1, by omega, by go_num, by rw [HP8.out], by rw [HP7.out]; unfold castL; rw [List.map_append, List.map_append]; exact H6.out.1, H6.out.2⟩, by simp [intOf]; omega⟩
          --END a
        · obtain rfl : k = n := by omega
          have HB2 := hid (HB1.out.trans (hbr.mono HB1.out.size))
          have hSM : sumP lm (O.take (2 * k)) = M := by rw [List.take_of_length_le (by rw [HOL.out]; exact Nat.le_refl _), HOS.out]
          have hln : (2 * (k : Int) != (lm.length : Int)) = false := by have := HN.out; simp; omega
          have hMM : (M != M) = false := by simp
          rw [hSM]
          clear hsf hbr hSM HC1 HS1
          obtain ⟨i0, hi, hz0, hz1, hz2⟩ := info_parts info3
          go_wp2_with fail
          clear hln hMM
          go_loopw [13, 14] (fun o i wr => ∃ (j : Nat) (ord : List Nat), j ≤ lm.length ∧ ord.Perm (List.range j) ∧ i = .int .i64 j ∧ wr.ownsRow w2.heap.size 3 1 o j ((castL ord).map (.int .i64)) ∧ Below w2.heap.size w2 wr ∧ (j = 0 → o = .slice none 0 0)) (fun _ i _ => lm.length - (intOf i).toNat)
          case atStart => exact ⟨0, [], Nat.zero_le _, List.Perm.refl _, rfl, World.ownsRow_nil _ _ _ _, Below.refl _ _, fun _ => rfl⟩
          case round =>
            obtain ⟨j, ord, hj, hpo, rfl, hown, hbr, hnil⟩ := hrel
            obtain ⟨w3, rfl⟩ : ∃ w3 : World, w3 = wr := ⟨_, rfl⟩
            have HPO := hid hpo
            obtain ⟨ado, capo, rfl⟩ := own_form hown
            have HOW := hid hown
            have HNIL := hid hnil
            have HB3 := hid hbr
            clear hpo hown hbr hnil
            by_cases hjl : j < lm.length
            · --BEGIN d
              have HB30 := hid (HB2.out.trans (HB3.out.mono HB2.out.size))
              go_upto_if 133 with fail
              go_cut [15] (fun v wx => AtV j v ∧ wx = w3)
              case first =>
                --BEGIN b
                by_cases hbp : 0 < bl.length
                · have hbp' : decide (0 < bl.length) = true := by simp [hbp]
                  obtain ⟨m, hm⟩ : ∃ m, m = j % bl.length := ⟨_, rfl⟩
                  have hml : m < bl.length := by rw [hm]; exact Nat.mod_lt _ hbp
                  have hidx : (j : Int) % (bl.length : Int) = (m : Int) := by rw [hm]; rfl
                  obtain ⟨ab2, capb2, eb, -, hbc⟩ := (HBY.out.below HB30.out).open
                  obtain ⟨bb, ob, rfl, hbbl, xb, xb0, xb1⟩ := hbc m hml
                  obtain ⟨e1, -, -⟩ := Value.slice.inj eb
                  subst e1
                  clear hm hbc eb
                  generalize bl[m] = x at *
                  have hbp2 : (1 : Int) ≤ (bl.length : Int) := by omega
                  go_wp2_with fail
                  go_meet
                  have h0 := Int.emod_nonneg x (show (j : Int) + 1 ≠ 0 by omega)
                  have h1 := Int.emod_lt_of_pos x (show (0 : Int) < (j : Int) + 1 by omega)
                  exact ⟨⟨(x % ((j : Int) + 1)).toNat, by omega, by rw [Int.toNat_of_nonneg h0]⟩, rfl⟩
                · have hbp' : decide (0 < bl.length) = false := decide_eq_false hbp
                  go_wp2_with fail
                  go_meet
                  exact ⟨⟨0, Nat.zero_le _, rfl⟩, rfl⟩
                --END b
              case rest =>
                obtain ⟨⟨q, hq, rfl⟩, rfl⟩ := hcut
                have hsz3 : w2.heap.size ≤ wc.heap.size := HB3.out.size
                have HLN := hid (show (castL ord).length = j by unfold castL; rw [List.length_map, HPO.out.length_eq]; simp)
                by_cases hj0 : j = 0
                · subst hj0
                  obtain rfl : q = 0 := by omega
                  obtain ⟨rfl, -, rfl⟩ := Value.slice.inj (HNIL.out rfl)
                  have ho : ord = [] := HPO.out.eq_nil
                  subst ho
                  have HSA := hid (fun w' (_ : Below wc.heap.size wc w') => nil_SlI w')
                  have HSB := hid (fun w' (_ : Below wc.heap.size wc w') => nil_SlI w')
                  go_wp2_with (at_builtin; first
                    | (refine wpList_append_ints _ rfl _ _ rfl wc.heap.size _ 0 [] rfl (World.ownsRow_made _ #[] 0 (Nat.le_refl _) (by decide) rfl) _ ((castL []).take 0) rfl (HSA.out _ (bel_new _)) (by simp [castL]) (by simp) 0 (((castL []).take 0).map (.int .i64)) (by simp [castL]) rfl ?_; intro v5 w5 hown5 hg5; have hb5 : Below wc.heap.size wc w5 := (bel_new _).grown hg5 (by simp) (fun r hr => by have e : wc.heap.size = r := Option.some.inj hr; omega))
                    | (refine wpList_append_lies _ rfl _ _ 22 rfl wc.heap.size 3 i0 (.int .i64 0) 1 8 Tryd.underlying22 hi hz0 hz1 hz2 rfl (by omega) v5 0 _ rfl (hown5.alloc _) ⟨w5.heap.size, 0, none⟩ 1 1 [.int .i64 0] rfl rfl (cell_one_new _ _ _) (ones _ rfl) (by omega) (by unfold maxLen; omega) (by omega) (by have := hb5.size; simp; omega) (w5.heap.size + 1) (by simp) ?_; intro g6 cap6 w6 hown6 hgrow6 hat6 hlt6; have hb6 : Below wc.heap.size wc w6 := (hb5.alloc hb5.size _).grown hgrow6 (by have := hb5.size; simp; omega) (fun r hr => (hown5.lt r hr).1))
                    | (refine wpList_append_ints _ rfl _ _ rfl wc.heap.size _ 1 _ rfl hown6 _ ((castL []).drop 0) rfl (HSB.out _ hb6) (by simp [castL]) hb6.size 1 _ (by simp [castL]) rfl ?_; intro v7 w7 hown7 hg7; have hb7 : Below wc.heap.size wc w7 := hb6.grown hg7 hb6.size (fun r hr => (hown6.lt r hr).1)))
                  have H7 := hid (And.intro hown7 hb7)
                  clear hown5 hg5 hb5 hown6 hgrow6 hat6 hlt6 hb6 hown7 hg7 hb7
                  go_wp2_with fail
                  have H8 := H7.out.1
                  refine ⟨⟨1, [0], by omega, by simp [List.range_succ], rfl, ?_, HB3.out.trans (H7.out.2.mono hsz3), fun h => by omega⟩, by simp [intOf]; omega⟩
                  exact own_lower H8 hsz3
                · obtain ⟨go, capo2, eo, hgo1, hgo2⟩ := HOW.out.form (by omega)
                  obtain ⟨rfl, -, -⟩ := Value.slice.inj eo
                  have hcj : j ≤ capo := by
                    rcases HOW.out.2 with ⟨e, _⟩ | ⟨g, cp, cur, e, _, _, hle, _⟩
                    · cases e
                    · obtain ⟨-, -, rfl⟩ := Value.slice.inj e
                      exact hle
                  have hc0 : ¬ capo = 0 := by omega
                  have hqc : q ≤ capo := by omega
                  have hqi : (q : Int) ≤ (j : Int) := by omega
                  have HSA := hid (fun w' (h : Below wc.heap.size wc w') => show SlI w' (.slice (some ⟨go, 0, none⟩) q capo) ((castL ord).take q) from by
                    have h1 := own_part (i := 0) (k := q) (c := capo) (own_below HOW.out h) (by omega) (by omega)
                    simpa using h1)
                  clear eo
                  by_cases hcq : capo = q
                  · have HSB := hid (fun w' (h : Below wc.heap.size wc w') => show SlI w' (.slice (some ⟨go, 0, none⟩) 0 0) ((castL ord).drop q) from by
                      have h1 := own_part (i := 0) (k := 0) (c := 0) (own_below HOW.out h) (by omega) (by omega)
                      rw [List.drop_eq_nil_iff.2 (by have := HLN.out; omega)]
                      simpa using h1)
                    obtain rfl : q = j := by omega
                    obtain rfl : q = capo := hcq.symm
                    clear hcq
                    go_wp2_with (at_builtin; first
                      | (refine wpList_append_ints _ rfl _ _ rfl wc.heap.size _ 0 [] rfl (World.ownsRow_made _ #[] 0 (Nat.le_refl _) (by decide) rfl) _ ((castL ord).take q) rfl (HSA.out _ (bel_new _)) (by have := HLN.out; first | (simp; done) | (simp; omega)) (by simp) q (((castL ord).take q).map (.int .i64)) (by have := HLN.out; first | (simp; done) | (simp; omega)) rfl ?_; intro v5 w5 hown5 hg5; have hb5 : Below wc.heap.size wc w5 := (bel_new _).grown hg5 (by simp) (fun r hr => by have e : wc.heap.size = r := Option.some.inj hr; omega))
                      | (refine wpList_append_lies _ rfl _ _ 22 rfl wc.heap.size 3 i0 (.int .i64 0) 1 8 Tryd.underlying22 hi hz0 hz1 hz2 rfl (by omega) v5 q _ rfl (hown5.alloc _) ⟨w5.heap.size, 0, none⟩ 1 1 [.int .i64 (q : Int)] rfl rfl (cell_one_new _ _ _) (ones _ rfl) (by omega) (by unfold maxLen; omega) (by omega) (by have := hb5.size; simp; omega) (w5.heap.size + 1) (by simp) ?_; intro g6 cap6 w6 hown6 hgrow6 hat6 hlt6; have hb6 : Below wc.heap.size wc w6 := (hb5.alloc hb5.size _).grown hgrow6 (by have := hb5.size; simp; omega) (fun r hr => (hown5.lt r hr).1))
                      | (refine wpList_append_ints _ rfl _ _ rfl wc.heap.size _ (q + 1) _ rfl hown6 _ ((castL ord).drop q) rfl (HSB.out _ hb6) (by have := HLN.out; first | (simp; done) | (simp; omega)) hb6.size (q + 1) _ (by have := HLN.out; first | (simp; done) | (simp; omega)) rfl ?_; intro v7 w7 hown7 hg7; have hb7 : Below wc.heap.size wc w7 := hb6.grown hg7 hb6.size (fun r hr => (hown6.lt r hr).1)))
                    have H7 := hid (And.intro hown7 hb7)
                    clear hown5 hg5 hb5 hown6 hgrow6 hat6 hlt6 hb6 hown7 hg7 hb7
                    go_wp2_with fail
                    have hpo2 := order_round HPO.out q
                    have hcl : castL (ord.take q ++ [q] ++ ord.drop q) = (castL ord).take q ++ [(q : Int)] ++ (castL ord).drop q := by simp [castL, List.map_take, List.map_drop]
                    refine ⟨⟨q + 1, ord.take q ++ [q] ++ ord.drop q, by omega, hpo2, by go_num, ?_, HB3.out.trans (H7.out.2.mono hsz3), fun h => by omega⟩, by simp [intOf]; omega⟩
                    rw [hcl, List.map_append, List.map_append]
                    exact own_lower H7.out.1 hsz3
                  · --BEGIN c
                    have HSB := hid (fun w' (h : Below wc.heap.size wc w') => show SlI w' (.slice (some ⟨go, q, none⟩) (j - q) (capo - q)) ((castL ord).drop q) from by
                      have h1 := own_part (i := q) (k := j - q) (c := capo - q) (own_below HOW.out h) (by omega) (by omega)
                      rw [List.take_of_length_le (by have := HLN.out; first | (simp; done) | (simp; omega))] at h1
                      exact h1)
                    go_wp2_with (at_builtin; first
                      | (refine wpList_append_ints _ rfl _ _ rfl wc.heap.size _ 0 [] rfl (World.ownsRow_made _ #[] 0 (Nat.le_refl _) (by decide) rfl) _ ((castL ord).take q) rfl (HSA.out _ (bel_new _)) (by have := HLN.out; first | (simp; done) | (simp; omega)) (by simp) q (((castL ord).take q).map (.int .i64)) (by have := HLN.out; first | (simp; done) | (simp; omega)) rfl ?_; intro v5 w5 hown5 hg5; have hb5 : Below wc.heap.size wc w5 := (bel_new _).grown hg5 (by simp) (fun r hr => by have e : wc.heap.size = r := Option.some.inj hr; omega))
                      | (refine wpList_append_lies _ rfl _ _ 22 rfl wc.heap.size 3 i0 (.int .i64 0) 1 8 Tryd.underlying22 hi hz0 hz1 hz2 rfl (by omega) v5 q _ rfl (hown5.alloc _) ⟨w5.heap.size, 0, none⟩ 1 1 [.int .i64 (j : Int)] rfl rfl (cell_one_new _ _ _) (ones _ rfl) (by omega) (by unfold maxLen; omega) (by omega) (by have := hb5.size; simp; omega) (w5.heap.size + 1) (by simp) ?_; intro g6 cap6 w6 hown6 hgrow6 hat6 hlt6; have hb6 : Below wc.heap.size wc w6 := (hb5.alloc hb5.size _).grown hgrow6 (by have := hb5.size; simp; omega) (fun r hr => (hown5.lt r hr).1))
                      | (refine wpList_append_ints _ rfl _ _ rfl wc.heap.size _ (q + 1) _ rfl hown6 _ ((castL ord).drop q) rfl (HSB.out _ hb6) (by have := HLN.out; first | (simp; done) | (simp; omega)) hb6.size (j + 1) _ (by have := HLN.out; first | (simp; done) | (simp; omega)) rfl ?_; intro v7 w7 hown7 hg7; have hb7 : Below wc.heap.size wc w7 := hb6.grown hg7 hb6.size (fun r hr => (hown6.lt r hr).1)))
                    have H7 := hid (And.intro hown7 hb7)
                    clear hown5 hg5 hb5 hown6 hgrow6 hat6 hlt6 hb6 hown7 hg7 hb7
                    go_wp2_with fail
                    have hpo2 := order_round HPO.out q
                    have hcl : castL (ord.take q ++ [j] ++ ord.drop q) = (castL ord).take q ++ [(j : Int)] ++ (castL ord).drop q := by simp [castL, List.map_take, List.map_drop]
                    refine ⟨⟨j + 1, ord.take q ++ [j] ++ ord.drop q, by omega, hpo2, by go_num, ?_, HB3.out.trans (H7.out.2.mono hsz3), fun h => by omega⟩, by simp [intOf]; omega⟩
                    rw [hcl, List.map_append, List.map_append]
                    exact own_lower H7.out.1 hsz3
                    --END c
              --END d
            · obtain rfl : j = lm.length := by omega
              have hln := HN.out
              have HPK := hid (show ord.Perm (List.range (2 * k)) by rw [← hln]; exact HPO.out)
              have hol : ord.length = lm.length := by rw [HPO.out.length_eq]; simp
              have HOLN := hid hol
              have HLT := hid (show ∀ x ∈ ord, x < lm.length from fun x hx => by have := HPO.out.mem_iff.1 hx; simpa using this)
              obtain ⟨i1, hi1, hy0, hy1, hy2⟩ := info_parts info51
              clear hln hol hi hz0 hz1 hz2
              go_wp2_with fail
              go_loopw [17, 18, 19] (fun s tn i wr => ∃ p : Nat, p ≤ lm.length ∧ i = .int .i64 p ∧ s = .int .i64 (sumP lm (ord.take p)) ∧ wr.ownsRow w3.heap.size 51 2 tn p (((ord.take p).map (mark lm)).flatMap cells2) ∧ Below w3.heap.size w3 wr) (fun _ _ i _ => lm.length - (intOf i).toNat)
              case atStart => exact ⟨0, Nat.zero_le _, rfl, by simp [sumP], World.ownsRow_nil _ _ _ _, Below.refl _ _⟩
              case round =>
                obtain ⟨p, hp, rfl, rfl, hown, hbr⟩ := hrel
                obtain ⟨w4, rfl⟩ : ∃ w4 : World, w4 = wr := ⟨_, rfl⟩
                obtain ⟨adt, capt, rfl⟩ := own_form hown
                have HOT := hid hown
                have HB4 := hid hbr
                clear hown hbr
                by_cases hpl : p < lm.length
                · have HB40 := hid (HB2.out.trans ((HB3.out.trans (HB4.out.mono HB3.out.size)).mono HB2.out.size))
                  obtain ⟨go, capo2, eo, hgo1, hgo2⟩ := HOW.out.form (by omega)
                  obtain ⟨rfl, -, -⟩ := Value.slice.inj eo
                  have hpo : p < ord.length := by rw [HOLN.out]; exact hpl
                  obtain ⟨x, hx⟩ : ∃ x, x = ord[p] := ⟨_, rfl⟩
                  have hxl : x < lm.length := HLT.out x (by rw [hx]; exact List.getElem_mem _)
                  have HCO := hid (fun (q : Nat) (hq : q < ord.length) w' (h : Below w3.heap.size w3 w') => show w'.cell? ⟨go, q, none⟩ = some (.int .i64 ((ord[q] : Nat) : Int)) from by
                    rw [(own_below HOW.out h).cellAt q (by have := HOLN.out; omega)]
                    simp [castL, hq])
                  have x0 := HCO.out p hpo w4 HB4.out
                  rw [← hx] at x0
                  have HTK := hid (show ((ord.take (p + 1)).map (mark lm)).flatMap cells2 = ((ord.take p).map (mark lm)).flatMap cells2 ++ [.int .i64 lm[x].1, .int .i64 lm[x].2] by
                    rw [List.take_succ_eq_append_getElem hpo, List.map_append, List.flatMap_append, ← hx, mark_get lm x hxl]; simp [cells2])
                  have HOR := hid (other_round lm ord p hpo)
                  obtain ⟨ak2, capk2, ek, -, hkc⟩ := HS.out.open
                  obtain ⟨bk, offk, rfl, hbk, hkk⟩ := hkc x hxl
                  obtain ⟨e1, -, -⟩ := Value.slice.inj ek
                  subst e1
                  have HKK := hid (fun (q : Nat) (hq : q < lm.length) w' (h : Below w.heap.size w w') => And.intro (rdB h hbk (hkk q hq).1) (rdB h hbk (hkk q hq).2))
                  obtain ⟨ma0, ma1⟩ := HKK.out x hxl w4 HB40.out
                  have hxI : (x : Int) < (lm.length : Int) := by omega
                  have HX := hid hx
                  have hS1 := sumP_bd HOK.out (ord.take p)
                  have hSl : (ord.take p).length ≤ p := by simp; omega
                  have hS20 : sumP lm (ord.take p) ≤ 20000000 := by omega
                  clear eo ek hkc hkk hx hSl
                  go_upto_region 33 with (at_builtin; refine wpList_append_lies _ rfl _ _ 42 rfl w3.heap.size 51 i1 (.agg #[.int .i64 0, .int .i64 0]) 2 16 Tryd.underlying42 hi1 hy0 hy1 hy2 rfl (by omega) _ p _ rfl (HOT.out.alloc _) ⟨w4.heap.size, 0, none⟩ 1 1 [.int .i64 lm[x].1, .int .i64 lm[x].2] rfl rfl (by intro j u hj; match j, hj with | 0, hj => simp at hj; subst hj; simp [Addr.add, go_sem] | 1, hj => simp at hj; subst hj; simp [Addr.add, go_sem]) (by intro u hu; simp at hu; rcases hu with rfl | rfl <;> rfl) (by omega) (by unfold maxLen; omega) (by omega) (by have := HB4.out.size; simp; omega) (w4.heap.size + 1) (by simp) ?_; intro g cap3 w5 hown5 hgrow5 hat5 hlt5)
                  have hb5 : Below w3.heap.size w3 w5 := (HB4.out.alloc HB4.out.size _).grown hgrow5 (by have := HB4.out.size; simp; omega) (fun r hr => (HOT.out.lt r hr).1)
                  have HB5 := hid hb5
                  have HB50 := hid (HB2.out.trans ((HB3.out.trans (hb5.mono HB3.out.size)).mono HB2.out.size))
                  have HO5 := hid (show w5.ownsRow w3.heap.size 51 2 (.slice (some ⟨g, 0, none⟩) (p + 1) cap3) (p + 1) (((ord.take (p + 1)).map (mark lm)).flatMap cells2) by rw [HTK.out]; exact hown5)
                  clear hown5 hgrow5 hat5 hlt5 hb5 x0 ma0 ma1 HOT HTK
                  by_cases hodd : p % 2 = 1
                  · obtain ⟨p', rfl⟩ : ∃ p', p = p' + 1 := ⟨p - 1, by omega⟩
                    have hpr : (((p' : Int) + 1) % 2 == 1) = true := by simp; omega
                    have hor := HOR.out
                    rw [if_pos hodd, Nat.add_sub_cancel, ← HX.out] at hor
                    obtain ⟨y, hy⟩ : ∃ y, y = ord[p'] := ⟨_, rfl⟩
                    have hyd : ord.getD p' 0 = y := by rw [hy, List.getD_eq_getElem?_getD, List.getElem?_eq_getElem (by omega)]; rfl
                    rw [hyd] at hor
                    have HOR2 := hid hor
                    have hyl : y < lm.length := HLT.out y (by rw [hy]; exact List.getElem_mem _)
                    have x1 := HCO.out (p' + 1) hpo w5 HB5.out
                    rw [← HX.out] at x1
                    have x0 := HCO.out p' (by omega) w5 HB5.out
                    rw [← hy] at x0
                    obtain ⟨ma0, ma1⟩ := HKK.out y hyl w5 HB50.out
                    obtain ⟨mb0, mb1⟩ := HKK.out x hxl w5 HB50.out
                    have hyI : (y : Int) < (lm.length : Int) := by omega
                    have hta := HOK.out y
                    have htb := HOK.out x
                    rw [← mark_get lm y hyl] at hta
                    rw [← mark_get lm x hxl] at htb
                    have HDF := hid (fun w' => refDiffer_any lm[y] lm[x] w' ⟨hta.1, hta.2.1⟩ hta.2.2 ⟨htb.1, htb.2.1⟩ htb.2.2)
                    have HDM := hid (show difM lm y x = absI (lm[y].1 - lm[x].1) + absI (lm[y].2 - lm[x].2) by unfold difM; rw [mark_get lm y hyl, mark_get lm x hxl])
                    have hdd := dif_bd HOK.out y x
                    rw [← HDM.out] at HDF
                    have hpc : (p' : Int) + 1 < (lm.length : Int) := by omega
                    have hS0 := hS1.1
                    clear hta htb HDM hor hy hyd hodd HOR hS1
                    generalize difM lm y x = dv at *
                    generalize sumP lm (ord.take (p' + 1)) = S at *
                    have hwS : IntKind.i64.wrap (S + dv) = S + dv := IntWalk.i64_in _ (by omega)
                    have hwp : IntKind.i64.wrap ((p' : Int) + 1 - 1) = (p' : Int) := by rw [Int.add_sub_cancel]; exact IntWalk.i64_in _ (by omega)
                    have hwp1 : IntKind.i64.wrap (p' : Int) = (p' : Int) := IntWalk.i64_in _ (by omega)
                    have hpi1 : (0 : Int) ≤ (p' : Int) + 1 := by omega
                    have hpi2 : (p' : Int) < (lm.length : Int) := by omega
                    have hpi3 : ((p' : Int) + 1).toNat = p' + 1 := by omega
                    go_upto_region 34 with fail
                    go_region_held3 (fun w' => w'.cell? ⟨go, p', none⟩ = some (.int .i64 (y : Int)) ∧ w'.cell? ⟨go, p' + 1, none⟩ = some (.int .i64 (x : Int)) ∧ w'.cell? ⟨bk, offk + y * 2, none⟩ = some (.int .i64 lm[y].1) ∧ w'.cell? ⟨bk, offk + y * 2 + 1, none⟩ = some (.int .i64 lm[y].2) ∧ w'.cell? ⟨bk, offk + x * 2, none⟩ = some (.int .i64 lm[x].1) ∧ w'.cell? ⟨bk, offk + x * 2 + 1, none⟩ = some (.int .i64 lm[x].2))
                      (first | exact ⟨x0, x1, ma0, ma1, mb0, mb1⟩ | exact ⟨bcs hbq x0, bcs hbq x1, bcs hbq ma0, bcs hbq ma1, bcs hbq mb0, bcs hbq mb1⟩ | go_keep)
                      (first | (go_at_call 23; refine (HDF.out _).mono ?_; (rintro e w' ⟨rfl, hbq⟩)))
                    all_goals
                      have hb6 : Below w5.heap.size w5 w' := by repeat' (first | exact Below.refl _ _ | apply drewNB | apply Below.drew | exact hbq | exact (drewNB (Below.refl _ _) _).trans hbq | exact ((Below.refl _ _).drew).trans hbq)
                      have H6 := hid (And.intro (own_below HO5.out hb6) (HB5.out.trans (hb6.mono HB5.out.size)))
                      clear hb6 hbq x0 x1 ma0 ma1 mb0 mb1 HDF
                      go_wp2_with fail
                      refine ⟨⟨p' + 1 + 1, by omega, by go_num, by rw [HOR2.out], H6.out.1, H6.out.2⟩, by simp [intOf]; omega⟩
                  · have hpr : ((p : Int) % 2 == 1) = false := by simp; omega
                    have hor := HOR.out
                    rw [if_neg hodd, Int.add_zero] at hor
                    have HOR2 := hid hor
                    clear hor hodd HOR
                    go_wp2_with fail
                    refine ⟨⟨p + 1, by omega, by go_num, by rw [HOR2.out], HO5.out, HB5.out⟩, by simp [intOf]; omega⟩
                · obtain rfl : p = lm.length := by omega
                  have HST := hid (show SlK w4 (.slice adt lm.length capt) (ord.map (mark lm)) by
                    have h1 := HOT.out
                    rw [List.take_of_length_le (by rw [HOLN.out]; exact Nat.le_refl _)] at h1
                    exact own_SlK h1 (by have := HOLN.out; simp; omega))
                  have HB40 := hid (HB2.out.trans ((HB3.out.trans (HB4.out.mono HB3.out.size)).mono HB2.out.size))
                  have HM2 := hid (match_any _ (ord.map (mark lm)) w4 HST.out (HT.out.below' HB40.out))
                  have HMR := hid (show (matchR (ord.map (mark lm))).2.1 = M ∧ (matchR (ord.map (mark lm))).2.2 = 0 by
                    have hl2 : (ord.map (mark lm)).length = 2 * k := by rw [List.length_map, HOLN.out, HN.out]
                    have hmb2 : marksB (ord.map (mark lm)) = true := by
                      unfold marksB
                      rw [hl2]
                      simp only [Bool.and_eq_true, decide_eq_true_eq, Bool.not_eq_true']
                      refine ⟨by omega, by omega, ?_⟩
                      rw [List.any_eq_false]
                      intro z hz
                      obtain ⟨x, hx, rfl⟩ := List.mem_map.1 hz
                      have hxl := HLT.out x hx
                      rw [← mark_get lm x hxl]
                      exact List.any_eq_false.1 HANY.out _ (List.getElem_mem _)
                    unfold matchR
                    rw [if_pos hmb2, hl2]
                    refine ⟨?_, rfl⟩
                    rw [show 2 * k / 2 = k by omega]
                    exact HTU.out ord HPK.out)
                  have hsum : sumP lm (ord.take lm.length) = sumP lm ord := by rw [List.take_of_length_le (by rw [HOLN.out]; exact Nat.le_refl _)]
                  have hle := HLE.out ord HPK.out
                  rw [hsum]
                  generalize sumP lm ord = S at *
                  have hle2 : decide (M ≤ S) = true := by simp [hle]
                  have hMM : (M == M) = true := by simp
                  clear hsum HOT
                  go_wp2_with fail
                  refine HM2.out.mono ?_
                  rintro e w5 ⟨⟨v5, rfl, -⟩, hb5⟩
                  rw [HMR.out.1, HMR.out.2]
                  have HB5 := hid (HB40.out.trans (hb5.mono HB40.out.size))
                  clear hb5
                  go_wp2_with fail
                  refine (awake_any w5 (HT.out.below' HB5.out)).mono ?_
                  rintro e W6 ⟨rfl, hb6⟩
                  have HB6 := hid (HB5.out.trans (hb6.mono HB5.out.size))
                  clear hb6
                  go_wp2_with fail
                  go_ret
                  exact ⟨rfl, HB6.out⟩
end Go.Proofs.YtjjphiecjhijiaaDoor
