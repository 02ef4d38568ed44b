import Derived.Test.YtjjphiecjhijiaaDoorM2
import Derived.Test.YtjjphiecjhijiaaDoorA3
namespace Go.Proofs.YtjjphiecjhijiaaDoor
open Go.RowKit

/-- The least of two sums, if there was one. -/
def stepN (acc s : Int) : Int := if acc < 0 ∨ s < acc then s else acc
/-- The least sum of k sets that are left, from a sheet on. -/
def mN (U : Nat → Nat → Int) : Nat → List Nat → Nat → Int
  | 0, _, _ => 0
  | k + 1, l, sh => l.foldl (fun acc x => stepN acc (mN U k (l.erase x) (sh + 1) + U sh x)) (-1)
def foldN (U : Nat → Nat → Int) (k : Nat) (l : List Nat) (sh : Nat) (pre : List Nat) : Int := pre.foldl (fun acc x => stepN acc (mN U k (l.erase x) (sh + 1) + U sh x)) (-1)
theorem foldN_snoc (U : Nat → Nat → Int) (k : Nat) (l : List Nat) (sh : Nat) (pre : List Nat) (x : Nat) : foldN U k l sh (pre ++ [x]) = stepN (foldN U k l sh pre) (mN U k (l.erase x) (sh + 1) + U sh x) := by simp [foldN]
def uOk (U : Nat → Nat → Int) : Prop := ∀ i j, 0 ≤ U i j ∧ U i j ≤ 1000
theorem foldN_bd {U : Nat → Nat → Int} (h : uOk U) (k : Nat) (l : List Nat) (sh : Nat) (hm : ∀ x ∈ l, 0 ≤ mN U k (l.erase x) (sh + 1) ∧ mN U k (l.erase x) (sh + 1) ≤ k * 1000) (pre : List Nat) : (∀ x ∈ pre, x ∈ l) → (pre = [] ∧ foldN U k l sh pre = -1) ∨ (pre ≠ [] ∧ 0 ≤ foldN U k l sh pre ∧ foldN U k l sh pre ≤ (k + 1 : Nat) * 1000) := by
  refine snocI (Q := fun pre => (∀ x ∈ pre, x ∈ l) → (pre = [] ∧ foldN U k l sh pre = -1) ∨ (pre ≠ [] ∧ 0 ≤ foldN U k l sh pre ∧ foldN U k l sh pre ≤ (k + 1 : Nat) * 1000)) ?_ ?_ pre
  · intro _; exact .inl ⟨rfl, rfl⟩
  · intro pre x ih hp
    have hb := hm x (hp x (by simp))
    have hu := h sh x
    rw [foldN_snoc]
    refine .inr ⟨by simp, ?_⟩
    unfold stepN
    rcases ih (fun y hy => hp y (by simp [hy])) with ⟨_, e⟩ | ⟨_, e⟩
    · rw [e]; simp; omega
    · split <;> omega
theorem mN_bd {U : Nat → Nat → Int} (h : uOk U) : ∀ (k : Nat) (l : List Nat) (sh : Nat), l.length = k → 0 ≤ mN U k l sh ∧ mN U k l sh ≤ k * 1000 := by
  intro k
  induction k with
  | zero => intro l sh _; simp [mN]
  | succ k ih =>
    intro l sh hl
    have := foldN_bd h k l sh (fun x hx => ih (l.erase x) (sh + 1) (by rw [List.length_erase_of_mem hx]; omega)) l (fun _ h => h)
    rcases this with ⟨rfl, _⟩ | ⟨_, h⟩
    · simp at hl
    · exact h
/-- The least is one of the sums. -/
theorem foldN_hit {U : Nat → Nat → Int} (h : uOk U) (k : Nat) (l : List Nat) (sh : Nat) (hm : ∀ x ∈ l, 0 ≤ mN U k (l.erase x) (sh + 1)) (pre : List Nat) : (∀ x ∈ pre, x ∈ l) → pre ≠ [] → (∃ x ∈ pre, mN U k (l.erase x) (sh + 1) + U sh x = foldN U k l sh pre) ∧ ∀ x ∈ pre, foldN U k l sh pre ≤ mN U k (l.erase x) (sh + 1) + U sh x := by
  refine snocI (Q := fun pre => (∀ x ∈ pre, x ∈ l) → pre ≠ [] → (∃ x ∈ pre, mN U k (l.erase x) (sh + 1) + U sh x = foldN U k l sh pre) ∧ ∀ x ∈ pre, foldN U k l sh pre ≤ mN U k (l.erase x) (sh + 1) + U sh x) (by simp) ?_ pre
  intro pre x ih hp _
  have hb := hm x (hp x (by simp))
  have hu := h sh x
  rw [foldN_snoc]
  by_cases e : pre = []
  · subst e
    have e1 : stepN (foldN U k l sh []) (mN U k (l.erase x) (sh + 1) + U sh x) = mN U k (l.erase x) (sh + 1) + U sh x := by
      unfold stepN; rw [if_pos (.inl (by simp [foldN]))]
    rw [e1]
    exact ⟨⟨x, by simp, rfl⟩, by intro y hy; simp at hy; rw [hy]; exact Int.le_refl _⟩
  · obtain ⟨⟨y, hy, h1⟩, h2⟩ := ih (fun z hz => hp z (by simp [hz])) e
    have hy0 := hm y (hp y (by simp [hy]))
    have hyu := h sh y
    unfold stepN
    by_cases hc : foldN U k l sh pre < 0 ∨ mN U k (l.erase x) (sh + 1) + U sh x < foldN U k l sh pre
    · rw [if_pos hc]
      refine ⟨⟨x, by simp, rfl⟩, fun z hz => ?_⟩
      rcases List.mem_append.1 hz with hz | hz
      · have := h2 z hz; omega
      · simp at hz; rw [hz]; exact Int.le_refl _
    · rw [if_neg hc]
      refine ⟨⟨y, by simp [hy], h1⟩, fun z hz => ?_⟩
      rcases List.mem_append.1 hz with hz | hz
      · exact h2 z hz
      · simp at hz; rw [hz]; omega
/-- The first set with which the least sum is kept. -/
def pickN (U : Nat → Nat → Int) (k : Nat) (l : List Nat) (sh : Nat) : Nat := (l.find? fun x => mN U k (l.erase x) (sh + 1) + U sh x == mN U (k + 1) l sh).getD 0
theorem pickN_spec {U : Nat → Nat → Int} (h : uOk U) (k : Nat) (l : List Nat) (sh : Nat) (hl : l.length = k + 1) : ∃ pre post, l = pre ++ pickN U k l sh :: post ∧ (∀ y ∈ pre, mN U k (l.erase y) (sh + 1) + U sh y ≠ mN U (k + 1) l sh) ∧ mN U k (l.erase (pickN U k l sh)) (sh + 1) + U sh (pickN U k l sh) = mN U (k + 1) l sh := by
  obtain ⟨⟨x, hx, h1⟩, _⟩ := foldN_hit h k l sh (fun x hx => (mN_bd h k (l.erase x) (sh + 1) (by rw [List.length_erase_of_mem hx]; omega)).1) l (fun _ h => h) (by rintro rfl; simp at hl)
  have h1' : mN U k (l.erase x) (sh + 1) + U sh x = mN U (k + 1) l sh := h1
  unfold pickN
  cases e : l.find? (fun x => mN U k (l.erase x) (sh + 1) + U sh x == mN U (k + 1) l sh) with
  | none =>
    have := List.find?_eq_none.1 e x hx
    simp at this
    exact absurd h1' this
  | some y =>
    obtain ⟨hy, pre, post, e2, h3⟩ := List.find?_eq_some_iff_append.1 e
    refine ⟨pre, post, e2, fun z hz => ?_, ?_⟩
    · have := h3 z hz
      simpa using this
    · simpa using hy
/-- The next round: set by set, the first with which the least sum is kept. -/
def rowN (U : Nat → Nat → Int) : Nat → List Nat → Nat → List Nat
  | 0, _, _ => []
  | k + 1, l, sh => pickN U k l sh :: rowN U k (l.erase (pickN U k l sh)) (sh + 1)

/-- Is a list a round of n sets? -/
def roundB (n : Int) (l : List Int) : Bool := (l.all (fun x => inB x 0 (n - 1)) && decide l.Nodup) && (l.length : Int) == n
def rotB (n : Int) (rs : List (List Int)) : Bool := (inB n 1 8 && decide (rs.length ≤ 100)) && rs.all (roundB n)
/-- In how many rounds a set was at a sheet. -/
def usedN (rs : List (List Int)) (sh x : Nat) : Int := ((rs.filter fun l => l.getD sh (-1) == (x : Int)).length : Int)
def nextR (n : Int) (rs : List (List Int)) : List Int × Int :=
  if rotB n rs then (if rs.length = 100 then ([], 6) else ((rowN (usedN rs) n.toNat (List.range n.toNat) 0).map (fun (x : Nat) => (x : Int)), 0)) else ([], 2)
theorem usedN_ok {rs : List (List Int)} (h : rs.length ≤ 100) : uOk (usedN rs) := by
  intro i j
  have := List.length_filter_le (fun l : List Int => l.getD i (-1) == (j : Int)) rs
  unfold usedN
  omega
end Go.Proofs.YtjjphiecjhijiaaDoor
