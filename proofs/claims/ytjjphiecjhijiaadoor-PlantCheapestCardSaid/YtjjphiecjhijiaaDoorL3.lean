import Derived.Test.YtjjphiecjhijiaaDoorL2
namespace Go.Proofs.YtjjphiecjhijiaaDoor
open Go.RowKit Go.Maps

/-- What is chosen is the least of all, and the first of those that are as cheap. -/
theorem step_min {p : PlantD} {h : Nat} {f : Int × Int → Option (Int × Nat)} {s : Int × Int} (n : Nat) :
    ∀ m, m < n → p.next h s.1 m ≤ p.high → ∀ c', f (p.next h s.1 m, (m : Int)) = some c' → ∃ c, p.step h f s n = some c ∧ c.1 ≤ c'.1 + p.hcost h s.2.toNat m ∧ (m < c.2 → c.1 < c'.1 + p.hcost h s.2.toNat m) := by
  induction n with
  | zero => intro m hm; omega
  | succ n ih =>
    intro m hm hle c' hc'
    unfold PlantD.step
    by_cases e : m = n
    · subst e
      rw [if_pos hle, hc']
      simp only
      cases hs : p.step h f s m with
      | none => exact ⟨_, rfl, Int.le_refl _, fun h => absurd h (Nat.lt_irrefl _)⟩
      | some a =>
        simp only
        by_cases hlt : c'.1 + p.hcost h s.2.toNat m < a.1
        · rw [if_pos hlt]; exact ⟨_, rfl, Int.le_refl _, fun h => absurd h (Nat.lt_irrefl _)⟩
        · rw [if_neg hlt]
          have := (step_some hs).1
          exact ⟨_, rfl, by omega, fun h => by omega⟩
    · obtain ⟨c, hc, h1, h2⟩ := ih m (by omega) hle c' hc'
      have hcn := (step_some hc).1
      split
      · exact ⟨c, hc, h1, h2⟩
      · rename_i c0 h0
        rw [hc]
        simp only
        by_cases hlt : c0.1 + p.hcost h s.2.toNat n < c.1
        · rw [if_pos hlt]; exact ⟨_, rfl, by simp only; omega, fun _ => by simp only; omega⟩
        · rw [if_neg hlt]; exact ⟨c, rfl, h1, h2⟩

/-- The test that the document's Cool makes of each number of machines: true at what is picked, and at no number before it. -/
theorem pick_first {p : PlantD} (ho : p.Ok) (h0 : (p.bst p.loads.length (p.heat, 0)).isSome = true) (k : Nat) (hk : k < p.loads.length) (n : Nat) (hn : n ≤ p.pick k) :
    ((n < p.pick k ∧ (p.next k (p.path k).1 n ≤ p.high → p.lst (p.loads.length - (k + 1)) (p.next k (p.path k).1 n, (n : Int)) < 0 ∨ p.lst (p.loads.length - (k + 1)) (p.next k (p.path k).1 n, (n : Int)) + p.hcost k (p.path k).2.toNat n ≠ p.lst (p.loads.length - k) (p.path k)))) ∨
    (n = p.pick k ∧ p.next k (p.path k).1 n ≤ p.high ∧ 0 ≤ p.lst (p.loads.length - (k + 1)) (p.next k (p.path k).1 n, (n : Int)) ∧ p.lst (p.loads.length - (k + 1)) (p.next k (p.path k).1 n, (n : Int)) + p.hcost k (p.path k).2.toNat n = p.lst (p.loads.length - k) (p.path k)) := by
  have hp := (path_ok h0 k (by omega)).2
  cases hc : p.bst (p.loads.length - k) (p.path k) with
  | none => rw [hc] at hp; cases hp
  | some c =>
    have hpick : p.pick k = c.2 := by rw [PlantD.pick, hc]; rfl
    have hl : p.lst (p.loads.length - k) (p.path k) = c.1 := by rw [PlantD.lst, hc]; rfl
    have hcs := hc
    rw [show p.loads.length - k = (p.loads.length - (k + 1)) + 1 by omega] at hcs
    unfold PlantD.bst at hcs
    rw [show p.loads.length - (p.loads.length - (k + 1) + 1) = k by omega] at hcs
    obtain ⟨h1, h2, c', h3, h4⟩ := step_some hcs
    rw [hl, hpick]
    rw [hpick] at hn
    by_cases e : n = c.2
    · right
      subst e
      have hb := bst_bd ho _ _ _ h3
      have hl2 : p.lst (p.loads.length - (k + 1)) (p.next k (p.path k).1 c.2, (c.2 : Int)) = c'.1 := by rw [PlantD.lst, h3]; rfl
      exact ⟨rfl, h2, by rw [hl2]; omega, by rw [hl2]; omega⟩
    · left
      refine ⟨by omega, fun hle => ?_⟩
      cases hd : p.bst (p.loads.length - (k + 1)) (p.next k (p.path k).1 n, (n : Int)) with
      | none => left; rw [PlantD.lst, hd]; simp [lstO]
      | some d =>
        right
        obtain ⟨c2, hc2, h5, h6⟩ := step_min (p := p) (h := k) (f := p.bst (p.loads.length - (k + 1))) (s := p.path k) (2 ^ p.m) n (by omega) hle d hd
        rw [hcs] at hc2
        obtain rfl := Option.some.inj hc2
        have := h6 (by omega)
        rw [PlantD.lst, hd]
        simp only [lstO]
        omega
end Go.Proofs.YtjjphiecjhijiaaDoor
