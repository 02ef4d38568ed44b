import Derived.Test.YtjjphiecjhijiaaDoorC2
namespace Go.Proofs.YtjjphiecjhijiaaDoor
open Go.RowKit Go.Maps

/-- The states that the best schedule goes through, and its numbers. -/
def PlantD.path (p : PlantD) : Nat → Int × Int
  | 0 => (p.heat, 0)
  | k + 1 => (p.next k (p.path k).1 ((p.bst (p.loads.length - k) (p.path k)).getD (0, 0)).2, (((p.bst (p.loads.length - k) (p.path k)).getD (0, 0)).2 : Int))
def PlantD.pick (p : PlantD) (k : Nat) : Nat := ((p.bst (p.loads.length - k) (p.path k)).getD (0, 0)).2
theorem path_succ (p : PlantD) (k : Nat) : p.path (k + 1) = (p.next k (p.path k).1 (p.pick k), (p.pick k : Int)) := rfl
def PlantD.plan (p : PlantD) (k : Nat) : List Int := (List.range k).map fun j => (p.pick j : Int)
theorem plan_succ (p : PlantD) (k : Nat) : p.plan (k + 1) = p.plan k ++ [(p.pick k : Int)] := by simp [PlantD.plan, List.range_succ]
theorem plan_length (p : PlantD) (k : Nat) : (p.plan k).length = k := by simp [PlantD.plan]
/-- Cool's answer. -/
def PlantD.coolB (p : PlantD) : Option (Int × Nat) := if p.ok then p.bst p.loads.length (p.heat, 0) else none
def PlantD.coolL (p : PlantD) : List Int := if p.coolB.isSome then p.plan p.loads.length else []
def PlantD.coolC (p : PlantD) : Int := (p.coolB.getD (0, 0)).1
def PlantD.coolE (p : PlantD) : Int := if p.ok then (if p.coolB.isSome then 0 else 7) else 2
def CoolPost (p : PlantD) (w : World) (e : Ending) (w' : World) : Prop := ∃ v, e = .returned (.tuple #[v, .int .i64 p.coolC, .int .i64 p.coolE]) ∧ SlI w' v p.coolL ∧ Below w.heap.size w w'

theorem step_some {p : PlantD} {h : Nat} {f : Int × Int → Option (Int × Nat)} {s : Int × Int} {n : Nat} {c : Int × Nat} (hc : p.step h f s n = some c) :
    c.2 < n ∧ p.next h s.1 c.2 ≤ p.high ∧ ∃ c', f (p.next h s.1 c.2, (c.2 : Int)) = some c' ∧ c.1 = c'.1 + p.hcost h s.2.toNat c.2 := by
  induction n generalizing c with
  | zero => cases hc
  | succ n ih =>
    unfold PlantD.step at hc
    split at hc
    · have := ih hc; exact ⟨by omega, this.2⟩
    · rename_i c0 h0
      have hle : p.next h s.1 n ≤ p.high ∧ f (p.next h s.1 n, (n : Int)) = some c0 := by
        split at h0
        · rename_i hle; exact ⟨hle, h0⟩
        · cases h0
      split at hc
      · obtain rfl := Option.some.inj hc
        exact ⟨Nat.lt_succ_self _, hle.1, c0, hle.2, rfl⟩
      · rename_i a ha
        split at hc
        · obtain rfl := Option.some.inj hc
          exact ⟨Nat.lt_succ_self _, hle.1, c0, hle.2, rfl⟩
        · obtain rfl := Option.some.inj hc
          have := ih ha; exact ⟨by omega, this.2⟩
/-- Along the path each state is reached, and a best one is known. -/
theorem path_ok {p : PlantD} (h0 : (p.bst p.loads.length (p.heat, 0)).isSome = true) : ∀ k, k ≤ p.loads.length → p.reach k (p.path k) ∧ (p.bst (p.loads.length - k) (p.path k)).isSome = true := by
  intro k
  induction k with
  | zero => intro _; exact ⟨rfl, h0⟩
  | succ k ih =>
    intro hk
    obtain ⟨hr, hs⟩ := ih (by omega)
    cases hc : p.bst (p.loads.length - k) (p.path k) with
    | none => rw [hc] at hs; cases hs
    | some c =>
      have hcs := hc
      rw [show p.loads.length - k = (p.loads.length - (k + 1)) + 1 by omega] at hcs
      unfold PlantD.bst at hcs
      rw [show p.loads.length - (p.loads.length - (k + 1) + 1) = k by omega] at hcs
      obtain ⟨h1, h2, c', h3, h4⟩ := step_some hcs
      have hp : p.path (k + 1) = (p.next k (p.path k).1 c.2, (c.2 : Int)) := by rw [path_succ, PlantD.pick, hc]; rfl
      rw [hp]
      exact ⟨⟨_, hr, c.2, h1, h2, rfl⟩, by rw [h3]; rfl⟩
theorem pick_lt {p : PlantD} (ho : p.Ok) (k : Nat) : p.pick k < 2 ^ p.m := by
  have hpw := pow_small (m := p.m) ho.few
  unfold PlantD.pick
  cases hc : p.bst (p.loads.length - k) (p.path k) with
  | none => simp; omega
  | some c => exact (bst_bd ho _ _ _ hc).2.2
end Go.Proofs.YtjjphiecjhijiaaDoor
