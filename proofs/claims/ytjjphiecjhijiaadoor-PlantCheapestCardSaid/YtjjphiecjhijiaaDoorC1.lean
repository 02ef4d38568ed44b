import Derived.Test.YtjjphiecjhijiaaDoorR2
namespace Go.Proofs.YtjjphiecjhijiaaDoor
open Go.RowKit Go.Maps

/-- The best of the first n numbers of machines at a state, of what is best behind them. -/
def PlantD.step (p : PlantD) (h : Nat) (f : Int × Int → Option (Int × Nat)) (s : Int × Int) : Nat → Option (Int × Nat)
  | 0 => none
  | n + 1 => match (if p.next h s.1 n ≤ p.high then f (p.next h s.1 n, n) else none) with
    | none => p.step h f s n
    | some c => match p.step h f s n with
      | none => some (c.1 + p.hcost h s.2.toNat n, n)
      | some a => if c.1 + p.hcost h s.2.toNat n < a.1 then some (c.1 + p.hcost h s.2.toNat n, n) else some a
/-- The best from a state on, with r hours to go. -/
def PlantD.bst (p : PlantD) : Nat → Int × Int → Option (Int × Nat)
  | 0, _ => some (0, 0)
  | r + 1, s => p.step (p.loads.length - (r + 1)) (p.bst r) s (2 ^ p.m)
theorem step_bd {p : PlantD} (ho : p.Ok) (h : Nat) (f : Int × Int → Option (Int × Nat)) (s : Int × Int) (B : Int) (hf : ∀ s c, f s = some c → 0 ≤ c.1 ∧ c.1 ≤ B) :
    ∀ n c, p.step h f s n = some c → 0 ≤ c.1 ∧ c.1 ≤ B + 4000004000000 ∧ c.2 < n := by
  intro n
  induction n with
  | zero => intro c hc; cases hc
  | succ n ih =>
    intro c hc
    unfold PlantD.step at hc
    have hb := Ok_hcost ho h s.2.toNat n
    split at hc
    · have := ih c hc; omega
    · rename_i c0 h0
      have hc0 : 0 ≤ c0.1 ∧ c0.1 ≤ B := by
        split at h0
        · exact hf _ _ h0
        · cases h0
      split at hc
      · obtain rfl := Option.some.inj hc
        simp only; omega
      · rename_i a ha
        split at hc
        · obtain rfl := Option.some.inj hc
          simp only; omega
        · obtain rfl := Option.some.inj hc
          have := ih a ha; omega
theorem bst_bd {p : PlantD} (ho : p.Ok) (r : Nat) (s : Int × Int) (c : Int × Nat) (hc : p.bst r s = some c) : 0 ≤ c.1 ∧ c.1 ≤ r * 4000004000000 ∧ c.2 < 2 ^ p.m := by
  induction r generalizing s c with
  | zero => obtain rfl := Option.some.inj hc; have := pow_small (m := p.m) ho.few; simp; omega
  | succ r ih =>
    have := step_bd ho _ (p.bst r) s (r * 4000004000000) (fun s c h => ⟨(ih s c h).1, (ih s c h).2.1⟩) _ c hc
    refine ⟨this.1, ?_, this.2.2⟩
    have h2 := this.2.1
    push_cast
    omega

/-- A choice, as the map holds it. -/
def encC (c : Int × Nat) : Value := .agg #[.int .i64 c.1, .int .i64 c.2]
def ChF (w : World) (b : Nat) (f : Int × Int → Option (Int × Nat)) : Prop := MapF enc2 w b (fun s => (f s).map encC)
theorem ChF.below {w w' : World} {b : Nat} {f : Int × Int → Option (Int × Nat)} (h : ChF w b f) (hb : Below w.heap.size w w') : ChF w' b f := MapF.below' h hb
theorem ChF.grown {w w' : World} {b : Nat} {r : Option Nat} {f : Int × Int → Option (Int × Nat)} (h : ChF w b f) (hg : w.grownBy w' r) (hne : some b ≠ r) : ChF w' b f := MapF.grown h hg hne
theorem ChF.lt {w : World} {b : Nat} {f : Int × Int → Option (Int × Nat)} (h : ChF w b f) : b < w.heap.size := MapF.lt h
theorem ChF.congr {w : World} {b : Nat} {f g : Int × Int → Option (Int × Nat)} (h : ChF w b f) (hs : ∀ k, f k = g k) : ChF w b g := by
  have : f = g := funext hs
  exact this ▸ h
theorem ChF.made (w : World) : ChF (w.alloc (.map #[] 0)) w.heap.size (fun _ => none) := MapF.made w
theorem ChF.add {w : World} {b : Nat} {f : Int × Int → Option (Int × Nat)} (h : ChF w b f) (k : Int × Int) (c : Int × Nat) :
    ∃ w', (Instr.mapUpdate 77 (.map (some b)) (.agg #[.int .i64 k.1, .int .i64 k.2]) (.agg #[.int .i64 c.1, .int .i64 c.2])).run Tryd.prog w = .ok () w' ∧ ChF w' b (fun k' => if k' = k then some c else f k') ∧ w.grownBy w' (some b) ∧ w'.heap.size = w.heap.size := by
  obtain ⟨w', hr, hm, hg, hs⟩ := MapF.update key73 Tryd.underlying77 h k (encC c)
  refine ⟨w', by simpa only [enc2, encC] using hr, ?_, hg, hs⟩
  unfold ChF
  have : (fun s => ((if s = k then some c else f s).map encC)) = fun s => if s = k then some (encC c) else (f s).map encC := by
    funext s; by_cases e : s = k <;> simp [e]
  rw [this]; exact hm
theorem info75 : (Tryd.prog.info? 75).map (fun i => (i.zero, i.size, i.bytes)) = some (some (.agg #[.int .i64 0, .int .i64 0]), 2, 16) := by kernel_rfl
theorem zero75 (w : World) : (zeroValue 75).run Tryd.prog w = .ok (.agg #[.int .i64 0, .int .i64 0]) w := by
  obtain ⟨i0, hi, hz0, hz1, hz2⟩ := info_parts info75
  simp [zeroValue, typeInfo, hi, hz0, go_sem]
theorem ChF.get {w : World} {b : Nat} {f : Int × Int → Option (Int × Nat)} (h : ChF w b f) (k : Int × Int) :
    (Instr.lookup 77 (.map (some b)) (.agg #[.int .i64 k.1, .int .i64 k.2]) true).run Tryd.prog w = .ok (.tuple #[.agg #[.int .i64 ((f k).getD (0, 0)).1, .int .i64 (((f k).getD (0, 0)).2 : Int)], .bool (f k).isSome]) w := by
  have := MapF.lookup_ok key73 Tryd.underlying77 h (zero75 w) k
  cases e : f k <;> simp [e, encC, enc2] at this ⊢ <;> exact this
theorem ChF.get1 {w : World} {b : Nat} {f : Int × Int → Option (Int × Nat)} (h : ChF w b f) (k : Int × Int) :
    (Instr.lookup 77 (.map (some b)) (.agg #[.int .i64 k.1, .int .i64 k.2]) false).run Tryd.prog w = .ok (.agg #[.int .i64 ((f k).getD (0, 0)).1, .int .i64 (((f k).getD (0, 0)).2 : Int)]) w := by
  have := MapF.lookup key73 Tryd.underlying77 h (zero75 w) k
  cases e : f k <;> simp [e, encC, enc2] at this ⊢ <;> exact this
end Go.Proofs.YtjjphiecjhijiaaDoor
