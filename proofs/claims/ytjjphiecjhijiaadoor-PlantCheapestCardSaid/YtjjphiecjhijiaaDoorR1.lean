import Derived.Test.YtjjphiecjhijiaaDoorKeys
import Derived.Test.YtjjphiecjhijiaaDoorO2
namespace Go.Proofs.YtjjphiecjhijiaaDoor
open Go.RowKit Go.Maps

/-- How many entries are still to come: a loop's measure. -/
def leftN (w : World) (r b : Nat) : Nat :=
  match w.heap[r]?, w.heap[b]? with
  | some (.mapIter _ _ seen _), some (.map es _) => (es.toList.filter fun e => !seen.contains e.born).length
  | _, _ => 0
theorem leftK_length {K : Type} (m : List (K × Value)) (es : List MapEntry) (seen : Array Nat) (h : m.length = es.length) : (leftK m es seen).length = (es.filter fun e => !seen.contains e.born).length := by
  unfold leftK
  rw [List.length_map]
  have : es.filter (fun e => !seen.contains e.born) = ((m.zip es).filter (fun x => !seen.contains x.2.born)).map (·.2) := by
    conv => lhs; rw [← List.map_snd_zip (l₁ := m) (l₂ := es) (by omega)]
    rw [List.filter_map]; rfl
  rw [this, List.length_map]
theorem IterF.left_eq {K : Type} [DecidableEq K] {enc : K → Value} {w : World} {r b : Nat} {M : K → Option Value} {left : List K} (h : IterF enc w r b M left) : leftN w r b = left.length := by
  obtain ⟨m, es, clock, seen, h1, h2, h3, h4, h5, h6, h7, rfl⟩ := h
  have hlen : m.length = es.toList.length := by have := congrArg List.length h2; simpa using this.symm
  rw [leftK_length m es.toList seen hlen, leftN, h7, h1]
theorem IterF.next' {P : Program} {K : Type} [DecidableEq K] {enc : K → Value} {w : World} {r b : Nat} {M : K → Option Value} {left : List K} (h : IterF enc w r b M left) :
    (left = [] ∧ ∀ ty, (Instr.next (.pointer (some ⟨r, 0, none⟩)) false ty).run P w = .ok (.tuple #[.bool false]) w) ∨
    ∃ k v w', k ∈ left ∧ M k = some v ∧ (∀ ty, (Instr.next (.pointer (some ⟨r, 0, none⟩)) false ty).run P w = .ok (.tuple #[.bool true, enc k, v]) w') ∧
      IterF enc w' r b M (left.filter (fun k' => decide (k' ≠ k))) ∧ AtF w' r b (enc k) v ∧ w.grownBy w' (some r) ∧ w'.heap.size = w.heap.size := by
  rcases h.next (P := P) 0 with ⟨h1, h2⟩ | ⟨k, v, w', h1, h2, h3, h4⟩
  · exact .inl ⟨h1, fun ty => h2⟩
  · exact .inr ⟨k, v, w', h1, h2, fun ty => h3, h4⟩
theorem filter_lt {K : Type} [DecidableEq K] {left : List K} {k : K} (h : k ∈ left) : (left.filter (fun k' => decide (k' ≠ k))).length < left.length := by
  apply Nat.lt_of_le_of_ne (List.length_filter_le _ _)
  intro e
  have := List.length_filter_eq_length_iff.1 e k h
  simp at this
theorem MapF.grown {K : Type} [DecidableEq K] {enc : K → Value} {w w' : World} {b : Nat} {r : Option Nat} {M : K → Option Value} (h : MapF enc w b M) (hg : w.grownBy w' r) (hne : some b ≠ r) : MapF enc w' b M :=
  h.block (hg.block b h.lt hne)
theorem IterF.grown {K : Type} [DecidableEq K] {enc : K → Value} {w w' : World} {r b : Nat} {row : Option Nat} {M : K → Option Value} {left : List K} (h : IterF enc w r b M left) (hg : w.grownBy w' row) (h1 : some b ≠ row) (h2 : some r ≠ row) : IterF enc w' r b M left :=
  h.block (hg.block b h.lt.1 h1) (hg.block r h.lt.2 h2)
theorem IterF.below {K : Type} [DecidableEq K] {enc : K → Value} {w w' : World} {r b : Nat} {M : K → Option Value} {left : List K} (h : IterF enc w r b M left) (hb : Below w.heap.size w w') : IterF enc w' r b M left :=
  h.block (hb.block b h.lt.1) (hb.block r h.lt.2)
theorem map_ne_row {K : Type} [DecidableEq K] {enc : K → Value} {w : World} {b B sz n : Nat} {t : TypeId} {v : Value} {xs : List Value} {M : K → Option Value} (h : MapF enc w b M) (ho : w.ownsRow B t sz v n xs) : some b ≠ v.ownBlock := by
  obtain ⟨m, ⟨es, clock, hb, _⟩, _⟩ := h
  intro e
  rcases ho.2 with ⟨rfl, _⟩ | ⟨g, cap, cur, rfl, hg, hh, _⟩
  · cases e
  · have : b = g := by simpa [Value.ownBlock] using e
    subst this
    rw [hb] at hh; cases hh
theorem iter_ne_map {K : Type} [DecidableEq K] {enc : K → Value} {w : World} {r b b' : Nat} {M M' : K → Option Value} {left : List K} (h : IterF enc w r b M left) (h' : MapF enc w b' M') : r ≠ b' := by
  obtain ⟨m, es, clock, seen, h1, h2, h3, h4, h5, h6, h7, h8⟩ := h
  obtain ⟨m', ⟨es', clock', hb, _⟩, _⟩ := h'
  intro e
  subst e
  rw [hb] at h7; cases h7

/-- A set of states: a map whose elements are all true. -/
def SetF (w : World) (b : Nat) (S : Int × Int → Prop) : Prop := ∃ M, MapF enc2 w b M ∧ (∀ k, (M k).isSome = true ↔ S k) ∧ ∀ k v, M k = some v → v = .bool true
theorem SetF.below {w w' : World} {b : Nat} {S : Int × Int → Prop} (h : SetF w b S) (hb : Below w.heap.size w w') : SetF w' b S := by
  obtain ⟨M, h1, h2⟩ := h
  exact ⟨M, h1.below' hb, h2⟩
theorem SetF.grown {w w' : World} {b : Nat} {r : Option Nat} {S : Int × Int → Prop} (h : SetF w b S) (hg : w.grownBy w' r) (hne : some b ≠ r) : SetF w' b S := by
  obtain ⟨M, h1, h2⟩ := h
  exact ⟨M, h1.grown hg hne, h2⟩
theorem SetF.lt {w : World} {b : Nat} {S : Int × Int → Prop} (h : SetF w b S) : b < w.heap.size := by obtain ⟨M, h1, _⟩ := h; exact h1.lt
theorem SetF.congr {w : World} {b : Nat} {S S' : Int × Int → Prop} (h : SetF w b S) (hs : ∀ k, S k ↔ S' k) : SetF w b S' := by
  obtain ⟨M, h1, h2, h3⟩ := h
  exact ⟨M, h1, fun k => (h2 k).trans (hs k), h3⟩
theorem SetF.made (w : World) : SetF (w.alloc (.map #[] 0)) w.heap.size (fun _ => False) := ⟨_, MapF.made w, fun k => by simp, fun k v h => by cases h⟩
theorem SetF.add {w : World} {b : Nat} {S : Int × Int → Prop} (h : SetF w b S) (k : Int × Int) :
    ∃ w', (Instr.mapUpdate 134 (.map (some b)) (.agg #[.int .i64 k.1, .int .i64 k.2]) (.bool true)).run Tryd.prog w = .ok () w' ∧ SetF w' b (fun k' => k' = k ∨ S k') ∧ w.grownBy w' (some b) ∧ w'.heap.size = w.heap.size := by
  obtain ⟨M, h1, h2, h3⟩ := h
  obtain ⟨w', hr, hm, hg, hs⟩ := h1.update key73 Tryd.underlying134 k (.bool true)
  refine ⟨w', hr, ⟨_, hm, ?_, ?_⟩, hg, hs⟩
  · intro k'
    by_cases e : k' = k
    · simp [e]
    · simp [e, h2]
  · intro k' v hv
    by_cases e : k' = k
    · simp [e] at hv; exact hv.symm
    · simp [e] at hv; exact h3 k' v hv

/-- The states that can be there ahead of an hour. -/
def PlantD.succ (p : PlantD) (h : Nat) (s s' : Int × Int) (q : Nat) : Prop := ∃ n : Nat, n < q ∧ p.next h s.1 n ≤ p.high ∧ s' = (p.next h s.1 n, (n : Int))
def PlantD.reach (p : PlantD) : Nat → Int × Int → Prop
  | 0, s => s = (p.heat, 0)
  | h + 1, s' => ∃ s, p.reach h s ∧ p.succ h s s' (2 ^ p.m)
theorem reach_bd {p : PlantD} (ho : p.Ok) (h : Nat) (s : Int × Int) (hr : p.reach h s) : -1000000 ≤ s.1 ∧ s.1 ≤ 1001000 ∧ ∃ n : Nat, s.2 = n ∧ n < 2 ^ p.m := by
  have := ho.low1; have := ho.low2; have := ho.high2; have := ho.heat1; have := ho.heat2
  have hp := pow_small (m := p.m) ho.few
  cases h with
  | zero => simp only [PlantD.reach] at hr; subst hr; exact ⟨by simp; omega, by simp; omega, 0, by simp, by omega⟩
  | succ h =>
    obtain ⟨s0, _, n, hn, hh, rfl⟩ := hr
    refine ⟨?_, by simp; omega, n, rfl, hn⟩
    simp only [PlantD.next] at hh ⊢
    omega
end Go.Proofs.YtjjphiecjhijiaaDoor
