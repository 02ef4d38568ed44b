/- Own rows, and their laws (from the pebble seat). -/
import Derived.Test.YtolnhicngepnnaaRG
namespace Go.Proofs.Ytolnhicngepnnaa
open Go.RowKit Go.Shelf

/-- Two entries exchanged. -/
def swapL (a : List Nat) (i p : Nat) : List Nat := (a.set i (a.getD p 0)).set p (a.getD i 0)
theorem swapL_length (a : List Nat) (i p : Nat) : (swapL a i p).length = a.length := by simp [swapL]
theorem swapL_perm (a : List Nat) (i p : Nat) (hi : i < a.length) (hp : p < a.length) : (swapL a i p).Perm a := by
  have := List.set_set_perm hi hp
  simpa [swapL, List.getD_eq_getElem?_getD, hi, hp] using this
theorem swapL_get (a : List Nat) (i p j : Nat) (hi : i < a.length) (hp : p < a.length) : (swapL a i p).getD j 0 = if j = p then a.getD i 0 else if j = i then a.getD p 0 else a.getD j 0 := by
  unfold swapL
  by_cases h1 : j = p
  · subst h1; simp [List.getD_eq_getElem?_getD, hp]
  · rw [if_neg h1]
    by_cases h2 : j = i
    · subst h2
      simp [List.getD_eq_getElem?_getD, Ne.symm h1, hi]
    · simp [List.getD_eq_getElem?_getD, Ne.symm h1, Ne.symm h2, h2]
def natsV (a : List Nat) : List Value := a.map fun (x : Nat) => .int .i64 (x : Int)
theorem own_isCells {w : World} {base sz n : Nat} {e : TypeId} {v : Value} {xs : List Value} (h : w.ownsRow base e sz v n xs) {j : Nat} (hj : v.ownBlock = some j) {o : Obj} (ho : w.heap[j]? = some o) : o.isCells = true := by
  rcases h.2 with ⟨rfl, _⟩ | ⟨g, cap, cur, rfl, _, hh, _⟩
  · cases hj
  · obtain rfl : g = j := by simpa [Value.ownBlock] using hj
    rw [hh] at ho; cases ho; rfl
theorem own_kept {w w' : World} {base sz n : Nat} {e : TypeId} {v : Value} {xs : List Value} {row : Option Nat} (h : w.ownsRow base e sz v n xs) (hg : w.grownBy w' row) (hr : ∀ r, row = some r → ∃ o : Obj, w.heap[r]? = some o ∧ o.isCells = false) : w'.ownsRow base e sz v n xs := by
  refine h.kept hg ?_
  cases hv : v.ownBlock with
  | none => exact .inl rfl
  | some j =>
    refine .inr (fun e => ?_)
    obtain ⟨o, ho, hc⟩ := hr j e.symm
    rw [own_isCells h hv ho] at hc; cases hc
theorem own_cap {w : World} {base sz n : Nat} {e : TypeId} {v : Value} {xs : List Value} (h : w.ownsRow base e sz v n xs) : ∃ ad cap, v = .slice ad n cap ∧ n ≤ cap := by
  rcases h.2 with ⟨e, h0⟩ | ⟨g, cap, cur, e, _, _, hle, _⟩
  · exact ⟨none, 0, by rw [e, h0], by omega⟩
  · exact ⟨_, cap, e, hle⟩
theorem own_type {w : World} {base sz n : Nat} {e : TypeId} {v : Value} {xs : List Value} (h : w.ownsRow base e sz v n xs) : ∀ b, v.ownBlock = some b → ∃ cur, w.heap[b]? = some (.cells cur e (0, 0)) := by
  intro b hb
  rcases h.2 with ⟨e, h0⟩ | ⟨g, cap, cur, e, _, hg, hle, _⟩
  · rw [e] at hb; cases hb
  · rw [e] at hb
    cases hb
    exact ⟨cur, hg⟩
theorem own_same {w w' : World} {base sz n : Nat} {e : TypeId} {v : Value} {xs : List Value} (h : w.ownsRow base e sz v n xs) (hs : ∀ k o, v.ownBlock = some k → w.heap[k]? = some o → o.isCells = true → w'.heap[k]? = w.heap[k]?) : w'.ownsRow base e sz v n xs := by
  refine ⟨h.1, h.2.imp id ?_⟩
  rintro ⟨g, cap, cur, rfl, h1, h2, h3⟩
  exact ⟨g, cap, cur, rfl, h1, (hs g _ rfl h2 rfl).trans h2, h3⟩
end Go.Proofs.Ytolnhicngepnnaa
