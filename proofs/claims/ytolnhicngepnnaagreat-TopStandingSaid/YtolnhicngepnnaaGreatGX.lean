/- Small words of the game's walks at this seat. -/
import Derived.Test.YtolnhicngepnnaaGreatGM2
import Derived.Test.YtolnhicngepnnaaGreatF7
import Derived.Deep.DeepCutAuto
namespace Go.Proofs.YtolnhicngepnnaaGreat
open Go.RowKit

/-- One block alone may have been written. -/
structure Only (B : Nat) (w w' : World) : Prop where
  bel : Below B w w'
  rest : ∀ k, B < k → k < w.heap.size → w'.heap[k]? = w.heap[k]?
theorem Only.refl (B : Nat) (w : World) : Only B w w := ⟨Below.refl _ _, fun _ _ _ => rfl⟩
theorem Only.trans {B : Nat} {a b c : World} (h : Only B a b) (k : Only B b c) : Only B a c := ⟨h.bel.trans k.bel, fun i h1 h2 => (k.rest i h1 (Nat.lt_of_lt_of_le h2 h.bel.size)).trans (h.rest i h1 h2)⟩
theorem Only.setCell {B : Nat} {w w' : World} (h : Only B w w') (i : Nat) (v : Value) : Only B w (w'.setCell ⟨B, i, none⟩ v) :=
  ⟨h.bel.setCell (p := ⟨B, i, none⟩) (Nat.le_refl _) v, fun k h1 h2 => by
    have e : (w'.setCell ⟨B, i, none⟩ v).heap[k]? = w'.heap[k]? := by
      have hne : B ≠ k := by omega
      simp [World.setCell, Array.getElem?_modify, hne]
    rw [e]; exact h.rest k h1 h2⟩
theorem Only.of_below {B : Nat} {w w' : World} (h : Below w.heap.size w w') (hB : B ≤ w.heap.size) : Only B w w' := ⟨h.mono hB, fun k _ h2 => h.block k h2⟩

theorem only_drewN {B : Nat} {w w' : World} (h : Only B w w') (n : Nat) : Only B w (w'.drewN n) := ⟨drewNB h.bel n, h.rest⟩
theorem only_drew {B : Nat} {w w' : World} (h : Only B w w') : Only B w w'.drew := ⟨h.bel.drew, h.rest⟩
theorem heap_setCell_ne {w : World} {B k i : Nat} (v : Value) (h : B ≠ k) : (w.setCell ⟨B, i, none⟩ v).heap[k]? = w.heap[k]? := by simp [World.setCell, Array.getElem?_modify, h]
theorem flat_get {α : Type} (f : α → List Value) (s : Nat) (hs : ∀ x, (f x).length = s) (l : List α) : ∀ (j : Nat) (h : j < l.length) (c : Nat) (_ : c < s), (l.flatMap f)[j * s + c]? = (f l[j])[c]? := by
  induction l with
  | nil => intro j h; simp at h
  | cons m l ih =>
    intro j h c hc
    cases j with
    | zero =>
      simp only [List.flatMap_cons, Nat.zero_mul, Nat.zero_add, List.getElem_cons_zero]
      rw [List.getElem?_append_left (by rw [hs]; exact hc)]
    | succ j =>
      have h' : j < l.length := by simpa using h
      simp only [List.flatMap_cons, List.getElem_cons_succ]
      rw [List.getElem?_append_right (by rw [hs, Nat.succ_mul]; omega), hs, ← ih j h' c hc]
      congr 1
      rw [Nat.succ_mul]; omega
/-- The cells of the elements of a slice. -/
theorem SlV.elems {α : Type} {w : World} {v : Value} {l : List α} {f : α → List Value} {s : Nat} (hs : ∀ x, (f x).length = s) (h : SlV w v l.length (l.flatMap f)) :
    ∃ a cap, v = .slice a l.length cap ∧ l.length ≤ 140737488351232 ∧ ∀ k, k < l.length → ∃ b off, a = some ⟨b, off, none⟩ ∧ b < w.heap.size ∧
      ∀ j (h : j < l.length) c, c < s → w.cell? ⟨b, off + (j * s + c), none⟩ = (f l[j])[c]? := by
  obtain ⟨a, cap, rfl, hn, hc⟩ := h
  refine ⟨a, cap, rfl, hn, fun k hk => ?_⟩
  rcases hc with hc | ⟨b, off, rfl, hlt, hc⟩
  · omega
  · refine ⟨b, off, rfl, hlt, fun j hj c hcs => ?_⟩
    have h1 := flat_get f s hs l j hj c hcs
    have hlen : c < (f l[j]).length := by rw [hs]; exact hcs
    rw [List.getElem?_eq_getElem hlen] at h1 ⊢
    obtain ⟨h2, h3⟩ := List.getElem?_eq_some_iff.1 h1
    rw [hc _ h2, h3]
theorem within_any (n a b : Int) (w : World) :
    Calls Tryz.prog 30 #[.int .i64 n, .int .i64 a, .int .i64 b] w fun e w' => e = .returned (.bool (inB n a b)) ∧ w = w' := by
  go_enter Tryz.func30, Tryz.ntmps30
  go_wp2
  all_goals (go_ret; exact ⟨ret_bool (by simp [inB, *]; try omega), rfl⟩)
end Go.Proofs.YtolnhicngepnnaaGreat
