/-
  Small words for the walks of this seat: facts hidden from simp, slices that read as lists, worlds that keep old blocks.
-/
import Derived.Test.YtolnhicngepnnaaGreatRows
import Derived.WalkKit
import Derived.WalkSpells
import Derived.WalkLawsBesides
import Derived.BigQuiet
import Derived.Deep.QuietTactic
namespace Go.Proofs.YtolnhicngepnnaaGreat
open Go.RowKit

theorem hid {p : Prop} (h : p) : Hid p := h

/-- Old cells and marks read as before in a later world. -/
theorem bcell {B : Nat} {W w1 : World} (hb : Below B W w1) : (∀ b o, b < B → w1.cell? ⟨b, o, none⟩ = W.cell? ⟨b, o, none⟩) ∧ (∀ b o, b < B → w1.frozen? ⟨b, o, none⟩ = W.frozen? ⟨b, o, none⟩) :=
  ⟨fun b o h => hb.cell (p := ⟨b, o, none⟩) h, fun b o h => hb.frozen (p := ⟨b, o, none⟩) h⟩

/-- The cells from a place on hold the values. -/
def CellsAt (w : World) (b off : Nat) (vs : List Value) : Prop := ∀ i (h : i < vs.length), w.cell? ⟨b, off + i, none⟩ = some vs[i]

/-- A slice value of n elements whose cells, flattened, hold the values. -/
def SlV (w : World) (v : Value) (n : Nat) (vs : List Value) : Prop :=
  ∃ a cap, v = .slice a n cap ∧ n ≤ 140737488351232 ∧ (n = 0 ∨ ∃ b off, a = some ⟨b, off, none⟩ ∧ b < w.heap.size ∧ CellsAt w b off vs)

theorem CellsAt.below {B : Nat} {w w' : World} {b off : Nat} {vs : List Value} (h : CellsAt w b off vs) (hb : Below B w w') (hlt : b < B) : CellsAt w' b off vs :=
  fun i hi => (hb.cell (p := ⟨b, off + i, none⟩) hlt).trans (h i hi)

theorem SlV.below {w w' : World} {v : Value} {n : Nat} {vs : List Value} (h : SlV w v n vs) (hb : Below w.heap.size w w') : SlV w' v n vs := by
  obtain ⟨a, cap, rfl, hn, hc⟩ := h
  refine ⟨a, cap, rfl, hn, hc.imp id ?_⟩
  rintro ⟨b, off, rfl, hlt, hc⟩
  exact ⟨b, off, rfl, Nat.lt_of_lt_of_le hlt hb.size, hc.below hb hlt⟩

/-- A slice of ints. -/
def SlI (w : World) (v : Value) (l : List Int) : Prop := SlV w v l.length (l.map (.int .i64))
theorem SlI.below {w w' : World} {v : Value} {l : List Int} (h : SlI w v l) (hb : Below w.heap.size w w') : SlI w' v l := SlV.below h hb

theorem SlI.open {w : World} {v : Value} {l : List Int} (h : SlI w v l) :
    ∃ a cap, v = .slice a l.length cap ∧ l.length ≤ 140737488351232 ∧ ∀ k, k < l.length → ∃ b off, a = some ⟨b, off, none⟩ ∧ b < w.heap.size ∧ ∀ j (h : j < l.length), w.cell? ⟨b, off + j, none⟩ = some (.int .i64 l[j]) := by
  obtain ⟨a, cap, rfl, hn, hc⟩ := h
  refine ⟨a, cap, rfl, hn, fun k hk => ?_⟩
  rcases hc with hc | ⟨b, off, rfl, hlt, hc⟩
  · omega
  · exact ⟨b, off, rfl, hlt, fun j hj => by have := hc j (by simpa using hj); simpa using this⟩

/-- A new block under a name: what is known of the world behind it. -/
theorem box_new (w : World) (cs : Array Value) (t : TypeId) : ∃ W0, w.alloc (.cells cs t) = W0 ∧ W0.heap.size = w.heap.size + 1 ∧ Below w.heap.size w W0 ∧ (∀ i, W0.cell? ⟨w.heap.size, i, none⟩ = cs[i]?) ∧ (∀ i, W0.frozen? ⟨w.heap.size, i, none⟩ = false) :=
  ⟨_, rfl, by simp, (Below.refl _ _).alloc (Nat.le_refl _) _, fun i => World.cell?_alloc_new _ _ _ _, fun i => World.frozen?_alloc_new _ _ _ _⟩

theorem rdB {B : Nat} {W wr : World} (hb : Below B W wr) {b o : Nat} {v : Value} (hlt : b < B) (h : W.cell? ⟨b, o, none⟩ = some v) : wr.cell? ⟨b, o, none⟩ = some v :=
  (hb.cell (p := ⟨b, o, none⟩) hlt).trans h
theorem frB {B : Nat} {W wr : World} (hb : Below B W wr) {b o : Nat} (hlt : b < B) (h : W.frozen? ⟨b, o, none⟩ = false) : wr.frozen? ⟨b, o, none⟩ = false :=
  (hb.frozen (p := ⟨b, o, none⟩) hlt).trans h
theorem drewNB {B : Nat} {W wr : World} (hb : Below B W wr) (n : Nat) : Below B W (wr.drewN n) := ⟨hb.os, hb.tape, hb.output, hb.size, hb.block⟩
theorem SlV.drewN {w : World} {v : Value} {n : Nat} {vs : List Value} (h : SlV w v n vs) (k : Nat) : SlV (w.drewN k) v n vs := h
theorem SlI.drewN {w : World} {v : Value} {l : List Int} (h : SlI w v l) (k : Nat) : SlI (w.drewN k) v l := h
theorem bcs {W w' : World} (hb : Below W.heap.size W w') {a : Addr} {v : Value} (h : W.cell? a = some v) : w'.cell? a = some v :=
  (hb.cell (World.block_lt_of_cell? W a h)).trans h
theorem SlV.drew {w : World} {v : Value} {n : Nat} {vs : List Value} (h : SlV w v n vs) : SlV w.drew v n vs := h
theorem SlI.drew {w : World} {v : Value} {l : List Int} (h : SlI w v l) : SlI w.drew v l := h

theorem step_all {α : Type} {l : List α} {P : α → Prop} {k : Nat} (h : ∀ j (hj : j < l.length), j < k → P l[j]) (hk : k < l.length) (hp : P l[k]) : ∀ j (hj : j < l.length), j < k + 1 → P l[j] := by
  intro j hj hjk
  by_cases e : j = k
  · subst e; exact hp
  · exact h j hj (by omega)
theorem all_of {α : Type} {l : List α} {p : α → Bool} {k : Nat} (h : ∀ j (hj : j < l.length), j < k → p l[j] = true) (hk : l.length ≤ k) : l.all p = true := by
  rw [List.all_eq_true]
  intro x hx
  obtain ⟨j, hj, rfl⟩ := List.getElem_of_mem hx
  exact h j hj (by omega)
theorem not_all {α : Type} {l : List α} {p : α → Bool} {k : Nat} (hk : k < l.length) (h : p l[k] = false) : l.all p = false := by
  rw [List.all_eq_false]
  exact ⟨l[k], List.getElem_mem _, by simp [h]⟩
theorem not_any {α : Type} {l : List α} {p : α → Bool} {k : Nat} (h : ∀ j (hj : j < l.length), j < k → p l[j] = false) (hk : l.length ≤ k) : l.any p = false := by
  rw [List.any_eq_false]
  intro x hx
  obtain ⟨j, hj, rfl⟩ := List.getElem_of_mem hx
  simp [h j hj (by omega)]
theorem any_hit {α : Type} {l : List α} {p : α → Bool} {k : Nat} (hk : k < l.length) (h : p l[k] = true) : l.any p = true :=
  List.any_eq_true.2 ⟨l[k], List.getElem_mem _, h⟩

theorem ret_bool {a b : Bool} (h : a = b) : Ending.returned (.bool a) = .returned (.bool b) := by rw [h]
theorem ret_int {k : IntKind} {a b : Int} (h : a = b) : Ending.returned (.int k a) = .returned (.int k b) := by rw [h]

end Go.Proofs.YtolnhicngepnnaaGreat
