/- Numbers within bounds, and slices of structs of three numbers (jobs), at this seat. -/
import Derived.Test.YtolnhicngepnnaaGreatBase
import Derived.Deep.DeepCutAuto
import Derived.Deep.Draws
import Derived.Deep.RegionHeld3
import Derived.Deep.RegionLaw
import Derived.Deep.AppendLies
import Derived.MapKept
import Derived.Maps.AppendAt
import Derived.RangeFuncOwn
namespace Go.Proofs.YtolnhicngepnnaaGreat
open Go.RowKit

def inB (n a b : Int) : Bool := decide (a ≤ n) && decide (n ≤ b)
/-- The index that IndexFunc gives. -/
def idxOf {α : Type} (p : α → Bool) (l : List α) : Int := match l.findIdx? p with | some i => (i : Int) | none => -1

theorem idxOf_hit {α : Type} (p : α → Bool) (l : List α) (k : Nat) (hk : k < l.length) (hno : ∀ j (h : j < l.length), j < k → p l[j] = false) (hp : p l[k] = true) : idxOf p l = k := by
  have : l.findIdx? p = some k := by
    rw [List.findIdx?_eq_some_iff_getElem]
    exact ⟨hk, hp, fun j hj => by simpa using hno j (by omega) hj⟩
  simp [idxOf, this]
theorem idxOf_none {α : Type} (p : α → Bool) (l : List α) (hno : ∀ j (h : j < l.length), p l[j] = false) : idxOf p l = -1 := by
  have : l.findIdx? p = none := by
    rw [List.findIdx?_eq_none_iff]
    intro x hx
    obtain ⟨j, hj, rfl⟩ := List.getElem_of_mem hx
    simpa using hno j hj
  simp [idxOf, this]
theorem idxOf_any {α : Type} (p : α → Bool) (l : List α) : decide (0 ≤ idxOf p l) = l.any p := by
  cases h : l.findIdx? p with
  | none =>
    simp only [idxOf, h]
    rw [List.findIdx?_eq_none_iff] at h
    have : l.any p = false := by rw [List.any_eq_false]; intro x hx; simpa using h x hx
    rw [this]; decide
  | some k =>
    simp only [idxOf, h]
    rw [List.findIdx?_eq_some_iff_getElem] at h
    obtain ⟨hk, hp, _⟩ := h
    have : l.any p = true := List.any_eq_true.2 ⟨l[k], List.getElem_mem _, hp⟩
    rw [this]; simp

structure Mach where
  cold : Int
  power : Int
  start : Int
def Mach.cells (m : Mach) : List Value := [.int .i64 m.cold, .int .i64 m.power, .int .i64 m.start]
def SlM (w : World) (v : Value) (l : List Mach) : Prop := SlV w v l.length (l.flatMap Mach.cells)
theorem SlM.below {w w' : World} {v : Value} {l : List Mach} (h : SlM w v l) (hb : Below w.heap.size w w') : SlM w' v l := SlV.below h hb
theorem mach_cells_get (l : List Mach) : ∀ (j : Nat) (h : j < l.length) (c : Nat) (hc : c < 3), (l.flatMap Mach.cells)[j * 3 + c]? = some ((l[j]).cells[c]'(by simpa [Mach.cells] using hc)) := by
  induction l with
  | nil => intro j h; simp at h
  | cons m l ih =>
    intro j h c hc
    cases j with
    | zero =>
      simp only [List.flatMap_cons, Nat.zero_mul, Nat.zero_add, List.getElem_cons_zero]
      rw [List.getElem?_append_left (by simpa [Mach.cells] using hc)]
      rw [List.getElem?_eq_getElem (by simpa [Mach.cells] using hc)]
    | succ j =>
      have h' : j < l.length := by simpa using h
      simp only [List.flatMap_cons, List.getElem_cons_succ]
      rw [List.getElem?_append_right (by simp [Mach.cells]; omega)]
      have := ih j h' c hc
      rw [← this]
      congr 1
      simp [Mach.cells]; omega
theorem SlM.open {w : World} {v : Value} {l : List Mach} (h : SlM w v l) :
    ∃ a cap, v = .slice a l.length cap ∧ l.length ≤ 140737488351232 ∧ ∀ k, k < l.length → ∃ b off, a = some ⟨b, off, none⟩ ∧ b < w.heap.size ∧
      ∀ j (h : j < l.length), w.cell? ⟨b, off + j * 3, none⟩ = some (.int .i64 l[j].cold) ∧ w.cell? ⟨b, off + j * 3 + 1, none⟩ = some (.int .i64 l[j].power) ∧ w.cell? ⟨b, off + j * 3 + 2, none⟩ = some (.int .i64 l[j].start) := by
  obtain ⟨a, cap, rfl, hn, hc⟩ := h
  refine ⟨a, cap, rfl, hn, fun k hk => ?_⟩
  rcases hc with hc | ⟨b, off, rfl, hlt, hc⟩
  · omega
  · refine ⟨b, off, rfl, hlt, fun j hj => ?_⟩
    have key : ∀ c (hc3 : c < 3), w.cell? ⟨b, off + (j * 3 + c), none⟩ = some ((l[j]).cells[c]'(by simpa [Mach.cells] using hc3)) := by
      intro c hc3
      have h1 := mach_cells_get l j hj c hc3
      obtain ⟨h2, h3⟩ := List.getElem?_eq_some_iff.1 h1
      rw [hc _ h2, h3]
    exact ⟨key 0 (by omega), key 1 (by omega), key 2 (by omega)⟩

end Go.Proofs.YtolnhicngepnnaaGreat
