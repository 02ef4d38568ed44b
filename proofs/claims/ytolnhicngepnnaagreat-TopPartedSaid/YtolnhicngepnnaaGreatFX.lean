/- Small words: new slices, blocks of two, the floor root, valid places. -/
import Derived.Test.YtolnhicngepnnaaGreatF7
namespace Go.Proofs.YtolnhicngepnnaaGreat
open Go.RowKit

theorem new_SlI (w : World) (l : List Int) (cs : Array Value) (t : TypeId) (hcs : cs = (l.map (.int .i64)).toArray) (hl : l.length ≤ 1000) : SlI (w.alloc (.cells cs t)) (.slice (some ⟨w.heap.size, 0, none⟩) l.length l.length) l := by
  subst hcs
  refine ⟨_, _, rfl, by omega, .inr ⟨w.heap.size, 0, rfl, by simp, fun i hi => ?_⟩⟩
  rw [World.cell?_alloc_new]
  simp only [Nat.zero_add, List.getElem?_toArray]
  exact List.getElem?_eq_getElem hi
theorem put2_same {w : World} {b : Nat} {t : TypeId} {a0 a1 : Value} (u v : Value) (h : w.heap[b]? = some (.cells #[a0, a1] t (0, 0))) : ((w.setCell ⟨b, 0, none⟩ u).setCell ⟨b, 1, none⟩ v).heap[b]? = some (.cells #[u, v] t (0, 0)) := by
  have h1 := heap_setCell_same w b 0 _ _ u h
  have h2 := heap_setCell_same _ b 1 _ _ v h1
  rw [h2]; simp
theorem put2_other {w : World} {b k : Nat} {o : Nat} (u v : Value) (h : k ≠ b) : ((w.setCell ⟨b, 0, none⟩ u).setCell ⟨b, 1, none⟩ v).cell? ⟨k, o, none⟩ = w.cell? ⟨k, o, none⟩ := by
  rw [World.cell?_of_block (a := ⟨k, o, none⟩) (heap_setCell_other _ ⟨b, 1, none⟩ k v h), World.cell?_of_block (a := ⟨k, o, none⟩) (heap_setCell_other _ ⟨b, 0, none⟩ k u h)]
theorem cells2 {w : World} {b : Nat} {t : TypeId} {a0 a1 : Value} (h : w.heap[b]? = some (.cells #[a0, a1] t (0, 0))) : w.cell? ⟨b, 0, none⟩ = some a0 ∧ w.cell? ⟨b, 1, none⟩ = some a1 ∧ w.frozen? ⟨b, 0, none⟩ = false ∧ w.frozen? ⟨b, 1, none⟩ = false := by
  refine ⟨by simp [World.cell?, h], by simp [World.cell?, h], by simp [World.frozen?, h], by simp [World.frozen?, h]⟩
/-- The floor root. -/
def isq : Nat → Nat
  | 0 => 0
  | a + 1 => if (isq a + 1) * (isq a + 1) ≤ a + 1 then isq a + 1 else isq a
theorem isq_is (a : Nat) : isq a * isq a ≤ a ∧ a < (isq a + 1) * (isq a + 1) := by
  induction a with
  | zero => exact ⟨Nat.le_refl _, by simp [isq]⟩
  | succ a ih =>
    obtain ⟨h1, h2⟩ := ih
    simp only [isq]
    split
    · next h =>
      refine ⟨h, ?_⟩
      have : (isq a + 1) * (isq a + 1) < (isq a + 1 + 1) * (isq a + 1 + 1) := Nat.mul_lt_mul'' (by omega) (by omega)
      omega
    · next h => exact ⟨by omega, by omega⟩
theorem isq_one {a n : Nat} (h : n * n ≤ a ∧ a < (n + 1) * (n + 1)) : n = isq a := by
  obtain ⟨h1, h2⟩ := h
  obtain ⟨h3, h4⟩ := isq_is a
  have key : ∀ x y : Nat, x * x ≤ a → a < (y + 1) * (y + 1) → x ≤ y := fun x y hx hy => Nat.le_of_not_lt fun hlt => by
    have : (y + 1) * (y + 1) ≤ x * x := Nat.mul_le_mul hlt hlt
    omega
  exact Nat.le_antisymm (key _ _ h1 h4) (key _ _ h3 h2)
theorem run_makeFunc (P : Program) (fn : Fn) (first cap : Array Value) (w : World) : (Instr.makeFunc fn first cap).run P w = .ok (.func fn first cap) w := rfl
def spotOk (x y : Int) : Bool := inB x (-6553600000) 6553600000 && inB y (-6553600000) 6553600000
theorem spotOk_b {x y : Int} (h : spotOk x y = true) : (-6553600000 ≤ x ∧ x ≤ 6553600000) ∧ -6553600000 ≤ y ∧ y ≤ 6553600000 := by
  simp only [spotOk, inB, Bool.and_eq_true, decide_eq_true_eq] at h
  omega
theorem cell_new' (w : World) (cs : Array Value) (t : TypeId) (i : Nat) (v : Value) (h : cs[i]? = some v) : (w.alloc (.cells cs t)).cell? ⟨w.heap.size, i, none⟩ = some v := (World.cell?_alloc_new _ _ _ _).trans h
end Go.Proofs.YtolnhicngepnnaaGreat
