/- Plain law of the weight: products and roots, rounded up. -/
import Derived.Test.YtolnhicngepnnaaGreatU4
namespace Go.Proofs.YtolnhicngepnnaaGreat
open Go.RowKit

def upN (x : Nat) : Nat := quoM 97 x 65536 false
theorem upN_is (x : Nat) : upN x = if 0 < x % 65536 then x / 65536 + 1 else x / 65536 := by
  unfold upN quoM roundR
  simp
theorem upN_ge (x : Nat) : x ≤ 65536 * upN x := by
  rw [upN_is]
  split <;> omega
theorem upN_le {x m : Nat} (h : x ≤ m * 65536) : upN x ≤ m := by
  rw [upN_is]
  split <;> omega
theorem mulX_up (b l : Nat) (h : b * l ≤ 70368744177664 * 65536) : mulX 97 (b : Int) (l : Int) = .ok ((upN (b * l) : Nat) : Int) := by
  unfold mulX
  rw [show decide ((b : Int) < 0) = false from decide_eq_false (by omega), show decide ((l : Int) < 0) = false from decide_eq_false (by omega), show (b : Int).natAbs = b from rfl, show (l : Int).natAbs = l from rfl]
  simp only [Bool.bne_false]
  have h2 := upN_le h
  unfold upN at h2 ⊢
  unfold signX
  rw [if_pos h2]
  rfl
def rootUp (a : Nat) : Nat := rootM 97 a (isq a)
theorem rootUp_ge (a : Nat) : a ≤ rootUp a * rootUp a := by
  have h := (isq_is a).2
  unfold rootUp rootM
  split
  · rename_i h1; omega
  · rw [show roundR 97 (cmpN (4 * a) ((2 * isq a + 1) * (2 * isq a + 1))) false = true from rfl, if_pos rfl]
    omega
theorem rootUp_le (a : Nat) : rootUp a ≤ isq a + 1 := by
  unfold rootUp rootM
  split
  · omega
  · split <;> omega
theorem rootX_up (a : Nat) (h : a ≤ 70368744177664) : rootX 97 a = .ok ((rootUp (a * 65536) : Nat) : Int) := by
  have h1 := rootUp_le (a * 65536)
  have h2 : isq (a * 65536) ≤ 4294967296 := isq_le (by omega)
  unfold rootX signX
  rw [show rootM 97 (a * 65536) (isq (a * 65536)) = rootUp (a * 65536) from rfl, if_pos (by omega)]
  rfl
end Go.Proofs.YtolnhicngepnnaaGreat
