/- Plain law: products, cut towards 0. -/
import Derived.Test.YtolnhicngepnnaaGreatW2
namespace Go.Proofs.YtolnhicngepnnaaGreat
open Go.RowKit

/-- a times b over d, cut. -/
def cutZ (a b d : Int) : Int := Int.tdiv (a * b) d
theorem cutZ_abs (a b : Int) (d : Nat) : (cutZ a b d).natAbs = a.natAbs * b.natAbs / d := by
  unfold cutZ
  rw [Int.natAbs_tdiv, Int.natAbs_mul]
  rfl
theorem tdiv_nat (m d : Nat) : Int.tdiv (m : Int) (d : Int) = ((m / d : Nat) : Int) := rfl
theorem cut_sign (a b : Int) (d : Nat) : (if (decide (a < 0) != decide (b < 0)) = true then -((a.natAbs * b.natAbs / d : Nat) : Int) else ((a.natAbs * b.natAbs / d : Nat) : Int)) = cutZ a b d := by
  have pos : ∀ m n : Nat, (((m * n / d : Nat)) : Int) = cutZ m n d := fun m n => by
    unfold cutZ; rw [← Int.natCast_mul, tdiv_nat]
  have neg : ∀ m n : Nat, -(((m * n / d : Nat)) : Int) = cutZ (-(m : Int)) n d := fun m n => by
    unfold cutZ; rw [Int.neg_mul, Int.neg_tdiv, ← Int.natCast_mul, tdiv_nat]
  rcases Int.lt_or_le a 0 with ha | ha <;> rcases Int.lt_or_le b 0 with hb | hb
  · rw [decide_eq_true ha, decide_eq_true hb, if_neg (by simp), pos]
    unfold cutZ
    rw [show (a.natAbs : Int) = -a by omega, show (b.natAbs : Int) = -b by omega, Int.neg_mul_neg]
  · rw [decide_eq_true ha, decide_eq_false (by omega), if_pos (by rfl), neg]
    rw [show -(a.natAbs : Int) = a by omega, show (b.natAbs : Int) = b by omega]
  · rw [decide_eq_false (by omega : ¬ a < 0), decide_eq_true hb, if_pos (by rfl), neg]
    unfold cutZ
    rw [Int.neg_mul, ← Int.mul_neg, show (a.natAbs : Int) = a by omega, show -(b.natAbs : Int) = b by omega]
  · rw [decide_eq_false (by omega : ¬ a < 0), decide_eq_false (by omega : ¬ b < 0), if_neg (by simp), pos]
    rw [show (a.natAbs : Int) = a by omega, show (b.natAbs : Int) = b by omega]
theorem quo_cut (x d : Nat) (neg : Bool) : quoM 95 x d neg = x / d := by
  unfold quoM roundR
  simp
theorem mul_cut (a b : Int) (h : a.natAbs * b.natAbs / 65536 ≤ 70368744177664) : mulX 95 a b = .ok (cutZ a b 65536) := by
  unfold mulX signX
  rw [quo_cut, if_pos h]
  exact congrArg Except.ok (cut_sign a b 65536)
theorem scale_cut (a n : Int) (d : Nat) (hd : 0 < d) (h : a.natAbs * n.natAbs / d ≤ 70368744177664) : scaleX 95 a n d = .ok (cutZ a n d) := by
  unfold scaleX signX
  rw [show decide ((d : Int) < 0) = false from decide_eq_false (by omega), show (d : Int).natAbs = d from rfl, quo_cut, if_pos h]
  simp only [Bool.bne_false]
  exact congrArg Except.ok (cut_sign a n d)
theorem cutZ_le {a b : Int} {d m : Nat} (h : a.natAbs * b.natAbs ≤ m * d) : -(m : Int) ≤ cutZ a b d ∧ cutZ a b d ≤ m := by
  have h1 := cutZ_abs a b d
  have h2 : a.natAbs * b.natAbs / d ≤ m := Nat.div_le_of_le_mul (by rw [Nat.mul_comm d m]; exact h)
  omega
end Go.Proofs.YtolnhicngepnnaaGreat
