import Derived.Test.YtjjphiecjhijiaaDoorBase
import Derived.Laws.Bits64b
import Derived.Lib.TrailingZeros
namespace Go.Proofs.YtjjphiecjhijiaaDoor
open Go.RowKit

/-- The library's table is where its initialiser laid it. -/
def TabW (w : World) : Prop := ∀ j, j < 64 → w.cell? ⟨1, j, none⟩ = some (.int .u8 (Lib.deBruijn64tab.getD j 0))
theorem TabW.lt {w : World} (h : TabW w) : 1 < w.heap.size := World.block_lt_of_cell? w ⟨1, 0, none⟩ (h 0 (by decide))
theorem TabW.below {B : Nat} {w w' : World} (h : TabW w) (hb : Below B w w') (hB : 1 < B) : TabW w' := fun j hj => rdB hb hB (h j hj)
theorem TabW.below' {w w' : World} (h : TabW w) (hb : Below w.heap.size w w') : TabW w' := h.below hb h.lt

set_option maxHeartbeats 1000000 in
theorem tz64_core (x k idx : Nat) (w : World) (hx0 : ((x : Int) == 0) = false)
    (key : IntKind.u64.wrap (bits BinOp.and IntKind.u64 (x : Int) (IntKind.u64.wrap (-(x : Int))) * 285870213051353865) / 288230376151711744 = (idx : Int))
    (hi : idx < 64) (hk : k < 64) (hcell : w.cell? ⟨1, idx, none⟩ = some (.int .u8 k)) :
    Calls Tryd.prog 88 #[.int .u64 x] w fun e w' => e = .returned (.int .i64 k) ∧ w = w' := by
  go_enter Tryd.func88, Tryd.ntmps88
  go_wp2_with (simp only [key])
  go_ret
  exact ⟨rfl, rfl⟩
theorem tz64_key (x a : Nat) (hx : x < 18446744073709551616) (hx0 : x ≠ 0) (hlow : x &&& (18446744073709551616 - x) = a) :
    IntKind.u64.wrap (bits BinOp.and IntKind.u64 (x : Int) (IntKind.u64.wrap (-(x : Int))) * 285870213051353865) / 288230376151711744 = ((a * 285870213051353865 % 18446744073709551616 / 288230376151711744 : Nat) : Int) := by
  have e1 : IntKind.u64.wrap (-(x : Int)) = ((18446744073709551616 - x : Nat) : Int) := by rw [IntKind.wrap_u64]; omega
  rw [e1, bits_and_u64_nat x _ hx (by omega), hlow, IntKind.wrap_u64]
  omega
theorem tz64_any (x : Nat) (hx0 : x ≠ 0) (hx : x < 18446744073709551616) (w : World) (hT : TabW w) :
    Calls Tryd.prog 88 #[.int .u64 x] w fun e w' => e = .returned (.int .i64 (Lib.ctz 64 x)) ∧ w = w' := by
  obtain ⟨hlow, hk⟩ := Lib.lowest_bit 64 x hx0 hx
  obtain ⟨hi, htab⟩ := Lib.deBruijn64_at _ hk
  have hcell := hT _ hi
  rw [htab] at hcell
  exact tz64_core x _ _ w (by simp; omega) (tz64_key x _ hx hx0 hlow) hi hk hcell
theorem tz_any (x : Nat) (hx0 : x ≠ 0) (hx : x < 18446744073709551616) (w : World) (hT : TabW w) :
    Calls Tryd.prog 78 #[.int .u64 x] w fun e w' => e = .returned (.int .i64 (Lib.ctz 64 x)) ∧ w = w' := by
  have h := tz64_any x hx0 hx w hT
  generalize Lib.ctz 64 x = k at *
  have H := hid h
  clear h
  go_enter Tryd.func78, Tryd.ntmps78
  go_wp2_with fail
  refine H.out.mono ?_
  rintro e w' ⟨rfl, rfl⟩
  go_wp2_with fail
  go_ret
  exact ⟨rfl, rfl⟩

theorem ofInt64 (a : Nat) (ha : a < 18446744073709551616) : (BitVec.ofInt 64 (a : Int)).toNat = a := by
  rw [BitVec.ofInt_natCast, BitVec.toNat_ofNat]; exact Nat.mod_eq_of_lt (by omega)
theorem bits_andNot_u64_nat (a b : Nat) (ha : a < 18446744073709551616) (hb : b < 18446744073709551616) :
    bits .andNot .u64 (a : Int) (b : Int) = ((a &&& (18446744073709551615 - b) : Nat) : Int) := by
  have hx : a &&& (18446744073709551615 - b) < 2 ^ 64 := Nat.and_lt_two_pow _ (by omega)
  show IntKind.u64.wrap ((BitVec.ofInt 64 (a : Int) &&& ~~~BitVec.ofInt 64 (b : Int)).toNat : Int) = _
  rw [BitVec.toNat_and, BitVec.toNat_not, ofInt64 a ha, ofInt64 b hb, IntKind.wrap_u64]
  have e : (2 ^ 64 - 1 - b) = 18446744073709551615 - b := by omega
  rw [e]
  omega
/-- A set with one number less, with one more. -/
def clr (s i : Nat) : Nat := s &&& (18446744073709551615 - 2 ^ i)
def ins (s i : Nat) : Nat := s ||| 2 ^ i
theorem pow64 {i : Nat} (hi : i < 64) : 1 ≤ 2 ^ i ∧ 2 ^ i ≤ 9223372036854775808 := by
  have h1 : 2 ^ i ≤ 2 ^ 63 := Nat.pow_le_pow_right (by decide) (by omega)
  have h2 : 0 < 2 ^ i := Nat.two_pow_pos i
  omega
theorem clr_bit (s i j : Nat) (hi : i < 64) (hs : s < 18446744073709551616) : (clr s i).testBit j = (s.testBit j && !decide (j = i)) := by
  have hp := pow64 hi
  have e : 18446744073709551615 - 2 ^ i = 2 ^ 64 - (2 ^ i + 1) := by omega
  have hl : 2 ^ i < 2 ^ 64 := Nat.pow_lt_pow_right (by decide) hi
  rw [clr, Nat.testBit_and, e, Nat.testBit_two_pow_sub_succ hl, Nat.testBit_two_pow]
  by_cases hj : j < 64
  · by_cases e : i = j
    · subst e; simp
    · have e' : ¬ j = i := fun h => e h.symm
      simp [hj, e, e']
  · have : s.testBit j = false := by
      have h2 : 2 ^ 64 ≤ 2 ^ j := Nat.pow_le_pow_right (by decide) (by omega)
      exact Nat.testBit_lt_two_pow (by omega)
    simp [this]
theorem clr_le (s i : Nat) : clr s i ≤ s := Nat.and_le_left
theorem ins_bit (s i j : Nat) : (ins s i).testBit j = (s.testBit j || decide (i = j)) := by
  rw [ins, Nat.testBit_or, Nat.testBit_two_pow]
theorem shr_and (s i : Nat) (hs : s < 18446744073709551616) : (bits BinOp.and IntKind.u64 ((s : Int) / 2 ^ i) 1 == 1) = s.testBit i := by
  have e : ((s : Int) / 2 ^ i) = ((s / 2 ^ i : Nat) : Int) := by simp
  have hd : s / 2 ^ i ≤ s := Nat.div_le_self _ _
  have h := bits_and_u64_nat (s / 2 ^ i) 1 (by omega) (by decide)
  rw [e]
  rw [show ((1 : Int)) = ((1 : Nat) : Int) from rfl, h, Nat.and_one_is_mod, Nat.testBit_eq_decide_div_mod_eq, Bool.eq_iff_iff]
  simp; omega
theorem wrap_pow {i : Nat} (hi : i < 64) : IntKind.u64.wrap ((2 : Int) ^ i) = ((2 ^ i : Nat) : Int) := by
  have := pow64 hi
  have e : ((2 ^ i : Nat) : Int) = (2 : Int) ^ i := by simp
  rw [← e, IntKind.wrap_u64]; omega
theorem andNot_clr (s i : Nat) (hi : i < 64) (hs : s < 18446744073709551616) : bits BinOp.andNot IntKind.u64 (s : Int) (IntKind.u64.wrap (2 ^ i)) = (clr s i : Int) := by
  have := pow64 hi
  rw [wrap_pow hi, bits_andNot_u64_nat s _ hs (by omega)]; rfl
theorem or_ins (s i : Nat) (hi : i < 64) (hs : s < 18446744073709551616) : bits BinOp.or IntKind.u64 (s : Int) (IntKind.u64.wrap (2 ^ i)) = (ins s i : Int) := by
  have := pow64 hi
  rw [wrap_pow hi, bits_or_u64_nat s _ hs (by omega)]; rfl
/-- The least number of a set. -/
def low (s : Nat) : Nat := Lib.ctz 64 s
theorem low_lt (s : Nat) (h0 : s ≠ 0) (hs : s < 18446744073709551616) : low s < 64 := (Lib.lowest_bit 64 s h0 hs).2
theorem low_spec (s : Nat) (h0 : s ≠ 0) (hs : s < 18446744073709551616) : s.testBit (low s) = true ∧ ∀ j, j < low s → s.testBit j = false := by
  obtain ⟨m, hm, _⟩ := Lib.ctzFrom_spec 64 s (by omega) hs
  have e : low s = Lib.ctzFrom 64 s := by simp [low, Lib.ctz, h0]
  rw [e]
  generalize Lib.ctzFrom 64 s = k at hm
  subst hm
  constructor
  · rw [Nat.mul_comm, Nat.testBit_mul_two_pow]; simp
  · intro j hj
    rw [Nat.mul_comm, Nat.testBit_mul_two_pow]
    simp; omega
theorem low_clr_lt (s : Nat) (h0 : s ≠ 0) (hs : s < 18446744073709551616) : clr s (low s) < s := by
  have h1 := low_lt s h0 hs
  have h2 := (low_spec s h0 hs).1
  have h3 := clr_le s (low s)
  have h4 : clr s (low s) ≠ s := by
    intro e
    have := clr_bit s (low s) (low s) h1 hs
    rw [e, h2] at this
    simp at this
  omega

theorem has_m (s i : Nat) (w : World) (hs : s < 18446744073709551616) (hi : i < 64) :
    Calls Tryd.prog 71 #[.int .u64 s, .int .i64 i] w fun e w' => e = .returned (.bool (s.testBit i)) ∧ w = w' := by
  go_enter Tryd.func71, Tryd.ntmps71
  go_wp2_with fail
  go_ret
  exact ⟨ret_bool (shr_and s i hs), rfl⟩
theorem has_p (s i : Nat) (w : World) (hs : s < 18446744073709551616) (hi : i < 64) :
    Calls Tryd.prog 62 #[.int .u64 s, .int .i64 i] w fun e w' => e = .returned (.bool (s.testBit i)) ∧ w = w' := by
  go_enter Tryd.func62, Tryd.ntmps62
  go_wp2_with fail
  go_ret
  exact ⟨ret_bool (shr_and s i hs), rfl⟩
theorem without_m (s i : Nat) (w : World) (hs : s < 18446744073709551616) (hi : i < 64) :
    Calls Tryd.prog 82 #[.int .u64 s, .int .i64 i] w fun e w' => e = .returned (.int .u64 (clr s i)) ∧ w = w' := by
  go_enter Tryd.func82, Tryd.ntmps82
  go_wp2_with fail
  go_ret
  exact ⟨ret_int (andNot_clr s i hi hs), rfl⟩
theorem without_s (s i : Nat) (w : World) (hs : s < 18446744073709551616) (hi : i < 64) :
    Calls Tryd.prog 51 #[.int .u64 s, .int .i64 i] w fun e w' => e = .returned (.int .u64 (clr s i)) ∧ w = w' := by
  go_enter Tryd.func51, Tryd.ntmps51
  go_wp2_with fail
  go_ret
  exact ⟨ret_int (andNot_clr s i hi hs), rfl⟩
theorem without_p (s i : Nat) (w : World) (hs : s < 18446744073709551616) (hi : i < 64) :
    Calls Tryd.prog 56 #[.int .u64 s, .int .i64 i] w fun e w' => e = .returned (.int .u64 (clr s i)) ∧ w = w' := by
  go_enter Tryd.func56, Tryd.ntmps56
  go_wp2_with fail
  go_ret
  exact ⟨ret_int (andNot_clr s i hi hs), rfl⟩
theorem with_p (s i : Nat) (w : World) (hs : s < 18446744073709551616) (hi : i < 64) :
    Calls Tryd.prog 63 #[.int .u64 s, .int .i64 i] w fun e w' => e = .returned (.int .u64 (ins s i)) ∧ w = w' := by
  go_enter Tryd.func63, Tryd.ntmps63
  go_wp2_with fail
  go_ret
  exact ⟨ret_int (or_ins s i hi hs), rfl⟩
theorem first_m (x : Nat) (hx0 : x ≠ 0) (hx : x < 18446744073709551616) (w : World) (hT : TabW w) :
    Calls Tryd.prog 83 #[.int .u64 x] w fun e w' => e = .returned (.int .i64 (low x)) ∧ w = w' := by
  have h := tz_any x hx0 hx w hT
  have hk := low_lt x hx0 hx
  unfold low at *
  generalize Lib.ctz 64 x = k at *
  have H := hid h
  clear h
  go_enter Tryd.func83, Tryd.ntmps83
  go_wp2_with fail
  refine H.out.mono ?_
  rintro e w' ⟨rfl, rfl⟩
  go_wp2_with fail
  go_ret
  exact ⟨rfl, rfl⟩
theorem first_s (x : Nat) (hx0 : x ≠ 0) (hx : x < 18446744073709551616) (w : World) (hT : TabW w) :
    Calls Tryd.prog 50 #[.int .u64 x] w fun e w' => e = .returned (.int .i64 (low x)) ∧ w = w' := by
  have h := tz_any x hx0 hx w hT
  have hk := low_lt x hx0 hx
  unfold low at *
  generalize Lib.ctz 64 x = k at *
  have H := hid h
  clear h
  go_enter Tryd.func50, Tryd.ntmps50
  go_wp2_with fail
  refine H.out.mono ?_
  rintro e w' ⟨rfl, rfl⟩
  go_wp2_with fail
  go_ret
  exact ⟨rfl, rfl⟩
theorem first_p (x : Nat) (hx0 : x ≠ 0) (hx : x < 18446744073709551616) (w : World) (hT : TabW w) :
    Calls Tryd.prog 57 #[.int .u64 x] w fun e w' => e = .returned (.int .i64 (low x)) ∧ w = w' := by
  have h := tz_any x hx0 hx w hT
  have hk := low_lt x hx0 hx
  unfold low at *
  generalize Lib.ctz 64 x = k at *
  have H := hid h
  clear h
  go_enter Tryd.func57, Tryd.ntmps57
  go_wp2_with fail
  refine H.out.mono ?_
  rintro e w' ⟨rfl, rfl⟩
  go_wp2_with fail
  go_ret
  exact ⟨rfl, rfl⟩
end Go.Proofs.YtjjphiecjhijiaaDoor
