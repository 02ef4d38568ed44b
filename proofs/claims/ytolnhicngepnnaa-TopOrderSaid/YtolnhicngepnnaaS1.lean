/- The places of a sheet: sizes, squares, zones, contacts. -/
import Derived.Test.YtolnhicngepnnaaPB
namespace Go.Proofs.Ytolnhicngepnnaa
open Go.RowKit

def sz (n : Int) : Int := max n (-n)
/-- A valid place. -/
def spotOk (x y : Int) : Bool := inB x (-6553600000) 6553600000 && inB y (-6553600000) 6553600000
theorem spotOk_b {x y : Int} (h : spotOk x y = true) : (-6553600000 ≤ x ∧ x ≤ 6553600000) ∧ -6553600000 ≤ y ∧ y ≤ 6553600000 := by
  simp only [spotOk, inB, Bool.and_eq_true, decide_eq_true_eq] at h
  omega
/-- Is a stone out of play? -/
def awayB (x y : Int) : Bool := decide (155648000 ≤ sz x + 9502720) || decide (119865344 < y - 9502720) || decide (y - 9502720 ≤ -419495936)
/-- Where a stone is. -/
def zoneR (x y : Int) : Int := if awayB x y then 0 else if x * x + y * y ≤ 16736095983108096 then 2 else if y + 9502720 < 0 then 1 else 3
theorem awayB_b {x y : Int} (h : awayB x y = false) : (-500000000 ≤ x ∧ x ≤ 500000000) ∧ -500000000 ≤ y ∧ y ≤ 500000000 := by
  unfold awayB at h
  simp only [Bool.or_eq_false_iff, decide_eq_false_iff_not] at h
  obtain ⟨⟨h1, h2⟩, h3⟩ := h
  unfold sz at h1
  omega
theorem sq_b {x : Int} (h : -500000000 ≤ x ∧ x ≤ 500000000) : 0 ≤ x * x ∧ x * x ≤ 250000000000000000 := by
  constructor
  · rcases Int.le_total 0 x with h0 | h0
    · exact Int.mul_nonneg h0 h0
    · exact Int.mul_nonneg_of_nonpos_of_nonpos h0 h0
  · have : x.natAbs ≤ 500000000 := by omega
    have h2 : x.natAbs * x.natAbs ≤ 500000000 * 500000000 := Nat.mul_le_mul this this
    have h3 : x * x = ((x.natAbs * x.natAbs : Nat) : Int) := (Int.natAbs_mul_self).symm
    rw [h3]
    omega

theorem cell_new' (w : World) (cs : Array Value) (t : TypeId) (i : Nat) (v : Value) (h : cs[i]? = some v) : (w.alloc (.cells cs t)).cell? ⟨w.heap.size, i, none⟩ = some v := (World.cell?_alloc_new _ _ _ _).trans h
theorem within35_any (n a b : Int) (w : World) :
    Calls Try.prog 17 #[.int .i64 n, .int .i64 a, .int .i64 b] w fun e w' => e = .returned (.bool (inB n a b)) ∧ w = w' := by
  go_enter Try.func17, Try.ntmps17
  go_wp2
  all_goals (go_ret; exact ⟨ret_bool (by simp [inB, *]; try omega), rfl⟩)
theorem within40_any (n a b : Int) (w : World) :
    Calls Try.prog 43 #[.int .i64 n, .int .i64 a, .int .i64 b] w fun e w' => e = .returned (.bool (inB n a b)) ∧ w = w' := by
  go_enter Try.func43, Try.ntmps43
  go_wp2
  all_goals (go_ret; exact ⟨ret_bool (by simp [inB, *]; try omega), rfl⟩)
theorem sizeS_any (n : Int) (h : -4000000000000000000 ≤ n ∧ n ≤ 4000000000000000000) (w : World) : Calls Try.prog 44 #[.int .i64 n] w fun e w' => e = .returned (.int .i64 (sz n)) ∧ w = w' := by
  obtain ⟨h1, h2⟩ := h
  go_enter Try.func44, Try.ntmps44
  go_wp2
  all_goals (go_ret; exact ⟨ret_int (by unfold sz; omega), rfl⟩)
theorem square_any (x y : Int) (hx : -500000000 ≤ x ∧ x ≤ 500000000) (hy : -500000000 ≤ y ∧ y ≤ 500000000) (w : World) :
    Calls Try.prog 28 #[.agg #[.int .i64 x, .int .i64 y]] w fun e w' => e = .returned (.int .i64 (x * x + y * y)) ∧ Below w.heap.size w w' := by
  obtain ⟨a1, a2⟩ := sq_b hx
  obtain ⟨b1, b2⟩ := sq_b hy
  go_enter Try.func28, Try.ntmps28
  go_wp2
  go_ret
  exact ⟨rfl, (Below.refl _ _).alloc (Nat.le_refl _) _⟩
theorem checkSpot_any (x y : Int) (w : World) : Calls Try.prog 18 #[.agg #[.int .i64 x, .int .i64 y]] w fun e w' => e = .returned (.bool (spotOk x y)) ∧ Below w.heap.size w w' := by
  have H := hid (show spotOk x y = (inB x (-6553600000) 6553600000 && inB y (-6553600000) 6553600000) from rfl)
  have H1 := hid (fun W => within40_any x (-6553600000) 6553600000 W)
  have H2 := hid (fun W => within40_any y (-6553600000) 6553600000 W)
  generalize inB x (-6553600000) 6553600000 = b1 at *
  generalize inB y (-6553600000) 6553600000 = b2 at *
  go_enter Try.func18, Try.ntmps18
  cases b1
  · go_wp2_with fail
    refine (H1.out _).mono ?_
    rintro e w' ⟨rfl, rfl⟩
    go_wp2_with fail
    go_ret
    exact ⟨by rw [H.out]; rfl, (Below.refl _ _).alloc (Nat.le_refl _) _⟩
  · go_wp2_with fail
    refine (H1.out _).mono ?_
    rintro e w' ⟨rfl, rfl⟩
    go_wp2_with fail
    refine (H2.out _).mono ?_
    rintro e w' ⟨rfl, rfl⟩
    go_wp2_with fail
    go_ret
    exact ⟨by rw [H.out]; rfl, (Below.refl _ _).alloc (Nat.le_refl _) _⟩
theorem zone_any (x y : Int) (hok : spotOk x y = true) (w : World) : Calls Try.prog 19 #[.agg #[.int .i64 x, .int .i64 y]] w fun e w' => e = .returned (.int .i64 (zoneR x y)) ∧ Below w.heap.size w w' := by
  obtain ⟨⟨x1, x2⟩, y1, y2⟩ := spotOk_b hok
  have H1 := hid (fun W => sizeS_any x (by omega) W)
  have HZ := hid (show zoneR x y = if awayB x y then 0 else if x * x + y * y ≤ 16736095983108096 then 2 else if y + 9502720 < 0 then 1 else 3 from rfl)
  have hs : 0 ≤ sz x ∧ sz x ≤ 6553600000 := by unfold sz; omega
  obtain ⟨hs1, hs2⟩ := hs
  have HA := hid (show awayB x y = (decide (155648000 ≤ sz x + 9502720) || decide (119865344 < y - 9502720) || decide (y - 9502720 ≤ -419495936)) from rfl)
  by_cases ha : awayB x y = true
  · rw [if_pos ha] at HZ
    have ha2 := ha
    rw [HA.out] at ha2
    generalize sz x = s at *
    clear ha HA hok
    simp only [Bool.or_eq_true, decide_eq_true_eq] at ha2
    rcases (show 155648000 ≤ s + 9502720 ∨ (¬ 155648000 ≤ s + 9502720 ∧ 119865344 < y - 9502720) ∨ (¬ 155648000 ≤ s + 9502720 ∧ ¬ 119865344 < y - 9502720 ∧ y - 9502720 ≤ -419495936) by omega) with h1 | ⟨h1, h2⟩ | ⟨h1, h2, h3⟩
    all_goals
      clear ha2
      go_enter Try.func19, Try.ntmps19
      go_wp2_with fail
      refine (H1.out _).mono ?_
      rintro e w' ⟨rfl, rfl⟩
      go_wp2_with fail
      go_ret
      exact ⟨by rw [HZ.out]; rfl, (Below.refl _ _).alloc (Nat.le_refl _) _⟩
  · have ha' : awayB x y = false := by simpa using ha
    rw [if_neg ha] at HZ
    obtain ⟨bx, by'⟩ := awayB_b ha'
    have HQ := hid (fun W => square_any x y bx by' W)
    obtain ⟨a1, a2⟩ := sq_b bx
    obtain ⟨b1, b2⟩ := sq_b by'
    have ha2 := ha'
    rw [HA.out] at ha2
    generalize sz x = s at *
    simp only [Bool.or_eq_false_iff, decide_eq_false_iff_not] at ha2
    obtain ⟨⟨h1, h2⟩, h3⟩ := ha2
    clear ha ha' HA hok bx by'
    go_enter Try.func19, Try.ntmps19
    go_wp2_with fail
    refine (H1.out _).mono ?_
    rintro e w' ⟨rfl, rfl⟩
    go_wp2_with fail
    refine (HQ.out _).mono ?_
    rintro e w' ⟨rfl, hb⟩
    have hb0 : Below w.heap.size w (w.alloc (.cells #[.int .i64 x, .int .i64 y] 47)) := (Below.refl _ _).alloc (Nat.le_refl _) _
    have HB := hid (hb0.trans (hb.mono hb0.size))
    have x0 : w'.cell? ⟨w.heap.size, 1, none⟩ = some (.int .i64 y) := bcs hb (cell_new' w #[.int .i64 x, .int .i64 y] 47 1 _ rfl)
    clear hb hb0
    by_cases hq : x * x + y * y ≤ 16736095983108096
    · rw [if_pos hq] at HZ
      go_wp2_with fail
      go_ret
      exact ⟨by rw [HZ.out]; rfl, HB.out⟩
    · rw [if_neg hq] at HZ
      by_cases hy0 : y + 9502720 < 0
      · rw [if_pos hy0] at HZ
        go_wp2_with fail
        go_ret
        exact ⟨by rw [HZ.out]; rfl, HB.out⟩
      · rw [if_neg hy0] at HZ
        go_wp2_with fail
        go_ret
        exact ⟨by rw [HZ.out]; rfl, HB.out⟩
end Go.Proofs.Ytolnhicngepnnaa
