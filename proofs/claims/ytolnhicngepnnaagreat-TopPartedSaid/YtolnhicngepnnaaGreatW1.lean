/- fixed.add, fixed.sub; glide: bounds. -/
import Derived.Test.YtolnhicngepnnaaGreatI5
namespace Go.Proofs.YtolnhicngepnnaaGreat
open Go.RowKit

theorem sign_fit (s : Int) : (if s.natAbs ≤ 70368744177664 then (Except.ok (if decide (s < 0) = true then -(s.natAbs : Int) else (s.natAbs : Int)) : Except Int Int) else .error 4) = (if -70368744177664 ≤ s ∧ s ≤ 70368744177664 then .ok s else .error 4) := by
  by_cases h : s.natAbs ≤ 70368744177664
  · have h2 : -70368744177664 ≤ s ∧ s ≤ 70368744177664 := by omega
    rw [if_pos h, if_pos h2]
    congr 1
    by_cases hn : s < 0
    · rw [decide_eq_true hn, if_pos rfl]; omega
    · rw [decide_eq_false hn, if_neg (by simp)]; omega
  · have h2 : ¬ (-70368744177664 ≤ s ∧ s ≤ 70368744177664) := by omega
    rw [if_neg h, if_neg h2]
/-- fixed.add -/
def addR (a b : Int) : Except Int Int := if okF a && okF b then (if -70368744177664 ≤ a + b ∧ a + b ≤ 70368744177664 then .ok (a + b) else .error 4) else .error 2
set_option maxRecDepth 100000 in
theorem add_any (a b : Int) (w : World) : Calls Tryz.prog 178 #[.int .i64 a, .int .i64 b] w fun e w' => EndsX (addR a b) e ∧ Below w.heap.size w w' := by
  have HR := hid (fun W v hs => right_any v [a, b] W hs)
  have HX := hid (show addR a b = if okF a && okF b then (if -70368744177664 ≤ a + b ∧ a + b ≤ 70368744177664 then .ok (a + b) else .error 4) else .error 2 from rfl)
  have HSL := hid (new_SlI w [a, b] #[.int .i64 a, .int .i64 b] 22 rfl (by simp))
  have HA := hid (show ∀ k, (okF a && okF b) = k → [a, b].all okF = k from fun k h => by rw [← h]; simp)
  obtain ⟨r, hr⟩ : ∃ r, addR a b = r := ⟨_, rfl⟩
  rw [hr] at HX ⊢
  clear hr
  have hbA := (Below.refl w.heap.size w).alloc (Nat.le_refl _) (.cells #[.int .i64 a, .int .i64 b] 22)
  have HB := hid hbA
  clear hbA
  cases hok : okF a && okF b with
  | false =>
    rw [hok] at HX
    have HAL := hid (HA.out _ hok)
    clear hok
    go_enter Tryz.func178, Tryz.ntmps178
    go_wp2_with fail
    refine (HR.out _ _ HSL.out).mono ?_
    rintro e w1 ⟨he, hb⟩
    rw [HAL.out] at he
    obtain rfl : e = .panicked (misfit 2) := he
    refine ⟨rfl, ?_, btrans HB.out (by simp) hb⟩
    rw [HX.out]; rfl
  | true =>
    have hab : (-70368744177664 ≤ a ∧ a ≤ 70368744177664) ∧ -70368744177664 ≤ b ∧ b ≤ 70368744177664 := by simpa [okF, and_assoc] using hok
    obtain ⟨⟨a1, a2⟩, b1, b2⟩ := hab
    rw [hok] at HX
    have HAL := hid (HA.out _ hok)
    clear hok
    have HSZ := hid (fun W => size_any (a + b) (by omega) (by omega) W)
    have HSG := hid (fun W => signed_any (a + b).natAbs (decide (a + b < 0)) (by omega) W)
    have HSE := hid (sign_fit (a + b))
    rw [HSE.out] at HSG
    rw [if_pos rfl] at HX
    rw [← HX.out] at HSG
    clear HSE
    go_enter Tryz.func178, Tryz.ntmps178
    go_wp2_with fail
    refine (HR.out _ _ HSL.out).mono ?_
    rintro e w1 ⟨he, hb⟩
    rw [HAL.out] at he
    obtain rfl : e = .returned (.tuple #[]) := he
    have HB1 := hid (btrans HB.out (by simp) hb)
    clear hb HB
    go_wp2_with fail
    refine (HSZ.out _).mono ?_
    rintro e w2 ⟨rfl, rfl⟩
    go_wp2_with fail
    refine (HSG.out _).mono ?_
    rintro e w3 ⟨he, rfl⟩
    cases r with
    | ok v =>
      obtain rfl := he
      go_wp2_with fail
      go_ret
      exact ⟨rfl, HB1.out⟩
    | error c =>
      obtain rfl := he
      exact ⟨rfl, rfl, HB1.out⟩
/-- fixed.sub -/
def subR (a b : Int) : Except Int Int := if okF a && okF b then (if -70368744177664 ≤ a - b ∧ a - b ≤ 70368744177664 then .ok (a - b) else .error 4) else .error 2
set_option maxRecDepth 100000 in
theorem sub_any (a b : Int) (w : World) : Calls Tryz.prog 165 #[.int .i64 a, .int .i64 b] w fun e w' => EndsX (subR a b) e ∧ Below w.heap.size w w' := by
  have HR := hid (fun W v hs => right_any v [a, b] W hs)
  have HX := hid (show subR a b = if okF a && okF b then (if -70368744177664 ≤ a - b ∧ a - b ≤ 70368744177664 then .ok (a - b) else .error 4) else .error 2 from rfl)
  have HSL := hid (new_SlI w [a, b] #[.int .i64 a, .int .i64 b] 22 rfl (by simp))
  have HA := hid (show ∀ k, (okF a && okF b) = k → [a, b].all okF = k from fun k h => by rw [← h]; simp)
  obtain ⟨r, hr⟩ : ∃ r, subR a b = r := ⟨_, rfl⟩
  rw [hr] at HX ⊢
  clear hr
  have hbA := (Below.refl w.heap.size w).alloc (Nat.le_refl _) (.cells #[.int .i64 a, .int .i64 b] 22)
  have HB := hid hbA
  clear hbA
  cases hok : okF a && okF b with
  | false =>
    rw [hok] at HX
    have HAL := hid (HA.out _ hok)
    clear hok
    go_enter Tryz.func165, Tryz.ntmps165
    go_wp2_with fail
    refine (HR.out _ _ HSL.out).mono ?_
    rintro e w1 ⟨he, hb⟩
    rw [HAL.out] at he
    obtain rfl : e = .panicked (misfit 2) := he
    refine ⟨rfl, ?_, btrans HB.out (by simp) hb⟩
    rw [HX.out]; rfl
  | true =>
    have hab : (-70368744177664 ≤ a ∧ a ≤ 70368744177664) ∧ -70368744177664 ≤ b ∧ b ≤ 70368744177664 := by simpa [okF, and_assoc] using hok
    obtain ⟨⟨a1, a2⟩, b1, b2⟩ := hab
    rw [hok] at HX
    have HAL := hid (HA.out _ hok)
    clear hok
    have HSZ := hid (fun W => size_any (a - b) (by omega) (by omega) W)
    have HSG := hid (fun W => signed_any (a - b).natAbs (decide (a - b < 0)) (by omega) W)
    have HSE := hid (sign_fit (a - b))
    rw [HSE.out] at HSG
    rw [if_pos rfl] at HX
    rw [← HX.out] at HSG
    clear HSE
    go_enter Tryz.func165, Tryz.ntmps165
    go_wp2_with fail
    refine (HR.out _ _ HSL.out).mono ?_
    rintro e w1 ⟨he, hb⟩
    rw [HAL.out] at he
    obtain rfl : e = .returned (.tuple #[]) := he
    have HB1 := hid (btrans HB.out (by simp) hb)
    clear hb HB
    go_wp2_with fail
    refine (HSZ.out _).mono ?_
    rintro e w2 ⟨rfl, rfl⟩
    go_wp2_with fail
    refine (HSG.out _).mono ?_
    rintro e w3 ⟨he, rfl⟩
    cases r with
    | ok v =>
      obtain rfl := he
      go_wp2_with fail
      go_ret
      exact ⟨rfl, HB1.out⟩
    | error c =>
      obtain rfl := he
      exact ⟨rfl, rfl, HB1.out⟩
theorem within26_any (n a b : Int) (w : World) : Calls Tryz.prog 26 #[.int .i64 n, .int .i64 a, .int .i64 b] w fun e w' => e = .returned (.bool (inB n a b)) ∧ w' = w := by
  go_enter Tryz.func26, Tryz.ntmps26
  go_wp2
  all_goals (go_ret; exact ⟨ret_bool (by simp [inB, *]; try omega), rfl⟩)
theorem within151_any (n a b : Int) (w : World) : Calls Tryz.prog 151 #[.int .i64 n, .int .i64 a, .int .i64 b] w fun e w' => e = .returned (.bool (inB n a b)) ∧ w' = w := by
  go_enter Tryz.func151, Tryz.ntmps151
  go_wp2
  all_goals (go_ret; exact ⟨ret_bool (by simp [inB, *]; try omega), rfl⟩)
theorem square107_any (x y m : Int) (hm : 0 ≤ m ∧ m ≤ 9000000000000) (w : World) : Calls Tryz.prog 107 #[.agg #[.int .i64 x, .int .i64 y], .int .i64 m] w fun e w' => e = .returned (.bool (inB x (-m) m && inB y (-m) m)) ∧ Below w.heap.size w w' := by
  have H1 := hid (fun W => within151_any x (-m) m W)
  have H2 := hid (fun W => within151_any y (-m) m W)
  generalize inB x (-m) m = b1 at *
  generalize inB y (-m) m = b2 at *
  have HB := hid ((Below.refl w.heap.size w).alloc (Nat.le_refl _) (.cells #[.int .i64 x, .int .i64 y] 28))
  obtain ⟨m1, m2⟩ := hm
  go_enter Tryz.func107, Tryz.ntmps107
  go_wp2_with fail
  refine (H1.out _).mono ?_
  rintro e w' ⟨rfl, rfl⟩
  cases b1
  · go_wp2_with fail
    go_ret
    exact ⟨rfl, HB.out⟩
  · go_wp2_with fail
    refine (H2.out _).mono ?_
    rintro e w' ⟨rfl, rfl⟩
    go_wp2_with fail
    go_ret
    exact ⟨rfl, HB.out⟩
end Go.Proofs.YtolnhicngepnnaaGreat
