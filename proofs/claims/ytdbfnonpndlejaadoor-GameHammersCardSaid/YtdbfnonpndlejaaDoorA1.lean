/- Small functions: within, in, CheckTimes, a new clock. -/
import Derived.Test.YtdbfnonpndlejaaDoorBase
import Derived.Test.YtdbfnonpndlejaaDoorM1
namespace Go.Proofs.YtdbfnonpndlejaaDoor
open Go.RowKit

theorem within_any (n a b : Int) (w : World) :
    Calls Tryd.prog 39 #[.int .i64 n, .int .i64 a, .int .i64 b] w fun e w' => e = .returned (.bool (inB n a b)) ∧ w = w' := by
  go_enter Tryd.func39, Tryd.ntmps39
  go_wp2
  all_goals (go_ret; exact ⟨ret_bool (by simp [inB, *]; try omega), rfl⟩)
theorem In_any (n a b : Int) (w : World) :
    Calls Tryd.prog 66 #[.int .i64 n, .int .i64 a, .int .i64 b] w fun e w' => e = .returned (.bool (inB n a b)) ∧ w = w' := by
  go_enter Tryd.func66, Tryd.ntmps66
  go_wp2
  all_goals (go_ret; exact ⟨ret_bool (by simp [inB, *]; try omega), rfl⟩)
theorem in_any (n a b : Int) (w : World) :
    Calls Tryd.prog 42 #[.int .i64 n, .int .i64 a, .int .i64 b] w fun e w' => e = .returned (.bool (inB n a b)) ∧ w = w' := by
  go_enter Tryd.func42, Tryd.ntmps42
  go_wp2_with (go_at_call 66; refine (In_any _ _ _ _).mono ?_; rintro e w' ⟨rfl, rfl⟩)
  go_ret
  exact ⟨rfl, rfl⟩

/-- The times of a clock, as data. -/
structure TimesD where
  total : Int
  extra : Int
  outs : Int
  len : Int
def TimesD.ok (t : TimesD) : Bool := inB t.total 1 1073741824 && inB t.extra 0 100000 && inB t.len 0 100000 && inB t.outs 0 10
def TimesD.val (t : TimesD) : Value := .agg #[.int .i64 t.total, .int .i64 t.extra, .int .i64 t.outs, .int .i64 t.len]

theorem checkTimes_any (t : TimesD) (w : World) : Calls Tryd.prog 30 #[t.val] w fun e w' => e = .returned (.bool t.ok) ∧ Below w.heap.size w w' := by
  obtain ⟨b1, h1⟩ : ∃ b, inB t.total 1 1073741824 = b := ⟨_, rfl⟩
  obtain ⟨b2, h2⟩ : ∃ b, inB t.extra 0 100000 = b := ⟨_, rfl⟩
  obtain ⟨b3, h3⟩ : ∃ b, inB t.len 0 100000 = b := ⟨_, rfl⟩
  obtain ⟨b4, h4⟩ : ∃ b, inB t.outs 0 10 = b := ⟨_, rfl⟩
  have H := hid (show t.ok = (b1 && b2 && b3 && b4) by unfold TimesD.ok; rw [h1, h2, h3, h4])
  unfold TimesD.val
  go_enter Tryd.func30, Tryd.ntmps30
  cases b1 <;> cases b2 <;> cases b3 <;> cases b4
  all_goals
    go_wp2_with (go_at_call 39; refine (within_any _ _ _ _).mono ?_; rintro e w' ⟨rfl, rfl⟩)
    go_ret
    exact ⟨ret_bool (by rw [H.out]; rfl), (Below.refl _ _).alloc (Nat.le_refl _) _⟩
end Go.Proofs.YtdbfnonpndlejaaDoor
