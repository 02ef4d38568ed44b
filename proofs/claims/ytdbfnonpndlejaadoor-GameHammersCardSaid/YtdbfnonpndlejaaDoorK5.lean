/- The document's clock walked. -/
import Derived.Test.YtdbfnonpndlejaaDoorK4
namespace Go.Proofs.YtdbfnonpndlejaaDoor
open Go.RowKit

theorem refCheckTimes_any (t : TimesD) (w : World) : Calls Tryd.prog 29 #[t.val] w fun e w' => e = .returned (.bool t.ok) ∧ Below w.heap.size w w' := by
  obtain ⟨b1, h1⟩ : ∃ b, inB t.total 1 1073741824 = b := ⟨_, rfl⟩
  obtain ⟨b2, h2⟩ : ∃ b, inB t.extra 0 100000 = b := ⟨_, rfl⟩
  obtain ⟨b3, h3⟩ : ∃ b, inB t.len 0 100000 = b := ⟨_, rfl⟩
  obtain ⟨b4, h4⟩ : ∃ b, inB t.outs 0 10 = b := ⟨_, rfl⟩
  have H := hid (show t.ok = (b1 && b2 && b3 && b4) by unfold TimesD.ok; rw [h1, h2, h3, h4])
  unfold TimesD.val
  go_enter Tryd.func29, Tryd.ntmps29
  cases b1 <;> cases b2 <;> cases b3 <;> cases b4
  all_goals
    go_wp2_with (go_at_call 42; refine (in_any _ _ _ _).mono ?_; rintro e w' ⟨rfl, rfl⟩)
    go_ret
    exact ⟨ret_bool (by rw [H.out]; rfl), (Below.refl _ _).alloc (Nat.le_refl _) _⟩
/-- The document's clock, as a value. -/
def ClkD.vals (c : ClkD) : Array Value := #[.int .i64 c.t.total, .int .i64 c.t.extra, .int .i64 c.t.outs, .int .i64 c.t.len, .int .i64 c.l0, .int .i64 c.l1, .int .i64 c.o0, .int .i64 c.o1, .int .i64 c.now, .int .i64 c.team, .int .i64 c.til]
def ClkD.val (c : ClkD) : Value := .agg c.vals
def ClkR (r : ClkD × Int) (w : World) (e : Ending) (w' : World) : Prop := e = .returned (.tuple #[r.1.val, .int .i64 r.2]) ∧ Below w.heap.size w w'
theorem refNew_any (t : TimesD) (w : World) : Calls Tryd.prog 31 #[t.val] w fun e w' => e = .returned (ClkD.val ⟨t, t.total, t.total, t.outs, t.outs, -1, 0, 0⟩) ∧ Below w.heap.size w w' := by
  unfold TimesD.val
  go_enter Tryd.func31, Tryd.ntmps31
  go_wp2_with fail
  exact bodyPost_ret (v := .agg #[.int .i64 t.total, .int .i64 t.extra, .int .i64 t.outs, .int .i64 t.len, .int .i64 t.total, .int .i64 t.total, .int .i64 t.outs, .int .i64 t.outs, .int .i64 0, .int .i64 (-1), .int .i64 0]) (by simp [results, Tryd.results31, go_sem]) rfl ⟨rfl, ((Below.refl _ _).alloc (Nat.le_refl _) _).alloc (by simp) _⟩
theorem timed_any (c : ClkD) (t : Int) (w : World) : Calls Tryd.prog 57 #[c.val, .int .i64 t] w fun e w' => e = .returned (.bool (inB t c.now 1073741824)) ∧ Below w.heap.size w w' := by
  unfold ClkD.val ClkD.vals
  go_enter Tryd.func57, Tryd.ntmps57
  go_wp2_with (go_at_call 42; refine (in_any _ _ _ _).mono ?_; rintro e w' ⟨rfl, rfl⟩)
  go_ret
  exact ⟨rfl, (Below.refl _ _).alloc (Nat.le_refl _) _⟩
theorem refOuts_any (c : ClkD) (k : Int) (w : World) : Calls Tryd.prog 59 #[c.val, .int .i64 k] w fun e w' => e = .returned (.tuple #[.int .i64 (c.outsR k).1, .int .i64 (c.outsR k).2]) ∧ Below w.heap.size w w' := by
  have HS := hid (ClkD.outsR.eq_1 c k)
  unfold ClkD.val ClkD.vals
  by_cases hk : inB k 0 1 = true
  · have hk2 : k = 0 ∨ k = 1 := by simp [inB] at hk; omega
    rw [hk, if_pos rfl] at HS
    rcases hk2 with rfl | rfl
    all_goals
      go_enter Tryd.func59, Tryd.ntmps59
      go_wp2_with (go_at_call 42; refine (in_any _ _ _ _).mono ?_; rintro e w' ⟨rfl, rfl⟩)
      go_ret2
      exact ⟨by rw [HS.out]; rfl, (Below.refl _ _).alloc (Nat.le_refl _) _⟩
  · have hk' : inB k 0 1 = false := by simpa using hk
    rw [hk', if_neg (by decide)] at HS
    go_enter Tryd.func59, Tryd.ntmps59
    go_wp2_with (go_at_call 42; refine (in_any _ _ _ _).mono ?_; rintro e w' ⟨rfl, rfl⟩)
    go_ret2
    exact ⟨by rw [HS.out]; rfl, (Below.refl _ _).alloc (Nat.le_refl _) _⟩
set_option maxHeartbeats 2000000 in
/-- besomref08.passed -/
theorem passed_any (c : ClkD) (t : Int) (w : World) (N : Nat) (hN : N ≤ 1000) (ho : ClkOk N c) (ht : c.now ≤ t ∧ t ≤ 1073741824) :
    Calls Tryd.prog 58 #[c.val, .int .i64 t] w fun e w' => e = .returned (c.pass t).val ∧ Below w.heap.size w w' := by
  have HP := hid (show (c.pass t).val = .agg #[.int .i64 c.t.total, .int .i64 c.t.extra, .int .i64 c.t.outs, .int .i64 c.t.len, .int .i64 (c.at 0 t), .int .i64 (c.at 1 t), .int .i64 c.o0, .int .i64 c.o1, .int .i64 t, .int .i64 c.team, .int .i64 c.til] from rfl)
  have H0 := hid (show c.at 0 t = if c.team = 0 then max 0 (c.l0 - max 0 (t - max c.now c.til)) else c.l0 from rfl)
  have H1 := hid (show c.at 1 t = if c.team = 1 then max 0 (c.l1 - max 0 (t - max c.now c.til)) else c.l1 from rfl)
  obtain ⟨n1, n2⟩ := ho.now
  obtain ⟨i1, i2⟩ := ho.til
  obtain ⟨x1, x2⟩ := ho.l0
  obtain ⟨y1, y2⟩ := ho.l1
  obtain ⟨t1, t2⟩ := ht
  have htm := ho.team
  generalize (c.pass t).val = R at *
  unfold ClkD.val ClkD.vals
  clear ho
  generalize c.at 0 t = a0 at *
  generalize c.at 1 t = a1 at *
  generalize c.team = tm at *
  generalize c.now = now at *
  generalize c.til = til at *
  generalize c.l0 = l0 at *
  generalize c.l1 = l1 at *
  rcases htm with rfl | rfl | rfl
  · rw [if_neg (by decide)] at H0 H1
    go_enter Tryd.func58, Tryd.ntmps58
    go_wp2_with fail
    exact bodyPost_ret (v := .agg #[.int .i64 c.t.total, .int .i64 c.t.extra, .int .i64 c.t.outs, .int .i64 c.t.len, .int .i64 l0, .int .i64 l1, .int .i64 c.o0, .int .i64 c.o1, .int .i64 t, .int .i64 (-1), .int .i64 til]) (by simp [results, Tryd.results58, go_sem]) rfl ⟨by rw [HP.out, H0.out, H1.out], ((Below.refl _ _).alloc (Nat.le_refl _) _).alloc (by simp) _⟩
  · rw [if_pos rfl] at H0
    rw [if_neg (by decide)] at H1
    go_enter Tryd.func58, Tryd.ntmps58
    go_wp2_with fail
    all_goals
      go_region
    all_goals
      go_wp2_with fail
    all_goals
      refine bodyPost_ret (by simp [results, Tryd.results58, go_sem]; exact rfl) rfl ⟨?_, ?_⟩
      · rw [HP.out, H0.out, H1.out]
        simp only [Ending.returned.injEq, Value.agg.injEq, Array.mk.injEq, List.cons.injEq, Value.int.injEq, true_and, and_true]
        omega
      · exact (((Below.refl _ _).alloc (Nat.le_refl _) _).alloc (by simp) _).drew
  · rw [if_pos rfl] at H1
    rw [if_neg (by decide)] at H0
    go_enter Tryd.func58, Tryd.ntmps58
    go_wp2_with fail
    all_goals
      go_region
    all_goals
      go_wp2_with fail
    all_goals
      refine bodyPost_ret (by simp [results, Tryd.results58, go_sem]; exact rfl) rfl ⟨?_, ?_⟩
      · rw [HP.out, H0.out, H1.out]
        simp only [Ending.returned.injEq, Value.agg.injEq, Array.mk.injEq, List.cons.injEq, Value.int.injEq, true_and, and_true]
        omega
      · exact (((Below.refl _ _).alloc (Nat.le_refl _) _).alloc (by simp) _).drew
end Go.Proofs.YtdbfnonpndlejaaDoor
