/- The methods of a clock walked. -/
import Derived.Test.YtdbfnonpndlejaaDoorK1
import Derived.BigQuiet
import Derived.Deep.QuietTactic
import Derived.IntWalk
namespace Go.Proofs.YtdbfnonpndlejaaDoor
open Go.RowKit

/-- Bounds that a clock keeps. -/
structure ClkOk (N : Nat) (c : ClkD) : Prop where
  t : c.t.ok = true
  l0 : 0 ≤ c.l0 ∧ c.l0 ≤ 1073741824 + 100000 * (N : Int)
  l1 : 0 ≤ c.l1 ∧ c.l1 ≤ 1073741824 + 100000 * (N : Int)
  o0 : 0 ≤ c.o0 ∧ c.o0 ≤ 10
  o1 : 0 ≤ c.o1 ∧ c.o1 ≤ 10
  team : c.team = -1 ∨ c.team = 0 ∨ c.team = 1
  now : 0 ≤ c.now ∧ c.now ≤ 1073741824
  til : 0 ≤ c.til ∧ c.til ≤ 1073841824
def ClkD.left (c : ClkD) (k : Int) : Int := if k = 0 then c.l0 else c.l1
def ClkD.outs (c : ClkD) (k : Int) : Int := if k = 0 then c.o0 else c.o1
def ClkD.wrong (c : ClkD) (team t : Int) : Int := if inB team 0 1 then (if inB t c.now 1073741824 then 0 else 4) else 2
def ClkD.at (c : ClkD) (k t : Int) : Int := if c.team = k then max 0 (c.left k - max 0 (t - max c.now c.til)) else c.left k
def ClkD.pass (c : ClkD) (t : Int) : ClkD := { c with l0 := c.at 0 t, l1 := c.at 1 t, now := t }
def ClkD.start (c : ClkD) (team t : Int) : ClkD × Int :=
  if c.wrong team t = 0 then (if c.team = -1 then (if c.left team = 0 then (c, 7) else ({ c.pass t with team := team }, 0)) else (c, 9)) else (c, c.wrong team t)
def ClkD.stop (c : ClkD) (t : Int) : ClkD × Int :=
  if c.wrong 0 t = 0 then (if c.team = -1 then (c, 9) else ({ c.pass t with team := -1 }, 0)) else (c, c.wrong 0 t)
def ClkD.out (c : ClkD) (team t : Int) : ClkD × Int :=
  if c.wrong team t = 0 then (if c.team = team ∧ c.til ≤ t then (if c.outs team = 0 then (c, 7) else ({ c.pass t with o0 := c.o0 - (if team = 0 then 1 else 0), o1 := c.o1 - (if team = 0 then 0 else 1), til := t + c.t.len }, 0)) else (c, 9)) else (c, c.wrong team t)
def ClkD.extra (c : ClkD) (t : Int) : ClkD × Int :=
  if c.wrong 0 t = 0 then (if c.team = -1 then ({ c.pass t with l0 := c.at 0 t + c.t.extra, l1 := c.at 1 t + c.t.extra }, 0) else (c, 9)) else (c, c.wrong 0 t)

theorem is_any (B : Nat) (c : ClkD) (w : World) (hc : CObj w B c) : Calls Tryd.prog 53 #[.pointer (some ⟨B, 0, none⟩)] w fun e w' => e = .returned (.bool true) ∧ w = w' := by
  have c4 : w.cell? ⟨B, 4, none⟩ = some (.bool true) := hc.cell 4
  clear hc
  go_enter Tryd.func53, Tryd.ntmps53
  go_wp2
  go_ret
  exact ⟨rfl, rfl⟩
theorem wrong_any (B : Nat) (c : ClkD) (team t : Int) (w : World) (hc : CObj w B c) : Calls Tryd.prog 54 #[.pointer (some ⟨B, 0, none⟩), .int .i64 team, .int .i64 t] w fun e w' => e = .returned (.int .i64 (c.wrong team t)) ∧ w = w' := by
  have c10 : w.cell? ⟨B, 10, none⟩ = some (.int .i64 c.now) := hc.cell 10
  have HC := hid hc
  clear hc
  obtain ⟨b1, h1⟩ : ∃ b, inB team 0 1 = b := ⟨_, rfl⟩
  obtain ⟨b2, h2⟩ : ∃ b, inB t c.now 1073741824 = b := ⟨_, rfl⟩
  have HW := hid (show c.wrong team t = if b1 then (if b2 then 0 else 4) else 2 by unfold ClkD.wrong; rw [h1, h2])
  go_enter Tryd.func54, Tryd.ntmps54
  cases b1 <;> cases b2
  all_goals
    go_wp2_with (first | (go_at_call 53; refine (is_any _ c _ HC.out).mono ?_; rintro e w' ⟨rfl, rfl⟩) | (go_at_call 39; refine (within_any _ _ _ _).mono ?_; rintro e w' ⟨rfl, rfl⟩))
    go_ret
    exact ⟨ret_int (by rw [HW.out]; rfl), rfl⟩
theorem at_any (B : Nat) (c : ClkD) (k t : Int) (w : World) (hc : CObj w B c) (N : Nat) (hN : N ≤ 1000) (ho : ClkOk N c) (hk : k = 0 ∨ k = 1) (ht : c.now ≤ t ∧ t ≤ 1073741824) :
    Calls Tryd.prog 55 #[.pointer (some ⟨B, 0, none⟩), .int .i64 k, .int .i64 t] w fun e w' => e = .returned (.int .i64 (c.at k t)) ∧ ∃ n, w' = w.drewN n := by
  have c5 : w.cell? ⟨B, 5, none⟩ = some (.int .i64 c.l0) := hc.cell 5
  have c6 : w.cell? ⟨B, 6, none⟩ = some (.int .i64 c.l1) := hc.cell 6
  have c9 : w.cell? ⟨B, 9, none⟩ = some (.int .i64 c.team) := hc.cell 9
  have c10 : w.cell? ⟨B, 10, none⟩ = some (.int .i64 c.now) := hc.cell 10
  have c11 : w.cell? ⟨B, 11, none⟩ = some (.int .i64 c.til) := hc.cell 11
  have HA := hid (show c.at k t = if c.team = k then max 0 (c.left k - max 0 (t - max c.now c.til)) else c.left k from rfl)
  have HL := hid (show c.left k = if k = 0 then c.l0 else c.l1 from rfl)
  obtain ⟨n1, n2⟩ := ho.now
  obtain ⟨i1, i2⟩ := ho.til
  obtain ⟨x1, x2⟩ := ho.l0
  obtain ⟨y1, y2⟩ := ho.l1
  obtain ⟨t1, t2⟩ := ht
  clear hc ho
  generalize c.l0 = l0 at *
  generalize c.l1 = l1 at *
  generalize c.team = tm at *
  generalize c.now = now at *
  generalize c.til = til at *
  go_enter Tryd.func55, Tryd.ntmps55
  rcases hk with rfl | rfl
  · rw [if_pos rfl] at HL
    rw [HL.out] at HA
    by_cases hkt : tm = 0
    · subst hkt
      rw [if_pos rfl] at HA
      have hw1 : IntKind.i64.wrap (t - max now til) = t - max now til := IntWalk.i64_in _ (by omega)
      have hw2 : IntKind.i64.wrap (l0 - max 0 (t - max now til)) = l0 - max 0 (t - max now til) := IntWalk.i64_in _ (by omega)
      go_wp2_with fail
      go_quiet (fail)
      all_goals
        clear hw1 hw2
        go_wp2_with fail
      all_goals
        go_ret
        exact ⟨ret_int (by rw [HA.out]; omega), _, rfl⟩
    · rw [if_neg hkt] at HA
      have hkt' : (tm != 0) = true := by simpa using hkt
      go_wp2_with fail
      go_ret
      exact ⟨ret_int HA.out.symm, 0, rfl⟩
  · rw [if_neg (by decide)] at HL
    rw [HL.out] at HA
    by_cases hkt : tm = 1
    · subst hkt
      rw [if_pos rfl] at HA
      have hw1 : IntKind.i64.wrap (t - max now til) = t - max now til := IntWalk.i64_in _ (by omega)
      have hw2 : IntKind.i64.wrap (l1 - max 0 (t - max now til)) = l1 - max 0 (t - max now til) := IntWalk.i64_in _ (by omega)
      go_wp2_with fail
      go_quiet (fail)
      all_goals
        clear hw1 hw2
        go_wp2_with fail
      all_goals
        go_ret
        exact ⟨ret_int (by rw [HA.out]; omega), _, rfl⟩
    · rw [if_neg hkt] at HA
      have hkt' : (tm != 1) = true := by simpa using hkt
      go_wp2_with fail
      go_ret
      exact ⟨ret_int HA.out.symm, 0, rfl⟩
theorem CObj.of {w : World} {B : Nat} {c : ClkD} {cs : Array Value} (h : w.heap[B]? = some (.cells cs 72 (0, 0))) (e : cs = c.arr) : CObj w B c := by unfold CObj; rw [h, e]
/-- What a call leaves: the clock, and all else as it was. -/
def CPost (B : Nat) (c : ClkD) (w w' : World) : Prop := CObj w' B c ∧ Only B w w'
theorem only_drewN {B : Nat} {w w' : World} (h : Only B w w') (n : Nat) : Only B w (w'.drewN n) := ⟨drewNB h.bel n, h.rest⟩
theorem pass_any (B : Nat) (c : ClkD) (t : Int) (w : World) (hc : CObj w B c) (N : Nat) (hN : N ≤ 1000) (ho : ClkOk N c) (ht : c.now ≤ t ∧ t ≤ 1073741824) :
    Calls Tryd.prog 56 #[.pointer (some ⟨B, 0, none⟩), .int .i64 t] w fun e w' => (∃ v, e = .returned v) ∧ CPost B (c.pass t) w w' := by
  have HC := hid hc
  have HP := hid (show (c.pass t).arr = #[.int .i64 c.t.total, .int .i64 c.t.extra, .int .i64 c.t.outs, .int .i64 c.t.len, .bool true, .int .i64 (c.at 0 t), .int .i64 (c.at 1 t), .int .i64 c.o0, .int .i64 c.o1, .int .i64 c.team, .int .i64 t, .int .i64 c.til] from rfl)
  have A0 := hid (at_any B c 0 t w hc N hN ho (.inl rfl) ht)
  have A1 := hid (fun n => at_any B c 1 t (w.drewN n) hc N hN ho (.inr rfl) ht)
  clear hc ho
  generalize c.at 0 t = a0 at *
  generalize c.at 1 t = a1 at *
  go_enter Tryd.func56, Tryd.ntmps56
  go_wp2_with fail
  refine A0.out.mono ?_
  rintro e w1 ⟨rfl, n, rfl⟩
  go_wp2_with fail
  refine (A1.out n).mono ?_
  rintro e w1 ⟨rfl, n2, rfl⟩
  obtain ⟨w2, hw2⟩ : ∃ w2, (w.drewN n).drewN n2 = w2 := ⟨_, rfl⟩
  have HC2 : CObj w2 B c := by rw [← hw2]; exact HC.out
  have HO := hid (show Only B w w2 by rw [← hw2]; exact only_drewN (only_drewN (Only.refl _ _) _) _)
  rw [hw2]
  have f5 := HC2.frozen 5
  have f6 := HC2.frozen 6
  have f10 := HC2.frozen 10
  have c5 : w2.cell? ⟨B, 5, none⟩ = some (.int .i64 c.l0) := HC2.cell 5
  have c6 : w2.cell? ⟨B, 6, none⟩ = some (.int .i64 c.l1) := HC2.cell 6
  have c10 : w2.cell? ⟨B, 10, none⟩ = some (.int .i64 c.now) := HC2.cell 10
  have H2 := hid HC2
  clear HC2 hw2
  go_wp2_with fail
  go_end0
  refine ⟨⟨_, rfl⟩, CObj.of (heap_setCell_same _ B 10 _ 72 _ (heap_setCell_same _ B 6 _ 72 _ (H2.out.set 5 _))) (by rw [HP.out]; rfl), ((HO.out.setCell _ _).setCell _ _).setCell _ _⟩
theorem wrong_zero {c : ClkD} {team t : Int} (h : c.wrong team t = 0) : (team = 0 ∨ team = 1) ∧ c.now ≤ t ∧ t ≤ 1073741824 := by
  unfold ClkD.wrong at h
  split at h
  · rename_i h1
    split at h
    · rename_i h2
      simp [inB] at h1 h2
      omega
    · cases h
  · cases h
theorem CPost.refl {B : Nat} {c : ClkD} {w : World} (h : CObj w B c) : CPost B c w w := ⟨h, Only.refl _ _⟩
set_option maxHeartbeats 1000000 in
theorem start_any (B : Nat) (c : ClkD) (team t : Int) (w : World) (hc : CObj w B c) (N : Nat) (hN : N ≤ 1000) (ho : ClkOk N c) :
    Calls Tryd.prog 25 #[.pointer (some ⟨B, 0, none⟩), .int .i64 team, .int .i64 t] w fun e w' => e = .returned (.int .i64 (c.start team t).2) ∧ CPost B (c.start team t).1 w w' := by
  have HC := hid hc
  have HO := hid ho
  have HW := hid (wrong_any B c team t w hc)
  have HS := hid (ClkD.start.eq_1 c team t)
  by_cases hz : c.wrong team t = 0
  · obtain ⟨hk, ht⟩ := wrong_zero hz
    rw [if_pos hz] at HS
    rw [hz] at HW
    have HP := hid (pass_any B c t w hc N hN ho ht)
    have c9 : w.cell? ⟨B, 9, none⟩ = some (.int .i64 c.team) := hc.cell 9
    have c5 : w.cell? ⟨B, 5, none⟩ = some (.int .i64 c.l0) := hc.cell 5
    have c6 : w.cell? ⟨B, 6, none⟩ = some (.int .i64 c.l1) := hc.cell 6
    clear hz ht hc ho
    by_cases htm : c.team = -1
    · rw [if_pos htm] at HS
      rw [htm] at c9
      clear htm
      rcases hk with rfl | rfl
      · by_cases hl : c.l0 = 0
        · rw [if_pos (show c.left 0 = 0 from hl)] at HS
          rw [hl] at c5
          clear hl c6
          go_enter Tryd.func25, Tryd.ntmps25
          go_wp2_with fail
          refine HW.out.mono ?_
          rintro e w' ⟨rfl, rfl⟩
          go_wp2_with fail
          go_ret
          rw [HS.out]
          exact ⟨rfl, CPost.refl HC.out⟩
        · rw [if_neg (show ¬ c.left 0 = 0 from hl)] at HS
          have hl' : (c.l0 == 0) = false := by simpa using hl
          clear hl c6
          generalize c.l0 = l0 at *
          go_enter Tryd.func25, Tryd.ntmps25
          go_wp2_with fail
          refine HW.out.mono ?_
          rintro e w' ⟨rfl, rfl⟩
          go_wp2_with fail
          refine HP.out.mono ?_
          rintro e w' ⟨⟨v, rfl⟩, hc1, ho1⟩
          have d9 : w'.cell? ⟨B, 9, none⟩ = some (.int .i64 c.team) := hc1.cell 9
          have g9 := hc1.frozen 9
          have HC1 := hid hc1
          have HO1 := hid ho1
          clear hc1 ho1 c5 c9
          go_wp2_with fail
          go_ret
          rw [HS.out]
          exact ⟨rfl, CObj.of (HC1.out.set 9 _) rfl, HO1.out.setCell _ _⟩
      · by_cases hl : c.l1 = 0
        · rw [if_pos (show c.left 1 = 0 from hl)] at HS
          rw [hl] at c6
          clear hl c5
          go_enter Tryd.func25, Tryd.ntmps25
          go_wp2_with fail
          refine HW.out.mono ?_
          rintro e w' ⟨rfl, rfl⟩
          go_wp2_with fail
          go_ret
          rw [HS.out]
          exact ⟨rfl, CPost.refl HC.out⟩
        · rw [if_neg (show ¬ c.left 1 = 0 from hl)] at HS
          have hl' : (c.l1 == 0) = false := by simpa using hl
          clear hl c5
          generalize c.l1 = l1 at *
          go_enter Tryd.func25, Tryd.ntmps25
          go_wp2_with fail
          refine HW.out.mono ?_
          rintro e w' ⟨rfl, rfl⟩
          go_wp2_with fail
          refine HP.out.mono ?_
          rintro e w' ⟨⟨v, rfl⟩, hc1, ho1⟩
          have d9 : w'.cell? ⟨B, 9, none⟩ = some (.int .i64 c.team) := hc1.cell 9
          have g9 := hc1.frozen 9
          have HC1 := hid hc1
          have HO1 := hid ho1
          clear hc1 ho1 c6 c9
          go_wp2_with fail
          go_ret
          rw [HS.out]
          exact ⟨rfl, CObj.of (HC1.out.set 9 _) rfl, HO1.out.setCell _ _⟩
    · rw [if_neg htm] at HS
      have ht' : (c.team != -1) = true := by simpa using htm
      clear htm c5 c6
      generalize c.team = tm at *
      go_enter Tryd.func25, Tryd.ntmps25
      go_wp2_with fail
      refine HW.out.mono ?_
      rintro e w' ⟨rfl, rfl⟩
      go_wp2_with fail
      go_ret
      rw [HS.out]
      exact ⟨rfl, CPost.refl HC.out⟩
  · rw [if_neg hz] at HS
    have hz' : (c.wrong team t != 0) = true := by simpa using hz
    clear hz hc ho
    generalize c.wrong team t = E at *
    go_enter Tryd.func25, Tryd.ntmps25
    go_wp2_with fail
    refine HW.out.mono ?_
    rintro e w' ⟨rfl, rfl⟩
    go_wp2_with fail
    go_ret
    rw [HS.out]
    exact ⟨rfl, CPost.refl HC.out⟩
end Go.Proofs.YtdbfnonpndlejaaDoor
