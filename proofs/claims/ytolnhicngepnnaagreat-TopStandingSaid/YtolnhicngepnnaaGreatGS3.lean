/- What can be wrong with a line: the closures of game.wrongs walked. -/
import Derived.Test.YtolnhicngepnnaaGreatGS2
namespace Go.Proofs.YtolnhicngepnnaaGreat
open Go.RowKit

def wr1 (s : StD) : Bool := s.over
def wr2 (x : LineD) : Bool := !inB x.team (-1) 1
def wr3 (x : LineD) : Bool := x.team == -1 && x.pts != 0
def wr4 (m : MatchD) (x : LineD) : Bool := x.team != -1 && !inB x.pts 1 m.most
def wr5 (m : MatchD) (s : StD) (x : LineD) : Bool := x.pow && (!m.power || decide (m.ends ≤ s.ends) || s.powAt s.ham)
theorem fits_wr (m : MatchD) (s : StD) (x : LineD) : (wr1 s || wr2 x || wr3 x || wr4 m x || wr5 m s x) = !fits m s x := by
  unfold wr1 wr2 wr3 wr4 wr5 fits lineOk powOk
  have e : decide (s.ends < m.ends) = !decide (m.ends ≤ s.ends) := by rw [Bool.eq_iff_iff]; simp
  rw [e]
  have e1 : inB x.team (-1) 1 = (x.team == -1 || inB x.team 0 1) := by rw [Bool.eq_iff_iff]; simp [inB]; omega
  have e2 : (x.team == -1) = true → inB x.team 0 1 = false := by intro h; simp at h; rw [h]; rfl
  rw [e1, bne, bne]
  revert e2
  generalize (x.team == -1) = a
  generalize inB x.team 0 1 = b
  generalize (x.pts == 0) = c
  generalize inB x.pts 1 m.most = d
  generalize s.over = o
  generalize x.pow = p
  generalize m.power = q
  generalize decide (m.ends ≤ s.ends) = r
  generalize s.powAt s.ham = u
  cases a <;> cases b <;> cases c <;> cases d <;> cases o <;> cases p <;> cases q <;> cases r <;> cases u <;> simp
theorem w1_any (P S : Nat) (m : MatchD) (s : StD) (x : LineD) (w : World) (hP : w.cell? ⟨P, 0, none⟩ = some (.pointer (some ⟨S, 0, none⟩))) (h : SObj w S m s) :
    Calls Tryz.prog 115 #[x.val, .pointer (some ⟨P, 0, none⟩)] w fun e w' => e = .returned (.bool (wr1 s)) ∧ Below w.heap.size w w' := by
  obtain ⟨c0, c1, c2, c3, c4, c5, c6, c7, c8, c9, c10, c11, c12, c13, cf⟩ := cells14 h
  have hPl := World.block_lt_of_cell? w _ hP
  have hSl := h.lt
  clear c0 c1 c2 c3 c4 c6 c7 c8 c9 c10 c11 c12 c13 cf h
  unfold LineD.val
  go_enter Tryz.func115, Tryz.ntmps115
  go_wp2
  go_ret
  exact ⟨rfl, (Below.refl _ _).alloc (Nat.le_refl _) _⟩
theorem w2_any (x : LineD) (w : World) : Calls Tryz.prog 116 #[x.val] w fun e w' => e = .returned (.bool (wr2 x)) ∧ Below w.heap.size w w' := by
  unfold LineD.val
  go_enter Tryz.func116, Tryz.ntmps116
  go_wp2_with (go_at_call 30; refine (within_any _ _ _ _).mono ?_; rintro e w' ⟨rfl, rfl⟩)
  go_ret
  exact ⟨rfl, (Below.refl _ _).alloc (Nat.le_refl _) _⟩
theorem w3_any (x : LineD) (w : World) : Calls Tryz.prog 117 #[x.val] w fun e w' => e = .returned (.bool (wr3 x)) ∧ Below w.heap.size w w' := by
  have HW := hid (show wr3 x = (x.team == -1 && x.pts != 0) from rfl)
  unfold LineD.val
  obtain ⟨b1, h1⟩ : ∃ b, (x.team == -1) = b := ⟨_, rfl⟩
  rw [h1] at HW
  go_enter Tryz.func117, Tryz.ntmps117
  cases b1
  all_goals
    go_wp2
    go_ret
    exact ⟨ret_bool (by rw [HW.out]; simp), (Below.refl _ _).alloc (Nat.le_refl _) _⟩
theorem w4_any (P S : Nat) (m : MatchD) (s : StD) (x : LineD) (w : World) (hP : w.cell? ⟨P, 0, none⟩ = some (.pointer (some ⟨S, 0, none⟩))) (h : SObj w S m s) :
    Calls Tryz.prog 118 #[x.val, .pointer (some ⟨P, 0, none⟩)] w fun e w' => e = .returned (.bool (wr4 m x)) ∧ Below w.heap.size w w' := by
  obtain ⟨c0, c1, c2, c3, c4, c5, c6, c7, c8, c9, c10, c11, c12, c13, cf⟩ := cells14 h
  have hPl := World.block_lt_of_cell? w _ hP
  have hSl := h.lt
  clear c0 c1 c2 c3 c4 c5 c6 c7 c8 c9 c11 c12 c13 cf h
  have HW := hid (show wr4 m x = (x.team != -1 && !inB x.pts 1 m.most) from rfl)
  obtain ⟨b1, h1⟩ : ∃ b, (x.team != -1) = b := ⟨_, rfl⟩
  rw [h1] at HW
  unfold LineD.val
  go_enter Tryz.func118, Tryz.ntmps118
  go_upto_region 1 with fail
  obtain ⟨W0, e0, hz0, hb0, hc0, hf0⟩ := box_new w #[.int .i64 x.team, .int .i64 x.pts, .bool x.pow] 54
  rw [e0]
  have b0 : W0.cell? ⟨w.heap.size, 0, none⟩ = some (.int .i64 x.team) := hc0 0
  have b1' : W0.cell? ⟨w.heap.size, 1, none⟩ = some (.int .i64 x.pts) := hc0 1
  have d0 := bcs hb0 hP
  have d1 := bcs hb0 c10
  have HB := hid hb0
  clear e0 hz0 hb0 hc0 hf0 hP c10
  cases b1
  all_goals
    go_quiet ((go_at_call 30; exact Calls.quiet_of_same ((within_any _ _ _ _).mono fun _ _ ⟨h1, h2⟩ => ⟨h1, h2.symm⟩)))
    go_wp2_with fail
    go_ret
    exact ⟨ret_bool (by rw [HW.out]; simp), drewNB HB.out _⟩
theorem w5_any (P S : Nat) (m : MatchD) (s : StD) (x : LineD) (w : World) (hP : w.cell? ⟨P, 0, none⟩ = some (.pointer (some ⟨S, 0, none⟩))) (h : SObj w S m s) (hh : s.ham = 0 ∨ s.ham = 1) :
    Calls Tryz.prog 119 #[x.val, .pointer (some ⟨P, 0, none⟩)] w fun e w' => e = .returned (.bool (wr5 m s x)) ∧ Below w.heap.size w w' := by
  obtain ⟨c0, c1, c2, c3, c4, c5, c6, c7, c8, c9, c10, c11, c12, c13, cf⟩ := cells14 h
  have hPl := World.block_lt_of_cell? w _ hP
  have hSl := h.lt
  clear c0 c1 c4 c5 c6 c10 c11 c12 cf h
  have HW := hid (show wr5 m s x = (x.pow && (!m.power || decide (m.ends ≤ s.ends) || s.powAt s.ham)) from rfl)
  have HPA := hid (show s.powAt s.ham = if s.ham = 0 then s.w0 else s.w1 from rfl)
  unfold LineD.val
  go_enter Tryz.func119, Tryz.ntmps119
  go_upto_region 1 with fail
  obtain ⟨W0, e0, hz0, hb0, hc0, hf0⟩ := box_new w #[.int .i64 x.team, .int .i64 x.pts, .bool x.pow] 54
  rw [e0]
  have b2 : W0.cell? ⟨w.heap.size, 2, none⟩ = some (.bool x.pow) := hc0 2
  have d0 := bcs hb0 hP
  have d2 := bcs hb0 c2
  have d3 := bcs hb0 c3
  have d7 := bcs hb0 c7
  have d8 := bcs hb0 c8
  have d9 := bcs hb0 c9
  have d13 := bcs hb0 c13
  have HB := hid hb0
  clear e0 hz0 hb0 hc0 hf0 hP c2 c3 c7 c8 c9 c13
  generalize s.w0 = w0 at *
  generalize s.w1 = w1 at *
  obtain ⟨k1, hk1⟩ : ∃ b, x.pow = b := ⟨_, rfl⟩
  obtain ⟨k2, hk2⟩ : ∃ b, m.power = b := ⟨_, rfl⟩
  obtain ⟨k3, hk3⟩ : ∃ b, decide (m.ends ≤ s.ends) = b := ⟨_, rfl⟩
  rw [hk1, hk2, hk3] at HW
  rw [hk2] at d13
  rw [hk1] at b2
  clear hk2
  have hk3' : decide (s.ends ≥ m.ends) = k3 := hk3
  rcases hh with hh | hh
  all_goals
    rw [hh] at d3 HPA
    rw [hh] at HW
    simp only [if_true, if_false, Int.one_ne_zero] at HPA
    rw [HPA.out] at HW
    clear hh HPA
    cases k1 <;> cases k2 <;> cases k3
    all_goals
      go_quiet (fail)
      go_wp2_with fail
      go_ret
      exact ⟨ret_bool (by rw [HW.out]; simp), drewNB HB.out _⟩
end Go.Proofs.YtolnhicngepnnaaGreat
