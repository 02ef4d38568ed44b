/- A line of a card played. -/
import Derived.Test.YtolnhicngepnnaaGreatGS1
import Derived.Deep.CutBlock
namespace Go.Proofs.YtolnhicngepnnaaGreat
open Go.RowKit

def powS (s : StD) (x : LineD) : StD := { s with w0 := s.w0 || (x.pow && s.ham == 0), w1 := s.w1 || (x.pow && s.ham == 1) }
def endsS (s : StD) : StD := { s with ends := s.ends + 1 }
def ptsS (m : MatchD) (s : StD) (x : LineD) : StD := { s with p0 := s.p0 + (if x.team = 0 then x.pts else 0), p1 := s.p1 + (if x.team = 1 then x.pts else 0), ham := if 0 ≤ x.team then 1 - x.team else if m.change then 1 - s.ham else s.ham }
def extS (m : MatchD) (s : StD) : StD := { s with extra := decide (m.ends ≤ s.ends) }
theorem played_eq (m : MatchD) (s : StD) (x : LineD) : played m s x = extS m (ptsS m (endsS (powS s x)) x) := rfl
/-- The game in its block, all else as it was. -/
def GS (S : Nat) (m : MatchD) (q : StD) (w wx : World) : Prop := SObj wx S m q ∧ Only S w wx
/-- A line in a box. -/
def BoxL (w : World) (B : Nat) (x : LineD) : Prop := w.cell? ⟨B, 0, none⟩ = some (.int .i64 x.team) ∧ w.cell? ⟨B, 1, none⟩ = some (.int .i64 x.pts) ∧ w.cell? ⟨B, 2, none⟩ = some (.bool x.pow)
theorem BoxL.only {w w' : World} {S B : Nat} {x : LineD} (h : BoxL w B x) (ho : Only S w w') (hlt : S < B) : BoxL w' B x := by
  have hb : B < w.heap.size := World.block_lt_of_cell? w ⟨B, 0, none⟩ h.1
  have e := ho.rest B hlt hb
  exact ⟨(World.cell?_of_block (a := ⟨B, 0, none⟩) e).trans h.1, (World.cell?_of_block (a := ⟨B, 1, none⟩) e).trans h.2.1, (World.cell?_of_block (a := ⟨B, 2, none⟩) e).trans h.2.2⟩
theorem Only.bnd {S : Nat} {w w' : World} (h : Only S w w') : w.heap.size ≤ w'.heap.size := h.bel.size
set_option maxRecDepth 100000 in
set_option maxHeartbeats 1000000 in
theorem play_any (S : Nat) (m : MatchD) (s : StD) (x : LineD) (w : World) (h : SObj w S m s) (hh : s.ham = 0 ∨ s.ham = 1) (ht : x.team = -1 ∨ x.team = 0 ∨ x.team = 1) (hp : 0 ≤ x.pts ∧ x.pts ≤ 8)
    (he : 0 ≤ s.ends ∧ s.ends ≤ 1000) (h0 : 0 ≤ s.p0 ∧ s.p0 ≤ 100000) (h1 : 0 ≤ s.p1 ∧ s.p1 ≤ 100000) :
    Calls Tryz.prog 71 #[.pointer (some ⟨S, 0, none⟩), x.val] w fun e w' => (∃ v, e = .returned v) ∧ GS S m (behind m s x) w w' := by
  have HSW := hid h
  have hS : S < w.heap.size := h.lt
  unfold LineD.val
  clear h
  obtain ⟨team, pts, pow⟩ := x
  simp only at ht hp ⊢
  go_enter Tryz.func71, Tryz.ntmps71
  go_upto_region 1 with fail
  obtain ⟨W0, e0, hz0, hb0, hc0, hf0⟩ := box_new w #[.int .i64 team, .int .i64 pts, .bool pow] 54
  rw [e0]
  have HBX := hid (fun (wx : World) (ho : Only S W0 wx) => (show BoxL W0 w.heap.size ⟨team, pts, pow⟩ from ⟨hc0 0, hc0 1, hc0 2⟩).only ho hS)
  have HS0 := hid (HSW.out.below hb0)
  have HWO := hid (show Only S w W0 from Only.of_below hb0 (Nat.le_of_lt hS))
  have HO0 := hid (Only.refl S W0)
  clear e0 hz0 hb0 hc0 hf0
  have HPL := hid (show behind m s ⟨team, pts, pow⟩ = ended (extS m (ptsS m (endsS (powS s ⟨team, pts, pow⟩)) ⟨team, pts, pow⟩)) from rfl)
  obtain ⟨b0, b1, b2⟩ := HBX.out W0 HO0.out
  obtain ⟨c0, c1, c2, c3, c4, c5, c6, c7, c8, c9, c10, c11, c12, c13, cf⟩ := cells14 HS0.out
  go_upto_if 5 with fail
  go_cut [] (fun wx => GS S m (powS s ⟨team, pts, pow⟩) W0 wx)
  case first =>
    have HW1 := hid (show powS s ⟨team, pts, pow⟩ = { s with w0 := s.w0 || (pow && s.ham == 0), w1 := s.w1 || (pow && s.ham == 1) } from rfl)
    simp only at b0 b1 b2
    cases pow with
    | false =>
      have HE := hid (show powS s ⟨team, pts, false⟩ = s by rw [HW1.out]; simp)
      go_wp2_with fail
      go_meet
      rw [HE.out]
      exact ⟨HS0.out, HO0.out⟩
    | true =>
      rcases hh with hh | hh
      · have HH := hid hh
        rw [hh] at c3
        clear hh
        go_wp2_with fail
        go_region
        all_goals
          go_wp2_with fail
          go_meet
          exact ⟨SObj.of (heap_setCell_same _ S 7 _ 107 (.bool true) HS0.out) (by rw [HW1.out]; simp [gArr, HH.out]), only_drew ((HO0.out).setCell 7 (.bool true))⟩
      · have HH := hid hh
        rw [hh] at c3
        clear hh
        go_wp2_with fail
        go_region
        all_goals
          go_wp2_with fail
          go_meet
          exact ⟨SObj.of (heap_setCell_same _ S 8 _ 107 (.bool true) HS0.out) (by rw [HW1.out]; simp [gArr, HH.out]), only_drew ((HO0.out).setCell 8 (.bool true))⟩
  case rest =>
    obtain ⟨w1, rfl⟩ : ∃ w1, w1 = wc := ⟨_, rfl⟩
    obtain ⟨hs1, ho1⟩ := hcut
    have HE1 := hid (show (powS s ⟨team, pts, pow⟩).ends = s.ends ∧ (powS s ⟨team, pts, pow⟩).p0 = s.p0 ∧ (powS s ⟨team, pts, pow⟩).p1 = s.p1 ∧ (powS s ⟨team, pts, pow⟩).ham = s.ham from ⟨rfl, rfl, rfl, rfl⟩)
    generalize powS s ⟨team, pts, pow⟩ = s1 at *
    obtain ⟨g1, g2, g3, g4⟩ := HE1.out
    rw [← g1] at he
    rw [← g2] at h0
    rw [← g3] at h1
    rw [← g4] at hh
    have HS1 := hid hs1
    have HO1 := hid ho1
    clear c0 c1 c2 c3 c4 c5 c6 c7 c8 c9 c10 c11 c12 c13 cf
    clear hs1 ho1 g1 g2 g3 g4 HE1 HS0 b0 b1 b2
    obtain ⟨e1, e2⟩ := he
    obtain ⟨u1, u2⟩ := h0
    obtain ⟨v1, v2⟩ := h1
    obtain ⟨y1, y2⟩ := hp
    obtain ⟨b0, b1, b2⟩ := HBX.out w1 HO1.out
    simp only at b0 b1 b2
    obtain ⟨c0, c1, c2, c3, c4, c5, c6, c7, c8, c9, c10, c11, c12, c13, cf⟩ := cells14 HS1.out
    have HEE := hid (show (endsS s1).p0 = s1.p0 ∧ (endsS s1).p1 = s1.p1 ∧ (endsS s1).ham = s1.ham ∧ (endsS s1).ends = s1.ends + 1 from ⟨rfl, rfl, rfl, rfl⟩)
    have HEA := hid (show (((gArr m s1).setIfInBounds 2 (.int .i64 (s1.ends + 1)))) = gArr m (endsS s1) by simp [gArr, endsS])
    go_upto_block 0 with fail
    have HS2 := hid (SObj.of (heap_setCell_same _ S 2 _ 107 (.int .i64 (s1.ends + 1)) HS1.out) HEA.out)
    have HO2 := hid (HO1.out.setCell 2 (.int .i64 (s1.ends + 1)))
    generalize w1.setCell ⟨S, 2, none⟩ (.int .i64 (s1.ends + 1)) = w2 at *
    generalize endsS s1 = s2 at *
    obtain ⟨g2, g3, g4, g5⟩ := HEE.out
    rw [← g2] at u1 u2
    rw [← g3] at v1 v2
    rw [← g4] at hh
    have x1 : 0 ≤ s2.ends := by omega
    have x2 : s2.ends ≤ 1001 := by omega
    clear c0 c1 c2 c3 c4 c5 c6 c7 c8 c9 c10 c11 c12 c13 cf
    clear HS1 HO1 b0 b1 b2 e1 e2 g2 g3 g4 g5 HEE HEA
    obtain ⟨b0, b1, b2⟩ := HBX.out w2 HO2.out
    simp only at b0 b1 b2
    obtain ⟨c0, c1, c2, c3, c4, c5, c6, c7, c8, c9, c10, c11, c12, c13, cf⟩ := cells14 HS2.out
    have HH := hid hh
    have z1 : 0 ≤ s2.ham := by rcases hh with h | h <;> omega
    have z2 : s2.ham ≤ 1 := by rcases hh with h | h <;> omega
    clear hh
    go_cut [] (fun wx => GS S m (ptsS m s2 ⟨team, pts, pow⟩) W0 wx)
    case first =>
      rcases ht with rfl | rfl | rfl
      · cases hc : m.change with
        | false =>
          rw [hc] at c12
          have HC := hid hc
          clear hc
          go_wp2_with fail
          go_meet
          exact ⟨SObj.of HS2.out (by simp [gArr, ptsS, HC.out]), HO2.out⟩
        | true =>
          rw [hc] at c12
          have HC := hid hc
          clear hc
          go_wp2_with fail
          go_meet
          exact ⟨SObj.of (heap_setCell_same _ S 3 _ 107 _ HS2.out) (by simp [gArr, ptsS, HC.out]), HO2.out.setCell 3 _⟩
      · have hw : IntKind.i64.wrap (s2.p0 + pts) = s2.p0 + pts := IntWalk.i64_in _ (by omega)
        go_wp2_with fail
        go_region
        all_goals
          clear hw
          go_wp2_with fail
          go_meet
          exact ⟨SObj.of (heap_setCell_same _ S 3 _ 107 _ (heap_setCell_same _ S 0 _ 107 (.int .i64 (s2.p0 + pts)) HS2.out)) (by simp [gArr, ptsS]), ((only_drew (HO2.out.setCell 0 (.int .i64 (s2.p0 + pts)))).setCell 3 _)⟩
      · have hw : IntKind.i64.wrap (s2.p1 + pts) = s2.p1 + pts := IntWalk.i64_in _ (by omega)
        go_wp2_with fail
        go_region
        all_goals
          clear hw
          go_wp2_with fail
          go_meet
          exact ⟨SObj.of (heap_setCell_same _ S 3 _ 107 _ (heap_setCell_same _ S 1 _ 107 (.int .i64 (s2.p1 + pts)) HS2.out)) (by simp [gArr, ptsS]), ((only_drew (HO2.out.setCell 1 (.int .i64 (s2.p1 + pts)))).setCell 3 _)⟩
    case rest =>
      obtain ⟨w3, rfl⟩ : ∃ w3, w3 = wc := ⟨_, rfl⟩
      obtain ⟨hs3, ho3⟩ := hcut
      have HS3 := hid hs3
      have HO3 := hid ho3
      clear c0 c1 c2 c3 c4 c5 c6 c7 c8 c9 c10 c11 c12 c13 cf
      clear hs3 ho3 u1 u2 v1 v2 x1 x2 z1 z2 y1 y2 b0 b1 b2
      generalize ptsS m s2 ⟨team, pts, pow⟩ = s3 at *
      obtain ⟨c0, c1, c2, c3, c4, c5, c6, c7, c8, c9, c10, c11, c12, c13, cf⟩ := cells14 HS3.out
      go_upto_region 9 with fail
      go_cut [] (fun wx => GS S m (extS m s3) W0 wx)
      case first =>
        go_region
        all_goals
          go_wp2_with fail
          go_meet
          exact ⟨SObj.of (heap_setCell_same _ S 6 _ 107 (.bool (decide (m.ends ≤ s3.ends))) HS3.out) (by simp [gArr, extS]), only_drew (HO3.out.setCell 6 (.bool (decide (m.ends ≤ s3.ends))))⟩
      case rest =>
        obtain ⟨w4, rfl⟩ : ∃ w4, w4 = wc := ⟨_, rfl⟩
        obtain ⟨hs4, ho4⟩ := hcut
        have HS4 := hid hs4
        have HO4 := hid ho4
        clear c0 c1 c2 c3 c4 c5 c6 c7 c8 c9 c10 c11 c12 c13 cf
        clear hs4 ho4
        generalize extS m s3 = s4 at *
        obtain ⟨c0, c1, c2, c3, c4, c5, c6, c7, c8, c9, c10, c11, c12, c13, cf⟩ := cells14 HS4.out
        have HEN := hid (fun (n : Int) (k : Nat) => end_any S m s4 n (w4.drewN k) HS4.out)
        obtain ⟨ex, hex⟩ : ∃ ex, s4.extra = ex := ⟨_, rfl⟩
        obtain ⟨k1, hk1⟩ : ∃ b, decide (s4.p0 > s4.p1) = b := ⟨_, rfl⟩
        obtain ⟨k2, hk2⟩ : ∃ b, decide (s4.p1 > s4.p0) = b := ⟨_, rfl⟩
        have HE4 := hid (show ended s4 = if ex && k1 then s4.end 0 else if ex && k2 then s4.end 1 else s4 by unfold ended; rw [hex, hk1, hk2])
        rw [hex] at c6
        clear hex
        cases ex <;> cases k1 <;> cases k2
        all_goals
          go_upto_region 10 with fail
          go_quiet (fail)
          go_wp2_with fail
        · go_quiet (fail)
          go_wp2_with fail
          go_end0
          rw [HPL.out, HE4.out]
          exact ⟨⟨_, rfl⟩, HS4.out, HWO.out.trans (only_drewN (only_drewN HO4.out _) _)⟩
        · go_quiet (fail)
          go_wp2_with fail
          go_end0
          rw [HPL.out, HE4.out]
          exact ⟨⟨_, rfl⟩, HS4.out, HWO.out.trans (only_drewN (only_drewN HO4.out _) _)⟩
        · go_quiet (fail)
          go_wp2_with fail
          go_end0
          rw [HPL.out, HE4.out]
          exact ⟨⟨_, rfl⟩, HS4.out, HWO.out.trans (only_drewN (only_drewN HO4.out _) _)⟩
        · go_quiet (fail)
          go_wp2_with fail
          go_end0
          rw [HPL.out, HE4.out]
          exact ⟨⟨_, rfl⟩, HS4.out, HWO.out.trans (only_drewN (only_drewN HO4.out _) _)⟩
        · go_quiet (fail)
          go_wp2_with fail
          go_end0
          rw [HPL.out, HE4.out]
          exact ⟨⟨_, rfl⟩, HS4.out, HWO.out.trans (only_drewN (only_drewN HO4.out _) _)⟩
        · go_quiet (fail)
          go_wp2_with fail
          refine (HEN.out 1 _).mono ?_
          rintro e w5 ⟨⟨v, rfl⟩, hs5, ho5⟩
          have HS5 := hid hs5
          have HO5 := hid (HWO.out.trans ((only_drewN HO4.out _).trans ho5))
          clear hs5 ho5
          go_wp2_with fail
          go_end0
          rw [HPL.out, HE4.out]
          exact ⟨⟨_, rfl⟩, HS5.out, HO5.out⟩
        · refine (HEN.out 0 _).mono ?_
          rintro e w5 ⟨⟨v, rfl⟩, hs5, ho5⟩
          have HS5 := hid hs5
          have HO5 := hid (HWO.out.trans ((only_drewN HO4.out _).trans ho5))
          clear hs5 ho5
          go_wp2_with fail
          go_end0
          rw [HPL.out, HE4.out]
          exact ⟨⟨_, rfl⟩, HS5.out, HO5.out⟩
        · refine (HEN.out 0 _).mono ?_
          rintro e w5 ⟨⟨v, rfl⟩, hs5, ho5⟩
          have HS5 := hid hs5
          have HO5 := hid (HWO.out.trans ((only_drewN HO4.out _).trans ho5))
          clear hs5 ho5
          go_wp2_with fail
          go_end0
          rw [HPL.out, HE4.out]
          exact ⟨⟨_, rfl⟩, HS5.out, HO5.out⟩
end Go.Proofs.YtolnhicngepnnaaGreat
