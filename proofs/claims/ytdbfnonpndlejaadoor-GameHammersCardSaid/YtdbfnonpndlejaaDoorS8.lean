/- The other game's step behind one line walked. -/
import Derived.Test.YtdbfnonpndlejaaDoorS7
namespace Go.Proofs.YtdbfnonpndlejaaDoor
open Go.RowKit Go.Shelf

/-- A standing in a block. -/
def WObj (w : World) (S : Nat) (s : StD) : Prop := w.heap[S]? = some (.cells s.arr 29 (0, 0))
theorem WObj.of {w : World} {S : Nat} {s : StD} {cs : Array Value} (h : w.heap[S]? = some (.cells cs 29 (0, 0))) (e : cs = s.arr) : WObj w S s := by unfold WObj; rw [h, e]
def GW (S : Nat) (s : StD) (w wx : World) : Prop := WObj wx S s ∧ Only S w wx
theorem box4 (w : World) (A B C D : Obj) : ∃ W, ((((w.alloc A).alloc B).alloc C).alloc D) = W ∧ W.heap[w.heap.size]? = some A ∧ W.heap[w.heap.size + 1]? = some B ∧ W.heap[w.heap.size + 1 + 1]? = some C ∧ W.heap[w.heap.size + 1 + 1 + 1]? = some D ∧ W.heap.size = w.heap.size + 4 ∧ Below w.heap.size w W := by
  obtain ⟨V, e, h1, h2, h3, h4, h5⟩ := box3 w A B C
  rw [e]
  have hb := (Below.refl V.heap.size V).alloc (Nat.le_refl _) D
  refine ⟨_, rfl, (hb.block _ (by omega)).trans h1, (hb.block _ (by omega)).trans h2, (hb.block _ (by omega)).trans h3, ?_, by simp [h4], h5.trans (hb.mono h5.size)⟩
  have := heap_alloc_new V D
  rw [h4] at this
  exact this
/-- The boxes beside the standing. -/
def Bes (W : World) (b : Nat) (m : MatchD) (x : LineD) : Prop :=
  W.heap[b]? = some (.cells m.arr 23 (0, 0)) ∧ W.heap[b + 1 + 1]? = some (.cells #[.int .i64 x.team, .int .i64 x.pts, .bool x.pow] 42 (0, 0)) ∧ W.heap[b + 1 + 1 + 1]? = some (.cells zeroS.arr 29 (0, 0))
theorem Bes.only {W W' : World} {b : Nat} {m : MatchD} {x : LineD} (h : Bes W b m x) (ho : Only (b + 1) W W') : Bes W' b m x := by
  obtain ⟨h1, h2, h3⟩ := h
  exact ⟨(ho.bel.block _ (by omega)).trans h1, (ho.rest _ (by omega) (Array.getElem?_eq_some_iff.1 h2).1).trans h2, (ho.rest _ (by omega) (Array.getElem?_eq_some_iff.1 h3).1).trans h3⟩
theorem res45 {w : World} {D : Nat} {s : StD} (h : WObj w D s) {tmps : Array Value} (h6 : tmps.getD 6 undef = .pointer (some ⟨D, 0, none⟩)) : (results Tryd.f45 tmps).run Tryd.prog w = .ok s.val w := by
  obtain ⟨e0, e1, e2, e3, e4, e5, e6, e7, e8, -⟩ := cells9 h
  have h6' : tmps[6]?.getD undef = .pointer (some ⟨D, 0, none⟩) := by simpa using h6
  simp [results, Tryd.results45, h6', asAddr, go_sem, e0, e1, e2, e3, e4, e5, e6, e7, e8, StD.val, StD.arr]
set_option maxRecDepth 100000 in
set_option maxHeartbeats 2000000 in
theorem refBehind_any (m : MatchD) (s : StD) (x : LineD) (w : World) (hh : s.ham = 0 ∨ s.ham = 1) (ht : x.team = -1 ∨ x.team = 0 ∨ x.team = 1) (hp : 0 ≤ x.pts ∧ x.pts ≤ 8)
    (he : 0 ≤ s.ends ∧ s.ends ≤ 1000) (h0 : 0 ≤ s.p0 ∧ s.p0 ≤ 100000) (h1 : 0 ≤ s.p1 ∧ s.p1 ≤ 100000) :
    Calls Tryd.prog 45 #[m.val, s.val, x.val] w fun e w' => e = .returned (behind m s x).val ∧ Below w.heap.size w w' := by
  obtain ⟨team, pts, pow⟩ := x
  simp only at ht hp ⊢
  have HPL := hid (show behind m s ⟨team, pts, pow⟩ = ended (extS m (ptsS m (endsS (powS s ⟨team, pts, pow⟩)) ⟨team, pts, pow⟩)) from rfl)
  unfold LineD.val
  rw [show m.val = .agg #[.int .i64 m.ends, .int .i64 m.most, .int .i64 m.early, .bool m.change, .bool m.power] from rfl, show s.val = .agg #[.int .i64 s.p0, .int .i64 s.p1, .int .i64 s.ends, .int .i64 s.ham, .int .i64 s.win, .bool s.over, .bool s.extra, .bool s.w0, .bool s.w1] from rfl]
  go_enter Tryd.func45, Tryd.ntmps45
  go_upto_region 1 with fail
  obtain ⟨W0, e0, hA, hB, hC, hD, hz, hb⟩ := box4 w (.cells #[.int .i64 m.ends, .int .i64 m.most, .int .i64 m.early, .bool m.change, .bool m.power] 23) (.cells #[.int .i64 s.p0, .int .i64 s.p1, .int .i64 s.ends, .int .i64 s.ham, .int .i64 s.win, .bool s.over, .bool s.extra, .bool s.w0, .bool s.w1] 29) (.cells #[.int .i64 team, .int .i64 pts, .bool pow] 42) (.cells #[.int .i64 0, .int .i64 0, .int .i64 0, .int .i64 0, .int .i64 0, .bool false, .bool false, .bool false, .bool false] 29)
  rw [e0]
  have HBES := hid (show Bes W0 w.heap.size m ⟨team, pts, pow⟩ from ⟨hA, hC, hD⟩)
  have HS0 := hid (show WObj W0 (w.heap.size + 1) s from hB)
  have HB := hid hb
  have HO0 := hid (Only.refl (w.heap.size + 1) W0)
  clear e0 hA hB hC hD hz hb
  obtain ⟨-, hx, -⟩ := HBES.out
  have x0 : W0.cell? ⟨w.heap.size + 1 + 1, 0, none⟩ = some (.int .i64 team) := cellB hx 0
  have x1 : W0.cell? ⟨w.heap.size + 1 + 1, 1, none⟩ = some (.int .i64 pts) := cellB hx 1
  have x2 : W0.cell? ⟨w.heap.size + 1 + 1, 2, none⟩ = some (.bool pow) := cellB hx 2
  obtain ⟨c0, c1, c2, c3, c4, c5, c6, c7, c8, cf⟩ := cells9 HS0.out
  clear hx
  go_upto_if 8 with fail
  go_cut [] (fun wx => GW (w.heap.size + 1) (powS s ⟨team, pts, pow⟩) W0 wx)
  case first =>
    have HW1 := hid (show powS s ⟨team, pts, pow⟩ = { s with w0 := s.w0 || (pow && s.ham == 0), w1 := s.w1 || (pow && s.ham == 1) } from rfl)
    cases pow with
    | false =>
      have HE := hid (show powS s ⟨team, pts, false⟩ = s by rw [HW1.out]; simp)
      go_wp2_with fail
      go_meet
      rw [HE.out]
      exact ⟨HS0.out, HO0.out⟩
    | true =>
      rcases hh with hh | hh
      · have HH := hid hh
        rw [hh] at c3
        clear hh
        go_wp2_with fail
        go_meet
        exact ⟨WObj.of (heap_setCell_same _ _ 7 _ 29 (.bool true) HS0.out) (by rw [HW1.out]; simp [StD.arr, HH.out]), (HO0.out).setCell 7 (.bool true)⟩
      · have HH := hid hh
        rw [hh] at c3
        clear hh
        go_wp2_with fail
        go_meet
        exact ⟨WObj.of (heap_setCell_same _ _ 8 _ 29 (.bool true) HS0.out) (by rw [HW1.out]; simp [StD.arr, HH.out]), (HO0.out).setCell 8 (.bool true)⟩
  case rest =>
    obtain ⟨w1, rfl⟩ : ∃ w1, w1 = wc := ⟨_, rfl⟩
    obtain ⟨hs1, ho1⟩ := hcut
    have HE1 := hid (show (powS s ⟨team, pts, pow⟩).ends = s.ends ∧ (powS s ⟨team, pts, pow⟩).p0 = s.p0 ∧ (powS s ⟨team, pts, pow⟩).p1 = s.p1 ∧ (powS s ⟨team, pts, pow⟩).ham = s.ham from ⟨rfl, rfl, rfl, rfl⟩)
    generalize powS s ⟨team, pts, pow⟩ = s1 at *
    obtain ⟨g1, g2, g3, g4⟩ := HE1.out
    rw [← g1] at he
    rw [← g2] at h0
    rw [← g3] at h1
    rw [← g4] at hh
    have HS1 := hid hs1
    have HO1 := hid ho1
    clear c0 c1 c2 c3 c4 c5 c6 c7 c8 cf
    clear hs1 ho1 g1 g2 g3 g4 HE1 HS0 x0 x1 x2
    obtain ⟨e1, e2⟩ := he
    obtain ⟨u1, u2⟩ := h0
    obtain ⟨v1, v2⟩ := h1
    obtain ⟨y1, y2⟩ := hp
    obtain ⟨hm, hx, -⟩ := HBES.out.only HO1.out
    have x0 : w1.cell? ⟨w.heap.size + 1 + 1, 0, none⟩ = some (.int .i64 team) := cellB hx 0
    have x1 : w1.cell? ⟨w.heap.size + 1 + 1, 1, none⟩ = some (.int .i64 pts) := cellB hx 1
    have x2 : w1.cell? ⟨w.heap.size + 1 + 1, 2, none⟩ = some (.bool pow) := cellB hx 2
    have m0 : w1.cell? ⟨w.heap.size, 0, none⟩ = some (.int .i64 m.ends) := cellB hm 0
    have m3 : w1.cell? ⟨w.heap.size, 3, none⟩ = some (.bool m.change) := cellB hm 3
    clear hm hx
    obtain ⟨c0, c1, c2, c3, c4, c5, c6, c7, c8, cf⟩ := cells9 HS1.out
    have HEE := hid (show (endsS s1).p0 = s1.p0 ∧ (endsS s1).p1 = s1.p1 ∧ (endsS s1).ham = s1.ham ∧ (endsS s1).ends = s1.ends + 1 from ⟨rfl, rfl, rfl, rfl⟩)
    have HEA := hid (show (((s1.arr).setIfInBounds 2 (.int .i64 (s1.ends + 1)))) = (endsS s1).arr by simp [StD.arr, endsS])
    go_upto_region 4 with fail
    have HS2 := hid (WObj.of (heap_setCell_same _ (w.heap.size + 1) 2 _ 29 (.int .i64 (s1.ends + 1)) HS1.out) HEA.out)
    have HO2 := hid (HO1.out.setCell 2 (.int .i64 (s1.ends + 1)))
    generalize w1.setCell ⟨w.heap.size + 1, 2, none⟩ (.int .i64 (s1.ends + 1)) = w2 at *
    generalize endsS s1 = s2 at *
    obtain ⟨g2, g3, g4, g5⟩ := HEE.out
    rw [← g2] at u1 u2
    rw [← g3] at v1 v2
    rw [← g4] at hh
    have z0 : 0 ≤ s2.ends := by omega
    have z9 : s2.ends ≤ 1001 := by omega
    clear c0 c1 c2 c3 c4 c5 c6 c7 c8 cf
    clear HS1 HO1 x0 x1 x2 m0 m3 e1 e2 g2 g3 g4 g5 HEE HEA
    obtain ⟨hm, hx, -⟩ := HBES.out.only HO2.out
    have x0 : w2.cell? ⟨w.heap.size + 1 + 1, 0, none⟩ = some (.int .i64 team) := cellB hx 0
    have x1 : w2.cell? ⟨w.heap.size + 1 + 1, 1, none⟩ = some (.int .i64 pts) := cellB hx 1
    have x2 : w2.cell? ⟨w.heap.size + 1 + 1, 2, none⟩ = some (.bool pow) := cellB hx 2
    have m0 : w2.cell? ⟨w.heap.size, 0, none⟩ = some (.int .i64 m.ends) := cellB hm 0
    have m3 : w2.cell? ⟨w.heap.size, 3, none⟩ = some (.bool m.change) := cellB hm 3
    clear hm hx
    obtain ⟨c0, c1, c2, c3, c4, c5, c6, c7, c8, cf⟩ := cells9 HS2.out
    have HH := hid hh
    have z1 : 0 ≤ s2.ham := by rcases hh with h | h <;> omega
    have z2 : s2.ham ≤ 1 := by rcases hh with h | h <;> omega
    clear hh
    go_upto_if 19 with fail
    go_cut [] (fun wx => GW (w.heap.size + 1) (ptsS m s2 ⟨team, pts, pow⟩) W0 wx)
    case first =>
      rcases ht with rfl | rfl | rfl
      · rcases Bool.eq_false_or_eq_true m.change with hc | hc
        · rw [hc] at m3
          have HC := hid hc
          clear hc
          go_wp2_with fail
          go_meet
          exact ⟨WObj.of (heap_setCell_same _ _ 3 _ 29 _ HS2.out) (by simp [StD.arr, ptsS, HC.out]), HO2.out.setCell 3 _⟩
        · rw [hc] at m3
          have HC := hid hc
          clear hc
          go_wp2_with fail
          go_meet
          exact ⟨WObj.of HS2.out (by simp [StD.arr, ptsS, HC.out]), HO2.out⟩
      · have hw : IntKind.i64.wrap (s2.p0 + pts) = s2.p0 + pts := IntWalk.i64_in _ (by omega)
        go_wp2_with fail
        go_region
        all_goals
          clear hw
          go_wp2_with fail
          go_meet
          exact ⟨WObj.of (heap_setCell_same _ _ 3 _ 29 _ (heap_setCell_same _ _ 0 _ 29 (.int .i64 (s2.p0 + pts)) HS2.out)) (by simp [StD.arr, ptsS]), ((only_drew (HO2.out.setCell 0 (.int .i64 (s2.p0 + pts)))).setCell 3 _)⟩
      · have hw : IntKind.i64.wrap (s2.p1 + pts) = s2.p1 + pts := IntWalk.i64_in _ (by omega)
        go_wp2_with fail
        go_region
        all_goals
          clear hw
          go_wp2_with fail
          go_meet
          exact ⟨WObj.of (heap_setCell_same _ _ 3 _ 29 _ (heap_setCell_same _ _ 1 _ 29 (.int .i64 (s2.p1 + pts)) HS2.out)) (by simp [StD.arr, ptsS]), ((only_drew (HO2.out.setCell 1 (.int .i64 (s2.p1 + pts)))).setCell 3 _)⟩
    case rest =>
      obtain ⟨w3, rfl⟩ : ∃ w3, w3 = wc := ⟨_, rfl⟩
      obtain ⟨hs3, ho3⟩ := hcut
      have HS3 := hid hs3
      have HO3 := hid ho3
      have hen3 : (ptsS m s2 ⟨team, pts, pow⟩).ends = s2.ends := rfl
      clear c0 c1 c2 c3 c4 c5 c6 c7 c8 cf
      clear hs3 ho3 u1 u2 v1 v2 z1 z2 y1 y2 x0 x1 x2 m0 m3
      generalize ptsS m s2 ⟨team, pts, pow⟩ = s3 at *
      rw [← hen3] at z0 z9
      clear hen3
      obtain ⟨hm, hx, -⟩ := HBES.out.only HO3.out
      have x0 : w3.cell? ⟨w.heap.size + 1 + 1, 0, none⟩ = some (.int .i64 team) := cellB hx 0
      have x1 : w3.cell? ⟨w.heap.size + 1 + 1, 1, none⟩ = some (.int .i64 pts) := cellB hx 1
      have x2 : w3.cell? ⟨w.heap.size + 1 + 1, 2, none⟩ = some (.bool pow) := cellB hx 2
      have m0 : w3.cell? ⟨w.heap.size, 0, none⟩ = some (.int .i64 m.ends) := cellB hm 0
      have m3 : w3.cell? ⟨w.heap.size, 3, none⟩ = some (.bool m.change) := cellB hm 3
      clear hm hx
      obtain ⟨c0, c1, c2, c3, c4, c5, c6, c7, c8, cf⟩ := cells9 HS3.out
      go_upto_region 10 with fail
      have HEA := hid (show (((s3.arr).setIfInBounds 6 (.bool (decide (m.ends ≤ s3.ends))))) = (extS m s3).arr by simp [StD.arr, extS])
      have HS4 := hid (WObj.of (heap_setCell_same _ (w.heap.size + 1) 6 _ 29 (.bool (decide (m.ends ≤ s3.ends))) HS3.out) HEA.out)
      have HO4 := hid (HO3.out.setCell 6 (.bool (decide (m.ends ≤ s3.ends))))
      generalize w3.setCell ⟨w.heap.size + 1, 6, none⟩ (.bool (decide (m.ends ≤ s3.ends))) = w4 at *
      clear c0 c1 c2 c3 c4 c5 c6 c7 c8 cf x0 x1 x2 m0 m3 HS3 HO3 HEA z0 z9
      generalize extS m s3 = s4 at *
      obtain ⟨c0, c1, c2, c3, c4, c5, c6, c7, c8, cf⟩ := cells9 HS4.out
      have HE4 := hid (ended.eq_1 s4)
      rcases Bool.eq_false_or_eq_true s4.extra with hex | hex
      · have HEX := hid hex
        rw [hex] at HE4 c6
        clear hex
        rcases Int.lt_trichotomy s4.p0 s4.p1 with hlt | heq | hgt
        · have k1 : (s4.p0 != s4.p1) = true := by simp; omega
          have k2 : decide (s4.p0 < s4.p1) = true := by simp [hlt]
          rw [if_neg (by simp; omega), if_pos (by simp; omega)] at HE4
          clear hlt
          go_upto_region 17 with fail
          have HS5 := hid (show WObj (((((w4.setCell ⟨w.heap.size + 1, 5, none⟩ (.bool true)).setCell ⟨w.heap.size + 1, 6, none⟩ (.bool false)).setCell ⟨w.heap.size + 1, 3, none⟩ (.int .i64 (-1))).setCell ⟨w.heap.size + 1, 4, none⟩ (.int .i64 0)).setCell ⟨w.heap.size + 1, 4, none⟩ (.int .i64 1)) (w.heap.size + 1) (s4.end 1) from WObj.of (heap_setCell_same _ _ 4 _ 29 _ (heap_setCell_same _ _ 4 _ 29 _ (heap_setCell_same _ _ 3 _ 29 _ (heap_setCell_same _ _ 6 _ 29 _ (heap_setCell_same _ _ 5 _ 29 _ HS4.out))))) (by simp [StD.arr, StD.end]))
          have HO5 := hid (show Only (w.heap.size + 1) W0 (((((w4.setCell ⟨w.heap.size + 1, 5, none⟩ (.bool true)).setCell ⟨w.heap.size + 1, 6, none⟩ (.bool false)).setCell ⟨w.heap.size + 1, 3, none⟩ (.int .i64 (-1))).setCell ⟨w.heap.size + 1, 4, none⟩ (.int .i64 0)).setCell ⟨w.heap.size + 1, 4, none⟩ (.int .i64 1)) from (((((HO4.out.setCell 5 (.bool true)).setCell 6 (.bool false)).setCell 3 (.int .i64 (-1))).setCell 4 (.int .i64 0)).setCell 4 (.int .i64 1)))
          generalize (((((w4.setCell ⟨w.heap.size + 1, 5, none⟩ (.bool true)).setCell ⟨w.heap.size + 1, 6, none⟩ (.bool false)).setCell ⟨w.heap.size + 1, 3, none⟩ (.int .i64 (-1))).setCell ⟨w.heap.size + 1, 4, none⟩ (.int .i64 0)).setCell ⟨w.heap.size + 1, 4, none⟩ (.int .i64 1)) = w5 at *
          generalize s4.end 1 = s5 at *
          clear c0 c1 c2 c3 c4 c5 c6 c7 c8 cf
          obtain ⟨c0, c1, c2, c3, c4, c5, c6, c7, c8, cf⟩ := cells9 HS5.out
          obtain ⟨-, -, hd⟩ := HBES.out.only HO5.out
          obtain ⟨d0, d1, d2, d3, d4, d5, d6, d7, d8, df⟩ := cells9 hd
          have HD := hid hd
          clear hd
          go_wp2_with fail
          have hput := put9_same (.int .i64 s5.p0) (.int .i64 s5.p1) (.int .i64 s5.ends) (.int .i64 s5.ham) (.int .i64 s5.win) (.bool s5.over) (.bool s5.extra) (.bool s5.w0) (.bool s5.w1) HD.out
          exact bodyPost_ret (res45 (s := s5) hput rfl) rfl ⟨by rw [HPL.out, HE4.out], put9_below (.int .i64 s5.p0) (.int .i64 s5.p1) (.int .i64 s5.ends) (.int .i64 s5.ham) (.int .i64 s5.win) (.bool s5.over) (.bool s5.extra) (.bool s5.w0) (.bool s5.w1) (HB.out.trans (HO5.out.bel.mono (by omega))) (by omega)⟩
        · have k1 : (s4.p0 != s4.p1) = false := by simp [heq]
          rw [if_neg (by simp; omega), if_neg (by simp; omega)] at HE4
          clear heq
          go_upto_region 17 with fail
          have HS5 := HS4
          have HO5 := HO4
          clear c0 c1 c2 c3 c4 c5 c6 c7 c8 cf
          generalize s4 = s5 at *
          obtain ⟨c0, c1, c2, c3, c4, c5, c6, c7, c8, cf⟩ := cells9 HS5.out
          obtain ⟨-, -, hd⟩ := HBES.out.only HO5.out
          obtain ⟨d0, d1, d2, d3, d4, d5, d6, d7, d8, df⟩ := cells9 hd
          have HD := hid hd
          clear hd
          go_wp2_with fail
          have hput := put9_same (.int .i64 s5.p0) (.int .i64 s5.p1) (.int .i64 s5.ends) (.int .i64 s5.ham) (.int .i64 s5.win) (.bool s5.over) (.bool s5.extra) (.bool s5.w0) (.bool s5.w1) HD.out
          exact bodyPost_ret (res45 (s := s5) hput rfl) rfl ⟨by rw [HPL.out, HE4.out], put9_below (.int .i64 s5.p0) (.int .i64 s5.p1) (.int .i64 s5.ends) (.int .i64 s5.ham) (.int .i64 s5.win) (.bool s5.over) (.bool s5.extra) (.bool s5.w0) (.bool s5.w1) (HB.out.trans (HO5.out.bel.mono (by omega))) (by omega)⟩
        · have k1 : (s4.p0 != s4.p1) = true := by simp; omega
          have k2 : decide (s4.p0 < s4.p1) = false := by simp; omega
          rw [if_pos (by simp; omega)] at HE4
          clear hgt
          go_upto_region 17 with fail
          have HS5 := hid (show WObj ((((w4.setCell ⟨w.heap.size + 1, 5, none⟩ (.bool true)).setCell ⟨w.heap.size + 1, 6, none⟩ (.bool false)).setCell ⟨w.heap.size + 1, 3, none⟩ (.int .i64 (-1))).setCell ⟨w.heap.size + 1, 4, none⟩ (.int .i64 0)) (w.heap.size + 1) (s4.end 0) from WObj.of (heap_setCell_same _ _ 4 _ 29 _ (heap_setCell_same _ _ 3 _ 29 _ (heap_setCell_same _ _ 6 _ 29 _ (heap_setCell_same _ _ 5 _ 29 _ HS4.out)))) (by simp [StD.arr, StD.end]))
          have HO5 := hid (show Only (w.heap.size + 1) W0 ((((w4.setCell ⟨w.heap.size + 1, 5, none⟩ (.bool true)).setCell ⟨w.heap.size + 1, 6, none⟩ (.bool false)).setCell ⟨w.heap.size + 1, 3, none⟩ (.int .i64 (-1))).setCell ⟨w.heap.size + 1, 4, none⟩ (.int .i64 0)) from ((((HO4.out.setCell 5 (.bool true)).setCell 6 (.bool false)).setCell 3 (.int .i64 (-1))).setCell 4 (.int .i64 0)))
          generalize ((((w4.setCell ⟨w.heap.size + 1, 5, none⟩ (.bool true)).setCell ⟨w.heap.size + 1, 6, none⟩ (.bool false)).setCell ⟨w.heap.size + 1, 3, none⟩ (.int .i64 (-1))).setCell ⟨w.heap.size + 1, 4, none⟩ (.int .i64 0)) = w5 at *
          generalize s4.end 0 = s5 at *
          clear c0 c1 c2 c3 c4 c5 c6 c7 c8 cf
          obtain ⟨c0, c1, c2, c3, c4, c5, c6, c7, c8, cf⟩ := cells9 HS5.out
          obtain ⟨-, -, hd⟩ := HBES.out.only HO5.out
          obtain ⟨d0, d1, d2, d3, d4, d5, d6, d7, d8, df⟩ := cells9 hd
          have HD := hid hd
          clear hd
          go_wp2_with fail
          have hput := put9_same (.int .i64 s5.p0) (.int .i64 s5.p1) (.int .i64 s5.ends) (.int .i64 s5.ham) (.int .i64 s5.win) (.bool s5.over) (.bool s5.extra) (.bool s5.w0) (.bool s5.w1) HD.out
          exact bodyPost_ret (res45 (s := s5) hput rfl) rfl ⟨by rw [HPL.out, HE4.out], put9_below (.int .i64 s5.p0) (.int .i64 s5.p1) (.int .i64 s5.ends) (.int .i64 s5.ham) (.int .i64 s5.win) (.bool s5.over) (.bool s5.extra) (.bool s5.w0) (.bool s5.w1) (HB.out.trans (HO5.out.bel.mono (by omega))) (by omega)⟩
      · rw [hex] at HE4 c6
        rw [if_neg (by simp), if_neg (by simp)] at HE4
        clear hex
        go_upto_region 17 with fail
        have HS5 := HS4
        have HO5 := HO4
        clear c0 c1 c2 c3 c4 c5 c6 c7 c8 cf
        generalize s4 = s5 at *
        obtain ⟨c0, c1, c2, c3, c4, c5, c6, c7, c8, cf⟩ := cells9 HS5.out
        obtain ⟨-, -, hd⟩ := HBES.out.only HO5.out
        obtain ⟨d0, d1, d2, d3, d4, d5, d6, d7, d8, df⟩ := cells9 hd
        have HD := hid hd
        clear hd
        go_wp2_with fail
        have hput := put9_same (.int .i64 s5.p0) (.int .i64 s5.p1) (.int .i64 s5.ends) (.int .i64 s5.ham) (.int .i64 s5.win) (.bool s5.over) (.bool s5.extra) (.bool s5.w0) (.bool s5.w1) HD.out
        exact bodyPost_ret (res45 (s := s5) hput rfl) rfl ⟨by rw [HPL.out, HE4.out], put9_below (.int .i64 s5.p0) (.int .i64 s5.p1) (.int .i64 s5.ends) (.int .i64 s5.ham) (.int .i64 s5.win) (.bool s5.over) (.bool s5.extra) (.bool s5.w0) (.bool s5.w1) (HB.out.trans (HO5.out.bel.mono (by omega))) (by omega)⟩
end Go.Proofs.YtdbfnonpndlejaaDoor
