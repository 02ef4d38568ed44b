/- The other game's functions on one line walked: begun, fits. -/
import Derived.Test.YtdbfnonpndlejaaDoorS6
namespace Go.Proofs.YtdbfnonpndlejaaDoor
open Go.RowKit Go.Shelf

theorem refBegun_any (first : Int) (w : World) : Calls Tryd.prog 43 #[.int .i64 first] w fun e w' => e = .returned (begun first).val ∧ Below w.heap.size w w' := by
  go_enter Tryd.func43, Tryd.ntmps43
  go_wp2_with fail
  exact bodyPost_ret (v := (begun first).val) (by simp [results, Tryd.results43, go_sem, StD.val, StD.arr, begun]) rfl ⟨rfl, (Below.refl _ _).alloc (Nat.le_refl _) _⟩
/-- Three boxes. -/
theorem box3 (w : World) (A B C : Obj) : ∃ W, (((w.alloc A).alloc B).alloc C) = W ∧ W.heap[w.heap.size]? = some A ∧ W.heap[w.heap.size + 1]? = some B ∧ W.heap[w.heap.size + 1 + 1]? = some C ∧ W.heap.size = w.heap.size + 3 ∧ Below w.heap.size w W := by
  refine ⟨_, rfl, (heap_alloc_old _ _ _ (by simp; omega)).trans (heap_alloc2_old w A B), (heap_alloc_old _ _ _ (by simp)).trans (heap_alloc2_new w A B), ?_, by simp, (((Below.refl _ _).alloc (Nat.le_refl _) _).alloc (by simp) _).alloc (by simp; omega) _⟩
  have h := heap_alloc_new ((w.alloc A).alloc B) C
  rw [World.size_alloc, World.size_alloc] at h
  exact h
theorem cells5 {w : World} {B : Nat} {t : TypeId} {a0 a1 a2 a3 a4 : Value} (h : w.heap[B]? = some (.cells #[a0, a1, a2, a3, a4] t (0, 0))) :
    w.cell? ⟨B, 0, none⟩ = some a0 ∧ w.cell? ⟨B, 1, none⟩ = some a1 ∧ w.cell? ⟨B, 2, none⟩ = some a2 ∧ w.cell? ⟨B, 3, none⟩ = some a3 ∧ w.cell? ⟨B, 4, none⟩ = some a4 :=
  ⟨cellB h 0, cellB h 1, cellB h 2, cellB h 3, cellB h 4⟩
set_option maxRecDepth 100000 in
set_option maxHeartbeats 2000000 in
theorem refFits_any (m : MatchD) (s : StD) (x : LineD) (w : World) (hh : s.over = false → s.ham = 0 ∨ s.ham = 1) :
    Calls Tryd.prog 44 #[m.val, s.val, x.val] w fun e w' => e = .returned (.bool (fits m s x)) ∧ Below w.heap.size w w' := by
  obtain ⟨mends, mmost, mearly, mchange, mpower⟩ := m
  obtain ⟨p0, p1, ends, ham, win, over, extra, w0, w1⟩ := s
  obtain ⟨team, pts, pow⟩ := x
  simp only at hh
  obtain ⟨b1, h1⟩ : ∃ b, (team == -1) = b := ⟨_, rfl⟩
  obtain ⟨b2, h2⟩ : ∃ b, (pts == 0) = b := ⟨_, rfl⟩
  obtain ⟨b3, h3⟩ : ∃ b, inB team 0 1 = b := ⟨_, rfl⟩
  obtain ⟨b4, h4⟩ : ∃ b, inB pts 1 mmost = b := ⟨_, rfl⟩
  obtain ⟨b5, h5⟩ : ∃ b, decide (ends < mends) = b := ⟨_, rfl⟩
  have H := hid (show fits ⟨mends, mmost, mearly, mchange, mpower⟩ ⟨p0, p1, ends, ham, win, over, extra, w0, w1⟩ ⟨team, pts, pow⟩ = (!over && ((b1 && b2) || (b3 && b4)) && (!pow || (mpower && b5 && !(if ham = 0 then w0 else w1)))) by
    unfold fits lineOk powOk StD.powAt; simp only; rw [h1, h2, h3, h4, h5])
  have H13 : b1 = true → b3 = false := by
    intro e
    rw [← h1] at e
    simp at e
    rw [← h3, e]; rfl
  unfold MatchD.val MatchD.arr StD.val StD.arr LineD.val
  simp only
  go_enter Tryd.func44, Tryd.ntmps44
  go_upto_region 1 with fail
  obtain ⟨W0, e0, hA, hB, hC, -, hb⟩ := box3 w (.cells #[.int .i64 mends, .int .i64 mmost, .int .i64 mearly, .bool mchange, .bool mpower] 23) (.cells #[.int .i64 p0, .int .i64 p1, .int .i64 ends, .int .i64 ham, .int .i64 win, .bool over, .bool extra, .bool w0, .bool w1] 29) (.cells #[.int .i64 team, .int .i64 pts, .bool pow] 42)
  rw [e0]
  obtain ⟨m0, m1, m2, m3, m4⟩ := cells5 hA
  obtain ⟨s0, s1, s2, s3, s4, s5, s6, s7, s8, -⟩ := cells9 hB
  have x0 : W0.cell? ⟨w.heap.size + 1 + 1, 0, none⟩ = some (.int .i64 team) := cellB hC 0
  have x1 : W0.cell? ⟨w.heap.size + 1 + 1, 1, none⟩ = some (.int .i64 pts) := cellB hC 1
  have x2 : W0.cell? ⟨w.heap.size + 1 + 1, 2, none⟩ = some (.bool pow) := cellB hC 2
  have HB := hid hb
  clear e0 hA hB hC hb
  have SB : (b1 = true ∧ b3 = false ∧ (b2 = true ∨ b2 = false)) ∨ (b1 = false ∧ (b3 = false ∨ (b3 = true ∧ (b4 = true ∨ b4 = false)))) := by
    revert H13
    cases b1 <;> cases b2 <;> cases b3 <;> cases b4 <;> simp
  have SO : over = true ∨ (over = false ∧ (ham = 0 ∨ ham = 1) ∧ (pow = false ∨ (pow = true ∧ (mpower = false ∨ (mpower = true ∧ (b5 = false ∨ b5 = true)))))) := by
    clear H
    cases over
    · have := hh rfl
      cases pow <;> cases mpower <;> cases b5 <;> simp [this]
    · simp
  clear hh H13
  rcases SB with ⟨rfl, rfl, (rfl | rfl)⟩ | ⟨rfl, (rfl | ⟨rfl, (rfl | rfl)⟩)⟩
  all_goals
    rcases SO with rfl | ⟨rfl, (rfl | rfl), (rfl | ⟨rfl, (rfl | ⟨rfl, (rfl | rfl)⟩)⟩)⟩
    all_goals
      go_wp2_with (go_at_call 42; refine (in_any _ _ _ _).mono ?_; rintro e w' ⟨rfl, rfl⟩; first | rw [h3] | rw [h4])
      all_goals
        go_ret
        exact ⟨ret_bool (by rw [H.out]; simp), HB.out⟩
end Go.Proofs.YtdbfnonpndlejaaDoor
