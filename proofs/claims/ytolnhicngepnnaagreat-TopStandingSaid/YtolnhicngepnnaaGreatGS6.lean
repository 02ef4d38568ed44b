/- game.Replay walked. -/
import Derived.Test.YtolnhicngepnnaaGreatGS5
import Derived.Laws.ResultCell
namespace Go.Proofs.YtolnhicngepnnaaGreat
open Go.RowKit Go.Shelf
attribute [local go_sem] Oper.semAt_some

def lastS (m : MatchD) (first : Int) (card : List LineD) (pre : List Nat) : StD := match pre.getLast? with
  | none => zeroS
  | some k => stAt m first card k
def lastK (pre : List Nat) : Int := match pre.getLast? with
  | none => 0
  | some k => k
theorem lastS_snoc (m : MatchD) (first : Int) (card : List LineD) (pre : List Nat) (k : Nat) : lastS m first card (pre ++ [k]) = stAt m first card k := by simp [lastS]
theorem lastK_snoc (pre : List Nat) (k : Nat) : lastK (pre ++ [k]) = k := by simp [lastK]
/-- The boxes of Replay. -/
def RepB (w0 w : World) (m : MatchD) (s : StD) (k : Int) : Prop :=
  w.heap[w0.heap.size]? = some (.cells m.arr 44 (0, 0)) ∧ w.heap[w0.heap.size + 1]? = some (.cells s.arr 58 (0, 0)) ∧ w.heap[w0.heap.size + 1 + 1]? = some (.cells #[.int .i64 k] 3 (0, 0)) ∧ Below w0.heap.size w0 w
theorem RepB.below {w0 w w' : World} {m : MatchD} {s : StD} {k : Int} (h : RepB w0 w m s k) (hb : Below w.heap.size w w') : RepB w0 w' m s k :=
  ⟨(hb.block _ (Array.getElem?_eq_some_iff.1 h.1).1).trans h.1, (hb.block _ (Array.getElem?_eq_some_iff.1 h.2.1).1).trans h.2.1, (hb.block _ (Array.getElem?_eq_some_iff.1 h.2.2.1).1).trans h.2.2.1, h.2.2.2.trans (hb.mono h.2.2.2.size)⟩
theorem cells9 {w : World} {B : Nat} {t : TypeId} {a0 a1 a2 a3 a4 a5 a6 a7 a8 : Value} (h : w.heap[B]? = some (.cells #[a0, a1, a2, a3, a4, a5, a6, a7, a8] t (0, 0))) :
    w.cell? ⟨B, 0, none⟩ = some a0 ∧ w.cell? ⟨B, 1, none⟩ = some a1 ∧ w.cell? ⟨B, 2, none⟩ = some a2 ∧ w.cell? ⟨B, 3, none⟩ = some a3 ∧ w.cell? ⟨B, 4, none⟩ = some a4 ∧ w.cell? ⟨B, 5, none⟩ = some a5 ∧ w.cell? ⟨B, 6, none⟩ = some a6 ∧ w.cell? ⟨B, 7, none⟩ = some a7 ∧ w.cell? ⟨B, 8, none⟩ = some a8 ∧ ∀ i, w.frozen? ⟨B, i, none⟩ = false := by
  refine ⟨?_, ?_, ?_, ?_, ?_, ?_, ?_, ?_, ?_, ?_⟩
  all_goals simp [World.cell?, World.frozen?, h]
theorem put9_same {w : World} {B : Nat} {t : TypeId} {a0 a1 a2 a3 a4 a5 a6 a7 a8 : Value} (v0 v1 v2 v3 v4 v5 v6 v7 v8 : Value) (h : w.heap[B]? = some (.cells #[a0, a1, a2, a3, a4, a5, a6, a7, a8] t (0, 0))) :
    (((((((((w.setCell ⟨B, 0, none⟩ v0).setCell ⟨B, 1, none⟩ v1).setCell ⟨B, 2, none⟩ v2).setCell ⟨B, 3, none⟩ v3).setCell ⟨B, 4, none⟩ v4).setCell ⟨B, 5, none⟩ v5).setCell ⟨B, 6, none⟩ v6).setCell ⟨B, 7, none⟩ v7).setCell ⟨B, 8, none⟩ v8).heap[B]? = some (.cells #[v0, v1, v2, v3, v4, v5, v6, v7, v8] t (0, 0)) :=
  ((heap_setCell_same _ B 8 _ t v8 (heap_setCell_same _ B 7 _ t v7 (heap_setCell_same _ B 6 _ t v6 (heap_setCell_same _ B 5 _ t v5 (heap_setCell_same _ B 4 _ t v4 (heap_setCell_same _ B 3 _ t v3 (heap_setCell_same _ B 2 _ t v2 (heap_setCell_same _ B 1 _ t v1 (heap_setCell_same _ B 0 _ t v0 h)))))))))).trans (congrArg (fun cs => some (Obj.cells cs t (0, 0))) (by simp))
theorem put9_other {w : World} {B k : Nat} (v0 v1 v2 v3 v4 v5 v6 v7 v8 : Value) (hne : B ≠ k) :
    (((((((((w.setCell ⟨B, 0, none⟩ v0).setCell ⟨B, 1, none⟩ v1).setCell ⟨B, 2, none⟩ v2).setCell ⟨B, 3, none⟩ v3).setCell ⟨B, 4, none⟩ v4).setCell ⟨B, 5, none⟩ v5).setCell ⟨B, 6, none⟩ v6).setCell ⟨B, 7, none⟩ v7).setCell ⟨B, 8, none⟩ v8).heap[k]? = w.heap[k]? := by simp only [heap_setCell_ne _ hne]
theorem put9_below {w w0 : World} {b B : Nat} (v0 v1 v2 v3 v4 v5 v6 v7 v8 : Value) (h : Below b w0 w) (hB : b ≤ B) :
    Below b w0 (((((((((w.setCell ⟨B, 0, none⟩ v0).setCell ⟨B, 1, none⟩ v1).setCell ⟨B, 2, none⟩ v2).setCell ⟨B, 3, none⟩ v3).setCell ⟨B, 4, none⟩ v4).setCell ⟨B, 5, none⟩ v5).setCell ⟨B, 6, none⟩ v6).setCell ⟨B, 7, none⟩ v7).setCell ⟨B, 8, none⟩ v8) := ((((((((h.setCell (p := ⟨B, 0, none⟩) hB v0).setCell (p := ⟨B, 1, none⟩) hB v1).setCell (p := ⟨B, 2, none⟩) hB v2).setCell (p := ⟨B, 3, none⟩) hB v3).setCell (p := ⟨B, 4, none⟩) hB v4).setCell (p := ⟨B, 5, none⟩) hB v5).setCell (p := ⟨B, 6, none⟩) hB v6).setCell (p := ⟨B, 7, none⟩) hB v7).setCell (p := ⟨B, 8, none⟩) hB v8
/-- Both results stored. -/
theorem RepB.put {w0 w : World} {m : MatchD} {s s2 : StD} {k : Int} (h : RepB w0 w m s k) (v0 v1 v2 v3 v4 v5 v6 v7 v8 : Value) (k2 : Int) (hs : s2.arr = #[v0, v1, v2, v3, v4, v5, v6, v7, v8]) :
    RepB w0 ((((((((((w.setCell ⟨w0.heap.size + 1, 0, none⟩ v0).setCell ⟨w0.heap.size + 1, 1, none⟩ v1).setCell ⟨w0.heap.size + 1, 2, none⟩ v2).setCell ⟨w0.heap.size + 1, 3, none⟩ v3).setCell ⟨w0.heap.size + 1, 4, none⟩ v4).setCell ⟨w0.heap.size + 1, 5, none⟩ v5).setCell ⟨w0.heap.size + 1, 6, none⟩ v6).setCell ⟨w0.heap.size + 1, 7, none⟩ v7).setCell ⟨w0.heap.size + 1, 8, none⟩ v8).setCell ⟨w0.heap.size + 1 + 1, 0, none⟩ (.int .i64 k2)) m s2 k2 := by
  obtain ⟨h1, h2, h3, h4⟩ := h
  refine ⟨?_, ?_, ?_, (put9_below _ _ _ _ _ _ _ _ _ h4 (by omega)).setCell (p := ⟨w0.heap.size + 1 + 1, 0, none⟩) (by simp only; omega) _⟩
  · rw [heap_setCell_ne _ (by omega), put9_other _ _ _ _ _ _ _ _ _ (by omega)]; exact h1
  · rw [heap_setCell_ne _ (by omega), hs]
    exact put9_same _ _ _ _ _ _ _ _ _ h2
  · have e := (put9_other (w := w) (B := w0.heap.size + 1) (k := w0.heap.size + 1 + 1) v0 v1 v2 v3 v4 v5 v6 v7 v8 (by omega)).trans h3
    exact heap_setCell_same _ _ 0 _ 3 _ e
theorem res_rep {w0 w : World} {m : MatchD} {s : StD} {k : Int} (h : RepB w0 w m s k) {tmps : Array Value} {x : Value} (h8 : tmps.getD 8 undef = .pointer (some ⟨w0.heap.size + 1, 0, none⟩)) (h9 : tmps.getD 9 undef = .pointer (some ⟨w0.heap.size + 1 + 1, 0, none⟩)) (h10 : tmps.getD 10 undef = x) :
    (results Tryz.f13 tmps).run Tryz.prog w = .ok (.tuple #[s.val, .int .i64 k, x]) w := by
  obtain ⟨e0, e1, e2, e3, e4, e5, e6, e7, e8, -⟩ := cells9 h.2.1
  have h8' : tmps[8]?.getD undef = .pointer (some ⟨w0.heap.size + 1, 0, none⟩) := by simpa using h8
  have h9' : tmps[9]?.getD undef = .pointer (some ⟨w0.heap.size + 1 + 1, 0, none⟩) := by simpa using h9
  have h10' : tmps[10]?.getD undef = x := by simpa using h10
  have c3 : w.cell? ⟨w0.heap.size + 1 + 1, 0, none⟩ = some (.int .i64 k) := cellB h.2.2.1 0
  simp [results, Tryz.results13, h8', h9', h10', asAddr, go_sem, c3, e0, e1, e2, e3, e4, e5, e6, e7, e8, StD.val, StD.arr]
theorem belowRaise {b : Nat} {w w' : World} (h : Below 0 w w') (hs : ∀ k, k < b → w'.heap[k]? = w.heap[k]?) : Below b w w' := ⟨h.os, h.tape, h.output, h.size, hs⟩
theorem RepB.kept {w0 w w' : World} {m : MatchD} {s : StD} {k : Int} (h : RepB w0 w m s k) (hb : Below 0 w w') (hs : ∀ j, j < w0.heap.size + 3 → w'.heap[j]? = w.heap[j]?) : RepB w0 w' m s k :=
  ⟨(hs _ (by omega)).trans h.1, (hs _ (by omega)).trans h.2.1, (hs _ (by omega)).trans h.2.2.1, h.2.2.2.trans (belowRaise hb (fun j hj => hs j (by omega)))⟩
theorem RepB.lt {w0 w : World} {m : MatchD} {s : StD} {k : Int} (h : RepB w0 w m s k) : w0.heap.size + 3 ≤ w.heap.size := by
  have := (Array.getElem?_eq_some_iff.1 h.2.2.1).1
  omega
theorem RepB.grown {w0 w w' : World} {m : MatchD} {s : StD} {k : Int} {row : Option Nat} {B : Nat} (h : RepB w0 w m s k) (hg : w.grownBy w' row) (hB : w0.heap.size + 3 ≤ B) (hr : ∀ r, row = some r → B ≤ r) : RepB w0 w' m s k :=
  h.kept ⟨hg.os, hg.tape, hg.output, hg.size, fun _ h => absurd h (Nat.not_lt_zero _)⟩ (fun j hj => hg.block j (by have := h.lt; omega) (fun e => by have := hr j e.symm; omega))
theorem RepB.putD {w0 w : World} {m : MatchD} {s : StD} {k : Int} {D : Nat} (h : RepB w0 w m s k) (hD : w0.heap.size + 3 ≤ D) (o : Obj) : RepB w0 (w.putObj D o) m s k :=
  h.grown (grownBy_putObj' w D o) hD (fun r e => by cases e; exact Nat.le_refl _)
theorem put9_keeps (w : World) (B : Nat) (v0 v1 v2 v3 v4 v5 v6 v7 v8 : Value) : KeepsOthers w (((((((((w.setCell ⟨B, 0, none⟩ v0).setCell ⟨B, 1, none⟩ v1).setCell ⟨B, 2, none⟩ v2).setCell ⟨B, 3, none⟩ v3).setCell ⟨B, 4, none⟩ v4).setCell ⟨B, 5, none⟩ v5).setCell ⟨B, 6, none⟩ v6).setCell ⟨B, 7, none⟩ v7).setCell ⟨B, 8, none⟩ v8) :=
  ((((((((KeepsOthers.setCell _ _ _).trans (KeepsOthers.setCell _ _ _)).trans (KeepsOthers.setCell _ _ _)).trans (KeepsOthers.setCell _ _ _)).trans (KeepsOthers.setCell _ _ _)).trans (KeepsOthers.setCell _ _ _)).trans (KeepsOthers.setCell _ _ _)).trans (KeepsOthers.setCell _ _ _)).trans (KeepsOthers.setCell _ _ _)
theorem RepB.put_other (w0 w : World) (v0 v1 v2 v3 v4 v5 v6 v7 v8 : Value) (k2 : Int) {j : Nat} (h1 : w0.heap.size + 1 ≠ j) (h2 : w0.heap.size + 1 + 1 ≠ j) : ((((((((((w.setCell ⟨w0.heap.size + 1, 0, none⟩ v0).setCell ⟨w0.heap.size + 1, 1, none⟩ v1).setCell ⟨w0.heap.size + 1, 2, none⟩ v2).setCell ⟨w0.heap.size + 1, 3, none⟩ v3).setCell ⟨w0.heap.size + 1, 4, none⟩ v4).setCell ⟨w0.heap.size + 1, 5, none⟩ v5).setCell ⟨w0.heap.size + 1, 6, none⟩ v6).setCell ⟨w0.heap.size + 1, 7, none⟩ v7).setCell ⟨w0.heap.size + 1, 8, none⟩ v8).setCell ⟨w0.heap.size + 1 + 1, 0, none⟩ (.int .i64 k2)).heap[j]? = w.heap[j]? :=
  (heap_setCell_ne _ h2).trans (put9_other v0 v1 v2 v3 v4 v5 v6 v7 v8 h1)
theorem heap_drewN (W : World) (k : Nat) : W.drew.heap[k]? = W.heap[k]? := rfl
theorem RepB.put_other_drew (w0 w : World) (v0 v1 v2 v3 v4 v5 v6 v7 v8 : Value) (k2 : Int) {j : Nat} (h1 : w0.heap.size + 1 ≠ j) (h2 : w0.heap.size + 1 + 1 ≠ j) : ((((((((((w.setCell ⟨w0.heap.size + 1, 0, none⟩ v0).setCell ⟨w0.heap.size + 1, 1, none⟩ v1).setCell ⟨w0.heap.size + 1, 2, none⟩ v2).setCell ⟨w0.heap.size + 1, 3, none⟩ v3).setCell ⟨w0.heap.size + 1, 4, none⟩ v4).setCell ⟨w0.heap.size + 1, 5, none⟩ v5).setCell ⟨w0.heap.size + 1, 6, none⟩ v6).setCell ⟨w0.heap.size + 1, 7, none⟩ v7).setCell ⟨w0.heap.size + 1, 8, none⟩ v8).setCell ⟨w0.heap.size + 1 + 1, 0, none⟩ (.int .i64 k2)).drew.heap[j]? = w.heap[j]? := (heap_drewN _ _).trans (RepB.put_other w0 w v0 v1 v2 v3 v4 v5 v6 v7 v8 k2 h1 h2)
theorem RepB.put_keeps (w0 w : World) (v0 v1 v2 v3 v4 v5 v6 v7 v8 : Value) (k2 : Int) : KeepsOthers w ((((((((((w.setCell ⟨w0.heap.size + 1, 0, none⟩ v0).setCell ⟨w0.heap.size + 1, 1, none⟩ v1).setCell ⟨w0.heap.size + 1, 2, none⟩ v2).setCell ⟨w0.heap.size + 1, 3, none⟩ v3).setCell ⟨w0.heap.size + 1, 4, none⟩ v4).setCell ⟨w0.heap.size + 1, 5, none⟩ v5).setCell ⟨w0.heap.size + 1, 6, none⟩ v6).setCell ⟨w0.heap.size + 1, 7, none⟩ v7).setCell ⟨w0.heap.size + 1, 8, none⟩ v8).setCell ⟨w0.heap.size + 1 + 1, 0, none⟩ (.int .i64 k2)) := (put9_keeps w (w0.heap.size + 1) v0 v1 v2 v3 v4 v5 v6 v7 v8).trans (KeepsOthers.setCell _ _ _)
theorem ok_most {m : MatchD} (h : m.ok = true) : m.most ≤ 8 := by
  unfold MatchD.ok inB at h
  simp at h
  omega
theorem inB3 {x : Int} (h : inB x (-1) 1 = true) : -1 ≤ x ∧ x ≤ 1 := by
  unfold inB at h
  simp at h
  omega
theorem RepB.drew {w0 w : World} {m : MatchD} {s : StD} {k : Int} (h : RepB w0 w m s k) : RepB w0 w.drew m s k := h.kept (Below.refl _ _).drew (fun _ _ => rfl)
theorem in01 {x : Int} (h : inB x 0 1 = true) : x = 0 ∨ x = 1 := by
  unfold inB at h
  simp at h
  omega
def ReplayPost (r : StD × Int × Int) (w : World) (e : Ending) (w' : World) : Prop := e = .returned (.tuple #[r.1.val, .int .i64 r.2.1, .int .i64 r.2.2]) ∧ Below w.heap.size w w'
set_option maxRecDepth 100000 in
set_option maxHeartbeats 2000000 in
theorem replay_any (m : MatchD) (first : Int) (card : List LineD) (v : Value) (con : Int) (w : World) (hcard : SlL w v card) :
    Calls Tryz.prog 13 #[m.val, .int .i64 first, v, .int .i64 con] w (ReplayPost (replayR m first card con) w) := by
  have HCARD := hid hcard
  obtain ⟨ac, cc, rfl, hll, -⟩ := hcard.open
  have HCM := hid (fun W => checkMatch_any m W)
  have HMV := hid (show m.val = .agg #[.int .i64 m.ends, .int .i64 m.most, .int .i64 m.early, .bool m.change, .bool m.power] from rfl)
  have HST := hid (fun W h => states_any m first card (.slice ac card.length cc) W h)
  rw [HMV.out] at HCM HST
  rw [HMV.out]
  obtain ⟨b1, h1⟩ : ∃ b, m.ok = b := ⟨_, rfl⟩
  obtain ⟨b2, h2⟩ : ∃ b, inB first 0 1 = b := ⟨_, rfl⟩
  obtain ⟨b3, h3⟩ : ∃ b, inB con (-1) 1 = b := ⟨_, rfl⟩
  have HR := hid (replayR.eq_1 m first card con)
  rw [show m.asked first con = (b1 && b2 && b3) by unfold MatchD.asked; rw [h1, h2, h3]] at HR
  rw [h1] at HCM
  have HOK := hid h1
  clear hcard h1
  refine (callsIn_wide (n := 10)).1 ?_
  refine callsIn_of_wp_marks Tryz.func13 rfl trivial ?_ rfl
  simp only [Tryz.ntmps13, List.size_toArray, List.length_cons, List.length_nil, Nat.reduceAdd, Nat.reduceSub, Array.replicate_succ, Array.replicate_zero, List.push_toArray, List.append_toArray, List.nil_append, List.cons_append]
  gi_wp2_with fail
  refine ⟨trivial, ?_⟩
  obtain ⟨W4, hW4⟩ : ∃ W4, (((w.alloc (.cells #[.int .i64 m.ends, .int .i64 m.most, .int .i64 m.early, .bool m.change, .bool m.power] 44)).alloc (.cells #[.int .i64 0, .int .i64 0, .int .i64 0, .int .i64 0, .int .i64 0, .bool false, .bool false, .bool false, .bool false] 58)).alloc (.cells #[.int .i64 0] 3)) = W4 := ⟨_, rfl⟩
  have hrep : RepB w W4 m zeroS 0 := by
    rw [← hW4]
    refine ⟨(heap_alloc_old _ _ _ (by simp; omega)).trans (heap_alloc2_old w _ _), (heap_alloc_old _ _ _ (by simp)).trans (heap_alloc2_new w _ _), ?_, (((Below.refl _ _).alloc (Nat.le_refl _) _).alloc (by simp) _).alloc (by simp; omega) _⟩
    have h := heap_alloc_new ((w.alloc (.cells #[.int .i64 m.ends, .int .i64 m.most, .int .i64 m.early, .bool m.change, .bool m.power] 44)).alloc (.cells #[.int .i64 0, .int .i64 0, .int .i64 0, .int .i64 0, .int .i64 0, .bool false, .bool false, .bool false, .bool false] 58)) (.cells #[.int .i64 0] 3)
    rw [World.size_alloc, World.size_alloc] at h
    exact h
  have HREP := hid hrep
  rw [hW4]
  clear hrep hW4
  refine (callsIn_wide.2 (HCM.out W4)).mono ?_
  rintro e W5 ⟨rfl, hb5⟩
  have HREP5 := hid (HREP.out.below hb5)
  clear hb5 HREP
  obtain ⟨q1, q2, q3, q4⟩ := HREP5.out
  have d0 := fun i => cellB q2 i
  have d1 : W5.cell? ⟨w.heap.size + 1 + 1, 0, none⟩ = some (.int .i64 0) := cellB q3 0
  obtain ⟨r0, r1, r2, r3, r4, r5, r6, r7, r8, rf⟩ := cells9 q2
  have f1 : W5.frozen? ⟨w.heap.size + 1 + 1, 0, none⟩ = false := by simp [World.frozen?, q3]
  have m0 : W5.cell? ⟨w.heap.size, 0, none⟩ = some (.int .i64 m.ends) := cellB q1 0
  have m1 : W5.cell? ⟨w.heap.size, 1, none⟩ = some (.int .i64 m.most) := cellB q1 1
  have m2 : W5.cell? ⟨w.heap.size, 2, none⟩ = some (.int .i64 m.early) := cellB q1 2
  have m3 : W5.cell? ⟨w.heap.size, 3, none⟩ = some (.bool m.change) := cellB q1 3
  have m4 : W5.cell? ⟨w.heap.size, 4, none⟩ = some (.bool m.power) := cellB q1 4
  clear q1 q2 q3 q4 d0
  have HW2 := hid (fun W => within_any first 0 1 W)
  have HW3 := hid (fun W => within_any con (-1) 1 W)
  rw [h2] at HW2
  rw [h3] at HW3
  have HIN2 := hid h2
  have HIN3 := hid h3
  clear h2 h3
  cases b1 with
  | false =>
    gi_wp2_with fail
    refine ⟨trivial, ?_⟩
    gi_wp2_with fail
    refine ⟨trivial, ?_⟩
    gi_wp2_with fail
    have hp := HREP5.out.put (s2 := zeroS) (.int .i64 0) (.int .i64 0) (.int .i64 0) (.int .i64 0) (.int .i64 0) (.bool false) (.bool false) (.bool false) (.bool false) (-1) rfl
    exact ⟨_, res_rep hp rfl rfl rfl, by rw [HR.out]; exact ⟨rfl, hp.2.2.2⟩⟩
  | true =>
    cases b2 with
    | false =>
      gi_wp2_with fail
      refine ⟨trivial, ?_⟩
      refine (callsIn_wide.2 (HW2.out W5)).mono ?_
      rintro e w' ⟨rfl, rfl⟩
      gi_wp2_with fail
      refine ⟨trivial, ?_⟩
      gi_wp2_with fail
      have hp := HREP5.out.put (s2 := zeroS) (.int .i64 0) (.int .i64 0) (.int .i64 0) (.int .i64 0) (.int .i64 0) (.bool false) (.bool false) (.bool false) (.bool false) (-1) rfl
      exact ⟨_, res_rep hp rfl rfl rfl, by rw [HR.out]; exact ⟨rfl, hp.2.2.2⟩⟩
    | true =>
      gi_wp2_with fail
      refine ⟨trivial, ?_⟩
      refine (callsIn_wide.2 (HW2.out W5)).mono ?_
      rintro e w' ⟨rfl, rfl⟩
      cases b3 with
      | false =>
        gi_wp2_with fail
        refine ⟨trivial, ?_⟩
        refine (callsIn_wide.2 (HW3.out W5)).mono ?_
        rintro e w' ⟨rfl, rfl⟩
        gi_wp2_with fail
        have hp := HREP5.out.put (s2 := zeroS) (.int .i64 0) (.int .i64 0) (.int .i64 0) (.int .i64 0) (.int .i64 0) (.bool false) (.bool false) (.bool false) (.bool false) (-1) rfl
        exact ⟨_, res_rep hp rfl rfl rfl, by rw [HR.out]; exact ⟨rfl, hp.2.2.2⟩⟩
      | true =>
        gi_wp2_with fail
        refine ⟨trivial, ?_⟩
        refine (callsIn_wide.2 (HW3.out W5)).mono ?_
        rintro e w' ⟨rfl, rfl⟩
        rw [if_pos (by decide)] at HR
        by_cases hlen : card.length ≤ 40
        · rw [if_pos hlen] at HR
          have hl40 : (card.length > 40) = False := by simp; omega
          gi_wp2_with fail
          refine ⟨trivial, ?_⟩
          refine (callsIn_wide.2 (HST.out W5 (HCARD.out.below HREP5.out.2.2.2))).mono ?_
          rintro e W6 ⟨rfl, hcap6, hz6, hb6⟩
          have HREP6 := hid (HREP5.out.below hb6)
          have HZ5 := hid HREP5.out.lt
          have HASK := hid (show m.most ≤ 8 ∧ (first = 0 ∨ first = 1) ∧ card.length ≤ 1000 from ⟨(ok_most HOK.out), in01 HIN2.out, by omega⟩)
          have HCAP6 := hid hcap6
          have HB6 := hid hb6
          have HZ6 := hid hz6
          clear hcap6 hz6 hb6 d1 r0 r1 r2 r3 r4 r5 r6 r7 r8 rf f1 HREP5 m0 m1 m2 m3 m4
          gi_wp2_with fail
          have HZ7 := hid (show w.heap.size + 3 ≤ W6.heap.size from HREP6.out.lt)
          have HKS := hid (show ∀ k, KS W5.heap.size (W5.heap.size + 1) (W5.heap.size + 1 + 1) (.slice ac card.length cc) k → k < W6.heap.size by
            rintro k (h | h | h | h)
            · have := HZ6.out; omega
            · have := HZ6.out; omega
            · have := HZ6.out; omega
            · have := HCARD.out.blk h; have := HZ7.out; omega)
          have HKN := hid (show ∀ k, KS W5.heap.size (W5.heap.size + 1) (W5.heap.size + 1 + 1) (.slice ac card.length cc) k → k ≠ w.heap.size + 1 ∧ k ≠ w.heap.size + 1 + 1 by
            have h5 := HZ5.out
            rintro k (h | h | h | h)
            · omega
            · omega
            · omega
            · have := HCARD.out.blk h; omega)
          obtain ⟨hok1, hok2, hok3⟩ := HASK.out
          refine wpIn_rangeO rfl (by omega) (gf := 66) (lb := #[.pointer (some ⟨W5.heap.size, 0, none⟩), .pointer (some ⟨W5.heap.size + 1, 0, none⟩), .pointer (some ⟨W5.heap.size + 1 + 1, 0, none⟩)]) rfl trivial (enters_of Tryz.func66 (by kernel_rfl) rfl)
            (states_seq 9 (by omega) W5.heap.size (W5.heap.size + 1) (W5.heap.size + 1 + 1) m first card (.slice ac card.length cc) W6 hok1 hok2 hok3 HCAP6.out ((HCARD.out.below HREP6.out.2.2.2)) HKS.out)
            (Below.refl _ _) (fun _ => rfl) HKS.out
            (fun O pre W => RepB w W m (lastS m first card pre) (lastK pre))
            (fun O pre x a' W => RepB w W m (lastS m first card pre) (lastK pre) ∧ ∃ T V, W.heap[T]? = some (.cells (stAt m first card x).arr 58 (0, 0)) ∧ a' = { tmps := #[.agg #[.int .i64 m.ends, .int .i64 m.most, .int .i64 m.early, .bool m.change, .bool m.power], .int .i64 first, .slice ac card.length cc, .int .i64 con, .pointer (some ⟨w.heap.size, 0, none⟩), undef, undef, undef, .pointer (some ⟨w.heap.size + 1, 0, none⟩), .pointer (some ⟨w.heap.size + 1 + 1, 0, none⟩), .int .i64 0, .int .i64 x, .pointer (some ⟨T, 0, none⟩), undef, .bool false, .agg #[.int .i64 m.ends, .int .i64 m.most, .int .i64 m.early, .bool m.change, .bool m.power], .bool true, .bool false, .bool false, .int .i64 first, .bool true, .bool false, .bool false, .bool false, .int .i64 con, .bool true, .bool false, .bool false, undef, .bool (decide ((40 : Int) < (card.length : Int))), .slice ac card.length cc, .int .i64 card.length, .bool (decide ((40 : Int) < (card.length : Int))), undef, .agg #[.int .i64 m.ends, .int .i64 m.most, .int .i64 m.early, .bool m.change, .bool m.power], .int .i64 first, .slice ac card.length cc, .func (.func 66) #[] #[.pointer (some ⟨W5.heap.size, 0, none⟩), .pointer (some ⟨W5.heap.size + 1, 0, none⟩), .pointer (some ⟨W5.heap.size + 1 + 1, 0, none⟩)], .int .i64 x, V, undef, undef, undef, undef, undef, undef, undef, undef, undef, undef, undef, undef, undef, undef, undef, undef, undef, undef, undef, undef, undef, undef, undef, undef, undef, undef, undef, undef, undef, undef, undef, undef, undef], defers := [] })
            ?hI ?hIs ?hIas ?h0 ?assign ?body ?done
          case hI =>
            intro O pre X Y hi hO hz hc
            exact hi.kept hc.1 (fun j hj => hc.2 j (by have := hi.lt; omega) (fun h => by have := hO j h; have := HZ7.out; omega))
          case hIs =>
            intro O pre X Y row hi hg hr
            exact hi.grown hg HZ7.out (fun r e => (hr r e).1)
          case hIas =>
            rintro O pre x a' X Y row ⟨hi, T, V, hT, ha⟩ hg hr
            refine ⟨hi.grown hg HZ7.out (fun r e => (hr r e).1), T, V, (hg.block T (Array.getElem?_eq_some_iff.1 hT).1 (fun e => ?_)).trans hT, ha⟩
            obtain ⟨o, ho, hcl⟩ := (hr T e.symm).2
            rw [hT] at ho
            cases ho
            cases hcl
          case h0 => exact HREP6.out
          case assign =>
            intro l O pre x W hx hi hO hz
            have HI := hid hi
            have HO := hid hO
            have HZ := hid hz
            clear hi hO hz hx
            dsimp only [encS, StD.val, StD.arr]
            obtain ⟨s, hs⟩ : ∃ s, stAt m first card x = s := ⟨_, rfl⟩
            rw [hs]
            have HS := hid hs
            clear hs
            gi_wp2_with fail
            have h1 := heap_alloc_new W (.cells #[.int .i64 s.p0, .int .i64 s.p1, .int .i64 s.ends, .int .i64 s.ham, .int .i64 s.win, .bool s.over, .bool s.extra, .bool s.w0, .bool s.w1] 58)
            have hb := (Below.refl W.heap.size W).alloc (Nat.le_refl _) (.cells #[.int .i64 s.p0, .int .i64 s.p1, .int .i64 s.ends, .int .i64 s.ham, .int .i64 s.win, .bool s.over, .bool s.extra, .bool s.w0, .bool s.w1] 58)
            have hk := (KeepsOthers.alloc W (.cells #[.int .i64 s.p0, .int .i64 s.p1, .int .i64 s.ends, .int .i64 s.ham, .int .i64 s.win, .bool s.over, .bool s.extra, .bool s.w0, .bool s.w1] 58)).from W6.heap.size
            have hr := HI.out.below hb
            refine ⟨?_, ?_, ?_⟩
            · with_reducible exact hk
            · intro k hk
              refine hb.block k ?_
              rcases hk with h | h
              · exact (HO.out k h).2
              · have := HKS.out k h
                have := HZ.out
                omega
            · refine ⟨hr, W.heap.size, _, ?_, rfl⟩
              exact h1
          case body =>
            rintro l O pre x a' W hx ⟨hi, T, V, hT, rfl⟩ hO hz
            have hls := lastS_snoc m first card pre x
            have hlk := lastK_snoc pre x
            obtain ⟨s, hs⟩ : ∃ s, stAt m first card x = s := ⟨_, rfl⟩
            rw [hs] at hT hls
            obtain ⟨p, hp⟩ : ∃ p, lastS m first card pre = p := ⟨_, rfl⟩
            obtain ⟨pk, hpk⟩ : ∃ p, lastK pre = p := ⟨_, rfl⟩
            rw [hp, hpk] at hi
            have HI := hid hi
            have HO := hid hO
            have HZ := hid hz
            have HLS := hid hls
            have HLK := hid hlk
            obtain ⟨q1, q2, q3, q4⟩ := hi
            obtain ⟨r0, r1, r2, r3, r4, r5, r6, r7, r8, rf⟩ := cells9 q2
            obtain ⟨e0, e1, e2, e3, e4, e5, e6, e7, e8, -⟩ := cells9 hT
            have d1 : W.cell? ⟨w.heap.size + 1 + 1, 0, none⟩ = some (.int .i64 pk) := cellB q3 0
            have f1 : W.frozen? ⟨w.heap.size + 1 + 1, 0, none⟩ = false := by simp [World.frozen?, q3]
            clear q1 q2 q3 q4 hT hO hz hls hlk hs hp hpk hx
            gi_wp2_with fail
            have hput := HI.out.put (.int .i64 s.p0) (.int .i64 s.p1) (.int .i64 s.ends) (.int .i64 s.ham) (.int .i64 s.win) (.bool s.over) (.bool s.extra) (.bool s.w0) (.bool s.w1) (x : Int) (s2 := s) rfl
            refine ⟨(RepB.put_keeps w W (.int .i64 s.p0) (.int .i64 s.p1) (.int .i64 s.ends) (.int .i64 s.ham) (.int .i64 s.win) (.bool s.over) (.bool s.extra) (.bool s.w0) (.bool s.w1) (x : Int)).from _, fun k hk => RepB.put_other w W (.int .i64 s.p0) (.int .i64 s.p1) (.int .i64 s.ends) (.int .i64 s.ham) (.int .i64 s.win) (.bool s.over) (.bool s.extra) (.bool s.w0) (.bool s.w1) (x : Int) ?_ ?_, ?_⟩
            · rcases hk with h | h
              · have := (HO.out k h).1; have := HZ7.out; omega
              · have := HKN.out k h; omega
            · rcases hk with h | h
              · have := (HO.out k h).1; have := HZ7.out; omega
              · have := HKN.out k h; omega
            · show RepB w _ m (lastS m first card (pre ++ [x])) (lastK (pre ++ [x]))
              rw [HLS.out, HLK.out]; exact hput
          case done =>
            intro O D W hD hi hdef
            obtain ⟨n, hn⟩ : ∃ n, badN m (begun first) card = n := ⟨_, rfl⟩
            have hi2 : RepB w W m (stAt m first card n) (n : Int) := by
              have h : RepB w W m (lastS m first card (List.range (n + 1))) (lastK (List.range (n + 1))) := by rw [← hn]; exact hi
              rw [List.range_succ, lastS_snoc, lastK_snoc] at h
              exact h
            have hnl := badN_le m card (begun first)
            rw [hn] at HR hnl
            obtain ⟨s, hs⟩ : ∃ s, stAt m first card n = s := ⟨_, rfl⟩
            rw [hs] at hi2
            have HI := hid hi2
            have HD := hid hD
            have HDF := hid hdef
            obtain ⟨q1, q2, q3, q4⟩ := hi2
            obtain ⟨r0, r1, r2, r3, r4, r5, r6, r7, r8, rf⟩ := cells9 q2
            have d1 : W.cell? ⟨w.heap.size + 1 + 1, 0, none⟩ = some (.int .i64 n) := cellB q3 0
            have f1 : W.frozen? ⟨w.heap.size + 1 + 1, 0, none⟩ = false := by simp [World.frozen?, q3]
            have m0 : W.cell? ⟨w.heap.size, 0, none⟩ = some (.int .i64 m.ends) := cellB q1 0
            have m1 : W.cell? ⟨w.heap.size, 1, none⟩ = some (.int .i64 m.most) := cellB q1 1
            have m2 : W.cell? ⟨w.heap.size, 2, none⟩ = some (.int .i64 m.early) := cellB q1 2
            have m3 : W.cell? ⟨w.heap.size, 3, none⟩ = some (.bool m.change) := cellB q1 3
            have m4 : W.cell? ⟨w.heap.size, 4, none⟩ = some (.bool m.power) := cellB q1 4
            clear hi hD hdef q1 q2 q3 q4 hn
            have hmx : Tryz.prog.follows .mixedOrders = true := by kernel_rfl
            by_cases hlt : n < card.length
            · rw [if_pos hlt] at HR
              clear hs
              gi_wp2_with fail
              gi_region_o
              gi_wp2_with fail
              have hp := ((HI.out).put (s2 := zeroS) (.int .i64 0) (.int .i64 0) (.int .i64 0) (.int .i64 0) (.int .i64 0) (.bool false) (.bool false) (.bool false) (.bool false) ((n : Int)) rfl).drew
              have hK2 := (RepB.put_other_drew w W (.int .i64 0) (.int .i64 0) (.int .i64 0) (.int .i64 0) (.int .i64 0) (.bool false) (.bool false) (.bool false) (.bool false) ((n : Int)) (j := D) (by have := HZ7.out; have := HD.out; omega) (by have := HZ7.out; have := HD.out; omega)).trans HDF.out
              have hp2 := hp.putD (D := D) (by have := HZ7.out; have := HD.out; omega) (.deferred none)
              refine ⟨by simp, .inl ⟨_, _, rfl, run_takeDeferred hK2, ?_⟩⟩
              exact ⟨_, res_rep hp2 rfl rfl rfl, by rw [HR.out]; exact ⟨rfl, hp2.2.2.2⟩⟩
            · obtain rfl : n = card.length := by omega
              rw [if_neg hlt, hs] at HR
              clear hlt hs
              by_cases hc : con = -1
              · rw [if_pos hc] at HR
                have hcb : (con == -1) = true := by simpa using hc
                clear hc
                gi_wp2_with fail
                have hp := (HI.out).put (s2 := s) (.int .i64 s.p0) (.int .i64 s.p1) (.int .i64 s.ends) (.int .i64 s.ham) (.int .i64 s.win) (.bool s.over) (.bool s.extra) (.bool s.w0) (.bool s.w1) (-1) rfl
                have hK2 := (RepB.put_other w W (.int .i64 s.p0) (.int .i64 s.p1) (.int .i64 s.ends) (.int .i64 s.ham) (.int .i64 s.win) (.bool s.over) (.bool s.extra) (.bool s.w0) (.bool s.w1) (-1) (j := D) (by have := HZ7.out; have := HD.out; omega) (by have := HZ7.out; have := HD.out; omega)).trans HDF.out
                have hp2 := hp.putD (D := D) (by have := HZ7.out; have := HD.out; omega) (.deferred none)
                refine ⟨by simp, .inl ⟨_, _, rfl, run_takeDeferred hK2, ?_⟩⟩
                exact ⟨_, res_rep hp2 rfl rfl rfl, by rw [HR.out]; exact ⟨rfl, hp2.2.2.2⟩⟩
              · rw [if_neg hc] at HR
                have hcb : (con == -1) = false := by simpa using hc
                have hcr := inB3 HIN3.out
                rcases Bool.eq_false_or_eq_true s.over with hov | hov
                · rw [hov] at r5 HR
                  rw [if_pos (by simp)] at HR
                  clear hov hc
                  gi_wp2_with fail
                  gi_region_o
                  gi_wp2_with fail
                  have hp := ((HI.out).put (s2 := zeroS) (.int .i64 0) (.int .i64 0) (.int .i64 0) (.int .i64 0) (.int .i64 0) (.bool false) (.bool false) (.bool false) (.bool false) ((card.length : Int)) rfl).drew
                  have hK2 := (RepB.put_other_drew w W (.int .i64 0) (.int .i64 0) (.int .i64 0) (.int .i64 0) (.int .i64 0) (.bool false) (.bool false) (.bool false) (.bool false) ((card.length : Int)) (j := D) (by have := HZ7.out; have := HD.out; omega) (by have := HZ7.out; have := HD.out; omega)).trans HDF.out
                  have hp2 := hp.putD (D := D) (by have := HZ7.out; have := HD.out; omega) (.deferred none)
                  refine ⟨by simp, .inl ⟨_, _, rfl, run_takeDeferred hK2, ?_⟩⟩
                  exact ⟨_, res_rep hp2 rfl rfl rfl, by rw [HR.out]; exact ⟨rfl, hp2.2.2.2⟩⟩
                · rw [hov] at r5 HR
                  have HOV := hid hov
                  clear hov
                  by_cases hee : s.ends < m.early
                  · rw [if_pos (by simp [hee])] at HR
                    have heb : decide (s.ends < m.early) = true := by simp [hee]
                    clear hee hc
                    gi_wp2_with fail
                    gi_region_o
                    gi_wp2_with fail
                    have hp := ((HI.out).put (s2 := zeroS) (.int .i64 0) (.int .i64 0) (.int .i64 0) (.int .i64 0) (.int .i64 0) (.bool false) (.bool false) (.bool false) (.bool false) ((card.length : Int)) rfl).drew
                    have hK2 := (RepB.put_other_drew w W (.int .i64 0) (.int .i64 0) (.int .i64 0) (.int .i64 0) (.int .i64 0) (.bool false) (.bool false) (.bool false) (.bool false) ((card.length : Int)) (j := D) (by have := HZ7.out; have := HD.out; omega) (by have := HZ7.out; have := HD.out; omega)).trans HDF.out
                    have hp2 := hp.putD (D := D) (by have := HZ7.out; have := HD.out; omega) (.deferred none)
                    refine ⟨by simp, .inl ⟨_, _, rfl, run_takeDeferred hK2, ?_⟩⟩
                    exact ⟨_, res_rep hp2 rfl rfl rfl, by rw [HR.out]; exact ⟨rfl, hp2.2.2.2⟩⟩
                  · rw [if_neg (by simp [hee])] at HR
                    have heb : decide (s.ends < m.early) = false := by simp [hee]
                    have hc0 : 0 ≤ con := by omega
                    have hc1 : con ≤ 1 := by omega
                    clear hee hc hcr
                    gi_wp2_with fail
                    refine ⟨trivial, ?_⟩
                    have hs1 : SObj (W.alloc (.cells #[.int .i64 s.p0, .int .i64 s.p1, .int .i64 s.ends, .int .i64 s.ham, .int .i64 s.win, .bool false, .bool s.extra, .bool s.w0, .bool s.w1, .int .i64 m.ends, .int .i64 m.most, .int .i64 m.early, .bool m.change, .bool m.power] 107)) W.heap.size m s := SObj.of (heap_alloc_new W (.cells #[.int .i64 s.p0, .int .i64 s.p1, .int .i64 s.ends, .int .i64 s.ham, .int .i64 s.win, .bool false, .bool s.extra, .bool s.w0, .bool s.w1, .int .i64 m.ends, .int .i64 m.most, .int .i64 m.early, .bool m.change, .bool m.power] 107)) (by rw [gArr, HOV.out])
                    have hb1 : Below W.heap.size W (W.alloc (.cells #[.int .i64 s.p0, .int .i64 s.p1, .int .i64 s.ends, .int .i64 s.ham, .int .i64 s.win, .bool false, .bool s.extra, .bool s.w0, .bool s.w1, .int .i64 m.ends, .int .i64 m.most, .int .i64 m.early, .bool m.change, .bool m.power] 107)) := (Below.refl _ _).alloc (Nat.le_refl _) _
                    refine (callsIn_wide.2 (end_any W.heap.size m s (1 - con) (W.alloc (.cells #[.int .i64 s.p0, .int .i64 s.p1, .int .i64 s.ends, .int .i64 s.ham, .int .i64 s.win, .bool false, .bool s.extra, .bool s.w0, .bool s.w1, .int .i64 m.ends, .int .i64 m.most, .int .i64 m.early, .bool m.change, .bool m.power] 107)) hs1)).mono ?_
                    rintro e W7 ⟨⟨v7, rfl⟩, hs7, ho7⟩
                    have hi7 : RepB w W7 m s (card.length : Int) := (HI.out.below hb1).kept (ho7.bel.mono (Nat.zero_le _)) (fun j hj => ho7.bel.block j (by have := HI.out.lt; omega))
                    have dlt : D < W.heap.size := (Array.getElem?_eq_some_iff.1 HDF.out).1
                    have HD7 := hid ((ho7.bel.block D dlt).trans ((hb1.block D dlt).trans HDF.out))
                    obtain ⟨s3, hs3⟩ : ∃ s3, s.end (1 - con) = s3 := ⟨_, rfl⟩
                    rw [hs3] at hs7 HR
                    have HI7 := hid hi7
                    clear hs1 hb1 ho7 dlt hs3 r0 r1 r2 r3 r4 r5 r6 r7 r8 rf f1 d1 m0 m1 m2 m3 m4 heb hcb hc0 hc1
                    obtain ⟨q1, q2, q3, q4⟩ := hi7
                    obtain ⟨r0, r1, r2, r3, r4, r5, r6, r7, r8, rf⟩ := cells9 q2
                    have d1 : W7.cell? ⟨w.heap.size + 1 + 1, 0, none⟩ = some (.int .i64 card.length) := cellB q3 0
                    have f1 : W7.frozen? ⟨w.heap.size + 1 + 1, 0, none⟩ = false := by simp [World.frozen?, q3]
                    obtain ⟨c0, c1, c2, c3, c4, c5, c6, c7, c8, c9, c10, c11, c12, c13, cf⟩ := cells14 hs7
                    clear q1 q2 q3 q4 hs7
                    gi_wp2_with fail
                    have hp := (HI7.out).put (s2 := s3) (.int .i64 s3.p0) (.int .i64 s3.p1) (.int .i64 s3.ends) (.int .i64 s3.ham) (.int .i64 s3.win) (.bool s3.over) (.bool s3.extra) (.bool s3.w0) (.bool s3.w1) (-1) rfl
                    have hK2 := (RepB.put_other w W7 (.int .i64 s3.p0) (.int .i64 s3.p1) (.int .i64 s3.ends) (.int .i64 s3.ham) (.int .i64 s3.win) (.bool s3.over) (.bool s3.extra) (.bool s3.w0) (.bool s3.w1) (-1) (j := D) (by have := HZ7.out; have := HD.out; omega) (by have := HZ7.out; have := HD.out; omega)).trans HD7.out
                    have hp2 := hp.putD (D := D) (by have := HZ7.out; have := HD.out; omega) (.deferred none)
                    refine ⟨by simp, .inl ⟨_, _, rfl, run_takeDeferred hK2, ?_⟩⟩
                    exact ⟨_, res_rep hp2 rfl rfl rfl, by rw [HR.out]; exact ⟨rfl, hp2.2.2.2⟩⟩
        · rw [if_neg hlen] at HR
          have hl40 : (40 : Int) < (card.length : Int) := by omega
          clear hlen
          gi_wp2_with fail
          have hp := HREP5.out.put (s2 := zeroS) (.int .i64 0) (.int .i64 0) (.int .i64 0) (.int .i64 0) (.int .i64 0) (.bool false) (.bool false) (.bool false) (.bool false) (-1) rfl
          exact ⟨_, res_rep hp rfl rfl rfl, by rw [HR.out]; exact ⟨rfl, hp.2.2.2⟩⟩
end Go.Proofs.YtolnhicngepnnaaGreat
