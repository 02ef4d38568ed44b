/- The document's calls of a clock walked. -/
import Derived.Test.YtdbfnonpndlejaaDoorK5
import Derived.Laws.ResultCell
namespace Go.Proofs.YtdbfnonpndlejaaDoor
open Go.RowKit

theorem wrong_of (c : ClkD) (team t : Int) (b1 b2 : Bool) (h1 : inB team 0 1 = b1) (h2 : inB t c.now 1073741824 = b2) : c.wrong team t = if b1 then (if b2 then 0 else 4) else 2 := by
  unfold ClkD.wrong; rw [h1, h2]
theorem two_blocks (w : World) (o o2 : Obj) : Below w.heap.size w ((w.alloc o).alloc o2) := ((Below.refl _ _).alloc (Nat.le_refl _) _).alloc (by simp) _
theorem two_then {w : World} {o o2 : Obj} {w1 : World} (h : Below ((w.alloc o).alloc o2).heap.size ((w.alloc o).alloc o2) w1) : Below w.heap.size w w1 := (two_blocks w o o2).trans (h.mono (by simp; omega))
theorem ClkD.start_w {c : ClkD} {k t E : Int} (h : c.wrong k t = E) (hE : E ≠ 0) : c.start k t = (c, E) := by unfold ClkD.start; rw [h, if_neg hE]
theorem ClkD.start_s {c : ClkD} {k t : Int} (h : c.wrong k t = 0) (ht : c.team ≠ -1) : c.start k t = (c, 9) := by unfold ClkD.start; rw [if_pos h, if_neg ht]
theorem ClkD.start_n {c : ClkD} {k t : Int} (h : c.wrong k t = 0) (ht : c.team = -1) (hl : c.left k = 0) : c.start k t = (c, 7) := by unfold ClkD.start; rw [if_pos h, if_pos ht, if_pos hl]
theorem ClkD.start_y {c : ClkD} {k t : Int} (h : c.wrong k t = 0) (ht : c.team = -1) (hl : c.left k ≠ 0) : c.start k t = ({ c.pass t with team := k }, 0) := by unfold ClkD.start; rw [if_pos h, if_pos ht, if_neg hl]
theorem ClkD.stop_w {c : ClkD} {t E : Int} (h : c.wrong 0 t = E) (hE : E ≠ 0) : c.stop t = (c, E) := by unfold ClkD.stop; rw [h, if_neg hE]
theorem ClkD.stop_s {c : ClkD} {t : Int} (h : c.wrong 0 t = 0) (ht : c.team = -1) : c.stop t = (c, 9) := by unfold ClkD.stop; rw [if_pos h, if_pos ht]
theorem ClkD.stop_y {c : ClkD} {t : Int} (h : c.wrong 0 t = 0) (ht : c.team ≠ -1) : c.stop t = ({ c.pass t with team := -1 }, 0) := by unfold ClkD.stop; rw [if_pos h, if_neg ht]
theorem ClkD.extra_w {c : ClkD} {t E : Int} (h : c.wrong 0 t = E) (hE : E ≠ 0) : c.extra t = (c, E) := by unfold ClkD.extra; rw [h, if_neg hE]
theorem ClkD.extra_s {c : ClkD} {t : Int} (h : c.wrong 0 t = 0) (ht : c.team ≠ -1) : c.extra t = (c, 9) := by unfold ClkD.extra; rw [if_pos h, if_neg ht]
theorem ClkD.extra_y {c : ClkD} {t : Int} (h : c.wrong 0 t = 0) (ht : c.team = -1) : c.extra t = ({ c.pass t with l0 := (c.pass t).l0 + c.t.extra, l1 := (c.pass t).l1 + c.t.extra }, 0) := by unfold ClkD.extra; rw [if_pos h, if_pos ht]; rfl
theorem ClkD.out_w {c : ClkD} {k t E : Int} (h : c.wrong k t = E) (hE : E ≠ 0) : c.out k t = (c, E) := by unfold ClkD.out; rw [h, if_neg hE]
theorem ClkD.out_s {c : ClkD} {k t : Int} (h : c.wrong k t = 0) (ht : ¬ (c.team = k ∧ c.til ≤ t)) : c.out k t = (c, 9) := by unfold ClkD.out; rw [if_pos h, if_neg ht]
theorem ClkD.out_n {c : ClkD} {k t : Int} (h : c.wrong k t = 0) (ht : c.team = k ∧ c.til ≤ t) (hl : c.outs k = 0) : c.out k t = (c, 7) := by unfold ClkD.out; rw [if_pos h, if_pos ht, if_pos hl]
theorem ClkD.out_y0 {c : ClkD} {t : Int} (h : c.wrong 0 t = 0) (ht : c.team = 0 ∧ c.til ≤ t) (hl : c.o0 ≠ 0) : c.out 0 t = ({ c.pass t with o0 := c.o0 - 1, til := t + c.t.len }, 0) := by
  have hl' : c.outs 0 ≠ 0 := hl
  unfold ClkD.out; rw [if_pos h, if_pos ht, if_neg hl']; simp [ClkD.pass]
theorem ClkD.out_y1 {c : ClkD} {t : Int} (h : c.wrong 1 t = 0) (ht : c.team = 1 ∧ c.til ≤ t) (hl : c.o1 ≠ 0) : c.out 1 t = ({ c.pass t with o1 := c.o1 - 1, til := t + c.t.len }, 0) := by
  have hl' : c.outs 1 ≠ 0 := hl
  unfold ClkD.out; rw [if_pos h, if_pos ht, if_neg hl']; simp [ClkD.pass]
/-- A whole row of eleven cells stored. -/
theorem put11_same {w : World} {B : Nat} {t : TypeId} {a0 a1 a2 a3 a4 a5 a6 a7 a8 a9 a10 : Value} (v0 v1 v2 v3 v4 v5 v6 v7 v8 v9 v10 : Value) (h : w.heap[B]? = some (.cells #[a0, a1, a2, a3, a4, a5, a6, a7, a8, a9, a10] t (0, 0))) :
    (((((((((((w.setCell ⟨B, 0, none⟩ v0).setCell ⟨B, 1, none⟩ v1).setCell ⟨B, 2, none⟩ v2).setCell ⟨B, 3, none⟩ v3).setCell ⟨B, 4, none⟩ v4).setCell ⟨B, 5, none⟩ v5).setCell ⟨B, 6, none⟩ v6).setCell ⟨B, 7, none⟩ v7).setCell ⟨B, 8, none⟩ v8).setCell ⟨B, 9, none⟩ v9).setCell ⟨B, 10, none⟩ v10).heap[B]? = some (.cells #[v0, v1, v2, v3, v4, v5, v6, v7, v8, v9, v10] t (0, 0)) :=
  ((heap_setCell_same _ B 10 _ t v10 (heap_setCell_same _ B 9 _ t v9 (heap_setCell_same _ B 8 _ t v8 (heap_setCell_same _ B 7 _ t v7 (heap_setCell_same _ B 6 _ t v6 (heap_setCell_same _ B 5 _ t v5 (heap_setCell_same _ B 4 _ t v4 (heap_setCell_same _ B 3 _ t v3 (heap_setCell_same _ B 2 _ t v2 (heap_setCell_same _ B 1 _ t v1 (heap_setCell_same _ B 0 _ t v0 h)))))))))))).trans (congrArg (fun cs => some (Obj.cells cs t (0, 0))) (by simp))
theorem heap_setCell_ne {w : World} {B k i : Nat} (v : Value) (h : B ≠ k) : (w.setCell ⟨B, i, none⟩ v).heap[k]? = w.heap[k]? := by simp [World.setCell, Array.getElem?_modify, h]
theorem put11_other {w : World} {B k : Nat} (v0 v1 v2 v3 v4 v5 v6 v7 v8 v9 v10 : Value) (hne : B ≠ k) :
    (((((((((((w.setCell ⟨B, 0, none⟩ v0).setCell ⟨B, 1, none⟩ v1).setCell ⟨B, 2, none⟩ v2).setCell ⟨B, 3, none⟩ v3).setCell ⟨B, 4, none⟩ v4).setCell ⟨B, 5, none⟩ v5).setCell ⟨B, 6, none⟩ v6).setCell ⟨B, 7, none⟩ v7).setCell ⟨B, 8, none⟩ v8).setCell ⟨B, 9, none⟩ v9).setCell ⟨B, 10, none⟩ v10).heap[k]? = w.heap[k]? := by simp only [heap_setCell_ne _ hne]
theorem put11_below {w w0 : World} {b B : Nat} (v0 v1 v2 v3 v4 v5 v6 v7 v8 v9 v10 : Value) (h : Below b w0 w) (hB : b ≤ B) :
    Below b w0 (((((((((((w.setCell ⟨B, 0, none⟩ v0).setCell ⟨B, 1, none⟩ v1).setCell ⟨B, 2, none⟩ v2).setCell ⟨B, 3, none⟩ v3).setCell ⟨B, 4, none⟩ v4).setCell ⟨B, 5, none⟩ v5).setCell ⟨B, 6, none⟩ v6).setCell ⟨B, 7, none⟩ v7).setCell ⟨B, 8, none⟩ v8).setCell ⟨B, 9, none⟩ v9).setCell ⟨B, 10, none⟩ v10) := ((((((((((h.setCell (p := ⟨B, 0, none⟩) hB v0).setCell (p := ⟨B, 1, none⟩) hB v1).setCell (p := ⟨B, 2, none⟩) hB v2).setCell (p := ⟨B, 3, none⟩) hB v3).setCell (p := ⟨B, 4, none⟩) hB v4).setCell (p := ⟨B, 5, none⟩) hB v5).setCell (p := ⟨B, 6, none⟩) hB v6).setCell (p := ⟨B, 7, none⟩) hB v7).setCell (p := ⟨B, 8, none⟩) hB v8).setCell (p := ⟨B, 9, none⟩) hB v9).setCell (p := ⟨B, 10, none⟩) hB v10
theorem cells11 {w : World} {B : Nat} {t : TypeId} {a0 a1 a2 a3 a4 a5 a6 a7 a8 a9 a10 : Value} (h : w.heap[B]? = some (.cells #[a0, a1, a2, a3, a4, a5, a6, a7, a8, a9, a10] t (0, 0))) :
    w.cell? ⟨B, 0, none⟩ = some a0 ∧ w.cell? ⟨B, 1, none⟩ = some a1 ∧ w.cell? ⟨B, 2, none⟩ = some a2 ∧ w.cell? ⟨B, 3, none⟩ = some a3 ∧ w.cell? ⟨B, 4, none⟩ = some a4 ∧ w.cell? ⟨B, 5, none⟩ = some a5 ∧ w.cell? ⟨B, 6, none⟩ = some a6 ∧ w.cell? ⟨B, 7, none⟩ = some a7 ∧ w.cell? ⟨B, 8, none⟩ = some a8 ∧ w.cell? ⟨B, 9, none⟩ = some a9 ∧ w.cell? ⟨B, 10, none⟩ = some a10 ∧ ∀ i, w.frozen? ⟨B, i, none⟩ = false := by
  refine ⟨?_, ?_, ?_, ?_, ?_, ?_, ?_, ?_, ?_, ?_, ?_, ?_⟩
  all_goals simp [World.cell?, World.frozen?, h]
theorem res64 {fn : Func} {p u : Tmp} (hr : fn.results = #[.cell p 64, .tmp u]) {tmps : Array Value} {w : World} {R : Nat} {cs : Array Value} (hp : tmps.getD p undef = .pointer (some ⟨R, 0, none⟩)) (hg : w.heap[R]? = some (.cells cs 64 (0, 0))) (hs : cs.size = 11) :
    (results fn tmps).run Tryd.prog w = .ok (.tuple #[.agg cs, tmps.getD u undef]) w := by
  have hi : (Tryd.prog.info? 64).map (·.size) = some cs.size := by rw [hs]; kernel_rfl
  rw [results_cell_tmp hr, hp]
  simp [asAddr, Result.andThen, run_loadVar_row w R 64 64 cs (0, 0) _ hg Tryd.underlying64 rfl hi]
def ClkD.zero : ClkD := ⟨⟨0, 0, 0, 0⟩, 0, 0, 0, 0, 0, 0, 0⟩
/-- A document's clock in a block. -/
def RObj (w : World) (B : Nat) (c : ClkD) : Prop := w.heap[B]? = some (.cells c.vals 64 (0, 0))
theorem RObj.below {w w' : World} {B : Nat} {c : ClkD} (h : RObj w B c) (hb : Below w.heap.size w w') : RObj w' B c := (hb.block B (Array.getElem?_eq_some_iff.1 h).1).trans h
theorem two_robj (w : World) (c : ClkD) (cs cs2 : Array Value) (h1 : cs = c.vals) (h2 : cs2 = ClkD.zero.vals) : RObj ((w.alloc (.cells cs 64)).alloc (.cells cs2 64)) w.heap.size c ∧ RObj ((w.alloc (.cells cs 64)).alloc (.cells cs2 64)) (w.heap.size + 1) ClkD.zero := by
  subst h1 h2
  exact ⟨heap_alloc2_old w _ _, heap_alloc2_new w _ _⟩
end Go.Proofs.YtdbfnonpndlejaaDoor
