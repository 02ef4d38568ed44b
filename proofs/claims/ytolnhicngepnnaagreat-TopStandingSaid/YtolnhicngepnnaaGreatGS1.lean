/- A game that goes on: its object, and small functions. -/
import Derived.Test.YtolnhicngepnnaaGreatGX
import Derived.Deep.DeepCutAuto
import Derived.BigRegion
import Derived.BigQuiet
import Derived.Deep.QuietTactic
namespace Go.Proofs.YtolnhicngepnnaaGreat
open Go.RowKit

def StD.arr (s : StD) : Array Value := #[.int .i64 s.p0, .int .i64 s.p1, .int .i64 s.ends, .int .i64 s.ham, .int .i64 s.win, .bool s.over, .bool s.extra, .bool s.w0, .bool s.w1]
def StD.val (s : StD) : Value := .agg s.arr
def MatchD.arr (m : MatchD) : Array Value := #[.int .i64 m.ends, .int .i64 m.most, .int .i64 m.early, .bool m.change, .bool m.power]
def MatchD.val (m : MatchD) : Value := .agg m.arr
def LineD.cells (x : LineD) : List Value := [.int .i64 x.team, .int .i64 x.pts, .bool x.pow]
def LineD.val (x : LineD) : Value := .agg #[.int .i64 x.team, .int .i64 x.pts, .bool x.pow]
def gArr (m : MatchD) (s : StD) : Array Value := #[.int .i64 s.p0, .int .i64 s.p1, .int .i64 s.ends, .int .i64 s.ham, .int .i64 s.win, .bool s.over, .bool s.extra, .bool s.w0, .bool s.w1, .int .i64 m.ends, .int .i64 m.most, .int .i64 m.early, .bool m.change, .bool m.power]
/-- A game that goes on, in a block. -/
def SObj (w : World) (S : Nat) (m : MatchD) (s : StD) : Prop := w.heap[S]? = some (.cells (gArr m s) 107 (0, 0))
theorem SObj.lt {w : World} {S : Nat} {m : MatchD} {s : StD} (h : SObj w S m s) : S < w.heap.size := (Array.getElem?_eq_some_iff.1 h).1
theorem SObj.below {w w' : World} {S : Nat} {m : MatchD} {s : StD} (h : SObj w S m s) (hb : Below w.heap.size w w') : SObj w' S m s := (hb.block S h.lt).trans h
theorem SObj.of {w : World} {S : Nat} {m : MatchD} {s : StD} {cs : Array Value} (h : w.heap[S]? = some (.cells cs 107 (0, 0))) (e : cs = gArr m s) : SObj w S m s := by unfold SObj; rw [h, e]
theorem cells14 {w : World} {B : Nat} {t : TypeId} {a0 a1 a2 a3 a4 a5 a6 a7 a8 a9 a10 a11 a12 a13 : Value} (h : w.heap[B]? = some (.cells #[a0, a1, a2, a3, a4, a5, a6, a7, a8, a9, a10, a11, a12, a13] t (0, 0))) :
    w.cell? ⟨B, 0, none⟩ = some a0 ∧ w.cell? ⟨B, 1, none⟩ = some a1 ∧ w.cell? ⟨B, 2, none⟩ = some a2 ∧ w.cell? ⟨B, 3, none⟩ = some a3 ∧ w.cell? ⟨B, 4, none⟩ = some a4 ∧ w.cell? ⟨B, 5, none⟩ = some a5 ∧ w.cell? ⟨B, 6, none⟩ = some a6 ∧ w.cell? ⟨B, 7, none⟩ = some a7 ∧ w.cell? ⟨B, 8, none⟩ = some a8 ∧ w.cell? ⟨B, 9, none⟩ = some a9 ∧ w.cell? ⟨B, 10, none⟩ = some a10 ∧ w.cell? ⟨B, 11, none⟩ = some a11 ∧ w.cell? ⟨B, 12, none⟩ = some a12 ∧ w.cell? ⟨B, 13, none⟩ = some a13 ∧ ∀ i, w.frozen? ⟨B, i, none⟩ = false := by
  refine ⟨?_, ?_, ?_, ?_, ?_, ?_, ?_, ?_, ?_, ?_, ?_, ?_, ?_, ?_, ?_⟩
  all_goals simp [World.cell?, World.frozen?, h]
theorem begin_any (m : MatchD) (first : Int) (w : World) : Calls Tryz.prog 67 #[m.val, .int .i64 first] w fun e w' => ∃ S, w.heap.size ≤ S ∧ e = .returned (.pointer (some ⟨S, 0, none⟩)) ∧ SObj w' S m (begun first) ∧ Below w.heap.size w w' := by
  unfold MatchD.val MatchD.arr
  go_enter Tryz.func67, Tryz.ntmps67
  go_wp2
  go_ret
  exact ⟨w.heap.size + 1, by omega, rfl, SObj.of (heap_alloc2_new w _ _) rfl, ((Below.refl _ _).alloc (Nat.le_refl _) _).alloc (by simp) _⟩
theorem end_any (S : Nat) (m : MatchD) (s : StD) (winner : Int) (w : World) (h : SObj w S m s) : Calls Tryz.prog 32 #[.pointer (some ⟨S, 0, none⟩), .int .i64 winner] w fun e w' => (∃ v, e = .returned v) ∧ SObj w' S m (s.end winner) ∧ Only S w w' := by
  have HS := hid h
  obtain ⟨c0, c1, c2, c3, c4, c5, c6, c7, c8, c9, c10, c11, c12, c13, cf⟩ := cells14 h
  clear h
  go_enter Tryz.func32, Tryz.ntmps32
  go_wp2_with fail
  go_end0
  refine ⟨⟨_, rfl⟩, SObj.of (heap_setCell_same _ S 4 _ 107 _ (heap_setCell_same _ S 3 _ 107 _ (heap_setCell_same _ S 6 _ 107 _ (heap_setCell_same _ S 5 _ 107 _ HS.out)))) (by simp [gArr, StD.end]), (((((Only.refl S w).setCell _ _).setCell _ _).setCell _ _).setCell _ _)⟩
theorem checkMatch_any (m : MatchD) (w : World) : Calls Tryz.prog 29 #[m.val] w fun e w' => e = .returned (.bool m.ok) ∧ Below w.heap.size w w' := by
  obtain ⟨b1, h1⟩ : ∃ b, inB m.ends 1 16 = b := ⟨_, rfl⟩
  obtain ⟨b2, h2⟩ : ∃ b, inB m.most 1 8 = b := ⟨_, rfl⟩
  obtain ⟨b3, h3⟩ : ∃ b, inB m.early 1 m.ends = b := ⟨_, rfl⟩
  have H := hid (show m.ok = (b1 && b2 && b3) by unfold MatchD.ok; rw [h1, h2, h3])
  unfold MatchD.val MatchD.arr
  go_enter Tryz.func29, Tryz.ntmps29
  cases b1 <;> cases b2 <;> cases b3
  all_goals
    go_wp2_with (go_at_call 30; refine (within_any _ _ _ _).mono ?_; rintro e w' ⟨rfl, rfl⟩)
    go_ret
    exact ⟨ret_bool (by rw [H.out]; rfl), (Below.refl _ _).alloc (Nat.le_refl _) _⟩
