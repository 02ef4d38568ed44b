/- The methods of a clock. -/
import Derived.Test.YtdbfnonpndlejaaDoorA1
import Derived.Lib.SmallJoins
import Derived.Laws.Rows
import Derived.Deep.DeepCutAuto
import Derived.Deep.RegionHeld3
namespace Go.Proofs.YtdbfnonpndlejaaDoor
open Go.RowKit

/-- A clock, as data. -/
structure ClkD where
  t : TimesD
  l0 : Int
  l1 : Int
  o0 : Int
  o1 : Int
  team : Int
  now : Int
  til : Int
def ClkD.arr (c : ClkD) : Array Value := #[.int .i64 c.t.total, .int .i64 c.t.extra, .int .i64 c.t.outs, .int .i64 c.t.len, .bool true, .int .i64 c.l0, .int .i64 c.l1, .int .i64 c.o0, .int .i64 c.o1, .int .i64 c.team, .int .i64 c.now, .int .i64 c.til]
/-- A clock lies in a block. -/
def CObj (w : World) (B : Nat) (c : ClkD) : Prop := w.heap[B]? = some (.cells c.arr 72 (0, 0))
theorem CObj.cell {w : World} {B : Nat} {c : ClkD} (h : CObj w B c) (i : Nat) : w.cell? ⟨B, i, none⟩ = c.arr[i]? := by unfold CObj at h; simp [World.cell?, h]
theorem CObj.frozen {w : World} {B : Nat} {c : ClkD} (h : CObj w B c) (i : Nat) : w.frozen? ⟨B, i, none⟩ = false := by unfold CObj at h; simp [World.frozen?, h]
theorem CObj.set {w : World} {B : Nat} {c : ClkD} (h : CObj w B c) (i : Nat) (v : Value) : (w.setCell ⟨B, i, none⟩ v).heap[B]? = some (.cells (c.arr.setIfInBounds i v) 72 (0, 0)) := heap_setCell_same w B i c.arr 72 v h
theorem CObj.lt {w : World} {B : Nat} {c : ClkD} (h : CObj w B c) : B < w.heap.size := (Array.getElem?_eq_some_iff.1 h).1
theorem CObj.below {w w' : World} {B : Nat} {c : ClkD} (h : CObj w B c) (hb : Below w.heap.size w w') : CObj w' B c := (hb.block B h.lt).trans h
/-- One block alone may have been written. -/
structure Only (B : Nat) (w w' : World) : Prop where
  bel : Below B w w'
  rest : ∀ k, B < k → k < w.heap.size → w'.heap[k]? = w.heap[k]?
theorem Only.refl (B : Nat) (w : World) : Only B w w := ⟨Below.refl _ _, fun _ _ _ => rfl⟩
theorem Only.trans {B : Nat} {a b c : World} (h : Only B a b) (k : Only B b c) : Only B a c := ⟨h.bel.trans k.bel, fun i h1 h2 => (k.rest i h1 (Nat.lt_of_lt_of_le h2 h.bel.size)).trans (h.rest i h1 h2)⟩
theorem Only.setCell {B : Nat} {w w' : World} (h : Only B w w') (i : Nat) (v : Value) : Only B w (w'.setCell ⟨B, i, none⟩ v) :=
  ⟨h.bel.setCell (p := ⟨B, i, none⟩) (Nat.le_refl _) v, fun k h1 h2 => by
    have e : (w'.setCell ⟨B, i, none⟩ v).heap[k]? = w'.heap[k]? := by
      have hne : B ≠ k := by omega
      simp [World.setCell, Array.getElem?_modify, hne]
    rw [e]; exact h.rest k h1 h2⟩
theorem Only.of_below {B : Nat} {w w' : World} (h : Below w.heap.size w w') (hB : B ≤ w.heap.size) : Only B w w' := ⟨h.mono hB, fun k _ h2 => h.block k h2⟩

theorem newClock_any (t : TimesD) (w : World) : Calls Tryd.prog 21 #[t.val] w fun e w' =>
    (t.ok = false → e = .returned (.tuple #[.pointer none, .int .i64 2]) ∧ Below w.heap.size w w') ∧
    (t.ok = true → ∃ B, w.heap.size ≤ B ∧ e = .returned (.tuple #[.pointer (some ⟨B, 0, none⟩), .int .i64 0]) ∧ Below w.heap.size w w' ∧ CObj w' B ⟨t, t.total, t.total, t.outs, t.outs, -1, 0, 0⟩) := by
  have HV := hid (show t.val = .agg #[.int .i64 t.total, .int .i64 t.extra, .int .i64 t.outs, .int .i64 t.len] from rfl)
  rw [HV.out]
  go_enter Tryd.func21, Tryd.ntmps21
  go_upto_region 1 with fail
  obtain ⟨W0, e0, hz0, hb0, hc0, hf0⟩ := box_new w #[.int .i64 t.total, .int .i64 t.extra, .int .i64 t.outs, .int .i64 t.len] 47
  rw [e0]
  have c0 := hc0 0
  have c1 := hc0 1
  have c2 := hc0 2
  have c3 := hc0 3
  simp only [List.getElem?_toArray, List.getElem?_cons_zero, List.getElem?_cons_succ] at c0 c1 c2 c3
  have HB0 := hid hb0
  have HZ := hid hz0
  clear e0 hz0 hb0 hc0 hf0
  have HC := hid (checkTimes_any t W0)
  rw [HV.out] at HC
  go_wp2_with fail
  refine HC.out.mono ?_
  rintro e w1 ⟨rfl, hb1⟩
  have d0 := bcs hb1 c0
  have d1 := bcs hb1 c1
  have d2 := bcs hb1 c2
  have d3 := bcs hb1 c3
  have HB1 := hid (HB0.out.trans (hb1.mono HB0.out.size))
  clear hb1 c0 c1 c2 c3
  cases hok : t.ok with
  | false =>
    go_wp2_with fail
    go_ret2
    exact ⟨fun _ => ⟨rfl, HB1.out⟩, fun h => absurd (hok.symm.trans h) (by decide)⟩
  | true =>
    go_wp2_with fail
    go_ret2
    refine ⟨fun h => absurd (hok.symm.trans h) (by decide), fun _ => ⟨w1.heap.size, HB1.out.size, rfl, HB1.out.alloc HB1.out.size _, ?_⟩⟩
    exact heap_alloc_new _ _
end Go.Proofs.YtdbfnonpndlejaaDoor
