import Derived.Test.YtjjphiecjhijiaaDoorC4
import Derived.RangeFuncOwn
namespace Go.Proofs.YtjjphiecjhijiaaDoor
open Go.RowKit Go.Maps

theorem map_row {K : Type} [DecidableEq K] {enc : K → Value} {w : World} {b : Nat} {M : K → Option Value} (h : MapF enc w b M) : ∀ r, some b = some r → ∃ o : Obj, w.heap[r]? = some o ∧ o.isCells = false := by
  obtain ⟨m, ⟨es, clock, hb, _⟩, _⟩ := h
  intro r e
  obtain rfl := Option.some.inj e
  exact ⟨_, hb, rfl⟩
theorem SlV.kept {K : Type} [DecidableEq K] {enc : K → Value} {w w' : World} {bm n : Nat} {M : K → Option Value} {v : Value} {vs : List Value} (h : SlV w v n vs) (hm : MapF enc w bm M) (hg : w.grownBy w' (some bm)) : SlV w' v n vs := by
  obtain ⟨a, cap, rfl, hn, hc⟩ := h
  refine ⟨a, cap, rfl, hn, hc.imp id ?_⟩
  rintro ⟨b, off, rfl, hlt, hcell⟩
  exact ⟨b, off, rfl, Nat.lt_of_lt_of_le hlt hg.size, fun i hi => cell_kept (hcell i hi) hg (map_row hm)⟩
theorem PlantV.kept {K : Type} [DecidableEq K] {enc : K → Value} {w w' : World} {bm : Nat} {M : K → Option Value} {v : Value} {p : PlantD} (h : PlantV w v p) (hm : MapF enc w bm M) (hg : w.grownBy w' (some bm)) : PlantV w' v p := by
  obtain ⟨vl, vp, vm, rfl, h1, h2, h3⟩ := h
  exact ⟨vl, vp, vm, rfl, SlV.kept h1 hm hg, SlV.kept h2 hm hg, SlV.kept h3 hm hg⟩
theorem below_grown {w w' : World} (h : Below w.heap.size w w') (r : Option Nat) : w.grownBy w' r := ⟨h.os, h.tape, h.output, h.size, fun k hk _ => h.block k hk⟩

/-- The least cost, or -1. -/
def lstO : Option (Int × Nat) → Int
  | none => -1
  | some c => c.1
def PlantD.lst (p : PlantD) (r : Nat) (s : Int × Int) : Int := lstO (p.bst r s)
def MemoF (p : PlantD) (w : World) (bm : Nat) : Prop := ∃ M, MapF enc3 w bm M ∧ ∀ (h : Nat) (heat : Int) (bf : Nat) (v : Value), M ((h : Int), heat, (bf : Int)) = some v → v = .int .i64 (p.lst (p.loads.length - h) (heat, (bf : Int)))
theorem MemoF.below {p : PlantD} {w w' : World} {bm : Nat} (h : MemoF p w bm) (hb : Below w.heap.size w w') : MemoF p w' bm := by
  obtain ⟨M, h1, h2⟩ := h
  exact ⟨M, h1.below' hb, h2⟩
theorem MemoF.lt {p : PlantD} {w : World} {bm : Nat} (h : MemoF p w bm) : bm < w.heap.size := by obtain ⟨M, h1, _⟩ := h; exact h1.lt
theorem MemoF.plant {p : PlantD} {w w' : World} {bm : Nat} {v : Value} (h : MemoF p w bm) (hp : PlantV w v p) (hg : w.grownBy w' (some bm)) : PlantV w' v p := by
  obtain ⟨M, h1, _⟩ := h
  exact hp.kept h1 hg
theorem MemoF.made (p : PlantD) (w : World) : MemoF p (w.alloc (.map #[] 0)) w.heap.size := ⟨_, MapF.made w, fun _ _ _ _ h => by cases h⟩
theorem MemoF.look {p : PlantD} {w : World} {bm : Nat} (h : MemoF p w bm) (hr : Nat) (heat : Int) (bf : Nat) :
    ∃ (x : Int) (o : Bool), (∀ w', Below w.heap.size w w' → (Instr.lookup 79 (.map (some bm)) (.agg #[.int .i64 hr, .int .i64 heat, .int .i64 bf]) true).run Tryd.prog w' = .ok (.tuple #[.int .i64 x, .bool o]) w') ∧ (o = true → x = p.lst (p.loads.length - hr) (heat, (bf : Int))) := by
  obtain ⟨M, h1, h2⟩ := h
  have hz : ∀ w' : World, (zeroValue 3).run Tryd.prog w' = .ok (.int .i64 0) w' := fun w' => by kernel_rfl
  have hl := fun w' (hb : Below w.heap.size w w') => MapF.lookup_ok key81 Tryd.underlying79 (h1.below' hb) (hz w') ((hr : Int), heat, (bf : Int))
  cases e : M ((hr : Int), heat, (bf : Int)) with
  | none =>
    refine ⟨0, false, fun w' hb => ?_, by simp⟩
    have := hl w' hb
    rw [e] at this
    exact this
  | some v =>
    obtain rfl := h2 _ _ _ _ e
    refine ⟨_, true, fun w' hb => ?_, fun _ => rfl⟩
    have := hl w' hb
    rw [e] at this
    exact this
theorem MemoF.add {p : PlantD} {w : World} {bm : Nat} (h : MemoF p w bm) (hr : Nat) (heat : Int) (bf : Nat) (x : Int) (hx : x = p.lst (p.loads.length - hr) (heat, (bf : Int))) :
    ∃ w', (Instr.mapUpdate 79 (.map (some bm)) (.agg #[.int .i64 hr, .int .i64 heat, .int .i64 bf]) (.int .i64 x)).run Tryd.prog w = .ok () w' ∧ MemoF p w' bm ∧ w.grownBy w' (some bm) := by
  obtain ⟨M, h1, h2⟩ := h
  obtain ⟨w', hr', hm, hg, hs⟩ := MapF.update key81 Tryd.underlying79 h1 ((hr : Int), heat, (bf : Int)) (.int .i64 x)
  refine ⟨w', hr', ⟨_, hm, ?_⟩, hg⟩
  intro h' heat' bf' v hv
  by_cases e : (((h' : Int), heat', (bf' : Int)) : Int × Int × Int) = ((hr : Int), heat, (bf : Int))
  · rw [if_pos e] at hv
    obtain rfl := Option.some.inj hv
    simp only [Prod.mk.injEq] at e
    obtain ⟨e1, e2, e3⟩ := e
    obtain rfl : h' = hr := by omega
    obtain rfl : bf' = bf := by omega
    rw [hx, e2]
  · rw [if_neg e] at hv
    exact h2 _ _ _ _ hv
theorem lst_bd {p : PlantD} (ho : p.Ok) (r : Nat) (s : Int × Int) : -1 ≤ p.lst r s ∧ p.lst r s ≤ r * 4000004000000 := by
  unfold PlantD.lst
  cases e : p.bst r s with
  | none => simp [lstO]; omega
  | some c => have := bst_bd ho r s c e; simp only [lstO]; omega
theorem lst_neg {p : PlantD} (ho : p.Ok) (r : Nat) (s : Int × Int) : p.lst r s < 0 ↔ p.bst r s = none := by
  unfold PlantD.lst
  cases e : p.bst r s with
  | none => simp [lstO]
  | some c => have := bst_bd ho r s c e; simp only [lstO]; constructor <;> intro h <;> first | omega | cases h
end Go.Proofs.YtjjphiecjhijiaaDoor
