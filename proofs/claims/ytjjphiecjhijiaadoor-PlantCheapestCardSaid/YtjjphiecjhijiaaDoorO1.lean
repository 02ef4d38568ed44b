import Derived.Test.YtjjphiecjhijiaaDoorA6
import Derived.Test.YtjjphiecjhijiaaDoorS1
import Derived.Deep.RegionLaw
import Derived.Deep.AppendLies
namespace Go.Proofs.YtjjphiecjhijiaaDoor
open Go.RowKit Go.Maps

def PlantD.coldL (p : PlantD) (k : Nat) : List Int := (List.range k).map p.cool
def PlantD.powerL (p : PlantD) (k : Nat) : List Int := (List.range k).map p.power
theorem coldL_succ (p : PlantD) (k : Nat) : p.coldL (k + 1) = p.coldL k ++ [p.cool k] := by simp [PlantD.coldL, List.range_succ]
theorem powerL_succ (p : PlantD) (k : Nat) : p.powerL (k + 1) = p.powerL k ++ [p.power k] := by simp [PlantD.powerL, List.range_succ]
theorem coldL_length (p : PlantD) (k : Nat) : (p.coldL k).length = k := by simp [PlantD.coldL]
theorem powerL_length (p : PlantD) (k : Nat) : (p.powerL k).length = k := by simp [PlantD.powerL]

/-- The boxed plant of the program: its own fields, and the cold and the power of each set of machines. -/
def PObj (w : World) (b : Nat) (p : PlantD) : Prop :=
  ∃ vl vp vm vc vw, w.cell? ⟨b, 0, none⟩ = some (.int .i64 p.heat) ∧ w.cell? ⟨b, 1, none⟩ = some (.int .i64 p.low) ∧ w.cell? ⟨b, 2, none⟩ = some (.int .i64 p.high) ∧
    w.cell? ⟨b, 3, none⟩ = some vl ∧ w.cell? ⟨b, 4, none⟩ = some vp ∧ w.cell? ⟨b, 5, none⟩ = some vm ∧ w.cell? ⟨b, 6, none⟩ = some vc ∧ w.cell? ⟨b, 7, none⟩ = some vw ∧
    SlI w vl p.loads ∧ SlI w vp p.prices ∧ SlM w vm p.machines ∧ SlI w vc (p.coldL (2 ^ p.m)) ∧ SlI w vw (p.powerL (2 ^ p.m))
theorem PObj.below {w w' : World} {b : Nat} {p : PlantD} (h : PObj w b p) (hb : Below w.heap.size w w') : PObj w' b p := by
  obtain ⟨vl, vp, vm, vc, vw, h0, h1, h2, h3, h4, h5, h6, h7, hl, hp, hm, hc, hw⟩ := h
  exact ⟨vl, vp, vm, vc, vw, bcs hb h0, bcs hb h1, bcs hb h2, bcs hb h3, bcs hb h4, bcs hb h5, bcs hb h6, bcs hb h7, hl.below hb, hp.below hb, hm.below hb, hc.below hb, hw.below hb⟩
theorem PObj.lt {w : World} {b : Nat} {p : PlantD} (h : PObj w b p) : b < w.heap.size := by
  obtain ⟨_, _, _, _, _, h0, _⟩ := h
  exact World.block_lt_of_cell? w _ h0

theorem grown_blk {wr Wa w5 : World} {r : Option Nat} (hb : Below wr.heap.size wr Wa) (hg : Wa.grownBy w5 r) {X : Nat} {o : Obj} (h : wr.heap[X]? = some o) (hne : some X ≠ r) : w5.heap[X]? = some o := by
  have hX : X < wr.heap.size := (Array.getElem?_eq_some_iff.1 h).1
  rw [hg.block X (Nat.lt_of_lt_of_le hX hb.size) hne, hb.block X hX, h]
theorem grown_own {wr Wa w5 : World} {r : Option Nat} (hb : Below wr.heap.size wr Wa) (hg : Wa.grownBy w5 r) {B sz n : Nat} {t : TypeId} {v : Value} {xs : List Value} (h : wr.ownsRow B t sz v n xs) (hne : v.ownBlock = none ∨ v.ownBlock ≠ r) : w5.ownsRow B t sz v n xs :=
  (own_below h hb).kept hg hne
theorem own_ne {w : World} {B sz n : Nat} {t : TypeId} {v : Value} {xs : List Value} (h : w.ownsRow B t sz v n xs) {X : Nat} (hX : X < B) : some X ≠ v.ownBlock := by
  intro e
  have := h.lt X e.symm
  omega
theorem own_new {w : World} {B sz n : Nat} {t : TypeId} {v : Value} {xs : List Value} (h : w.ownsRow B t sz v n xs) {X : Nat} (hX : w.heap.size ≤ X) : some X ≠ v.ownBlock := by
  intro e
  have := h.lt X e.symm
  omega
/-- Where an appended row lies: in the row that there was, or in a block that is new. -/
theorem blk_set {w : World} {X j : Nat} {cs : Array Value} {t : TypeId} (v : Value) (h : w.heap[X]? = some (.cells cs t (0, 0))) : (w.setCell ⟨X, j, none⟩ v).heap[X]? = some (.cells (cs.setIfInBounds j v) t (0, 0)) :=
  heap_setCell_same w X j cs t v h
theorem own_set {w : World} {B sz n : Nat} {t : TypeId} {v : Value} {xs : List Value} (h : w.ownsRow B t sz v n xs) {X j : Nat} (u : Value) (hX : X < B) : (w.setCell ⟨X, j, none⟩ u).ownsRow B t sz v n xs :=
  ownsRow_setCell_below h (a := ⟨X, j, none⟩) hX u


/-- Two rows of the call's own, appended to one behind the other, and laid into two cells of a box. -/
theorem two_rows {wr Wa w5 Wb w6 : World} {B X k cap5 cap6 g5 g6 Bd : Nat} {Wd : World} {vc vw a b c d e f : Value} {t : TypeId} {xs ys xs' ys' : List Value}
    (hbWa : Below wr.heap.size wr Wa) (hg5 : Wa.grownBy w5 vc.ownBlock) (hl5 : vc.ownBlock = some g5 ∨ g5 = Wa.heap.size) (hlt5 : g5 < w5.heap.size)
    (h5 : w5.ownsRow B 3 1 (.slice (some ⟨g5, 0, none⟩) (k + 1) cap5) (k + 1) xs')
    (hbWb : Below w5.heap.size w5 Wb) (hg6 : Wb.grownBy w6 vw.ownBlock) (hl6 : vw.ownBlock = some g6 ∨ g6 = Wb.heap.size)
    (h6 : w6.ownsRow B 3 1 (.slice (some ⟨g6, 0, none⟩) (k + 1) cap6) (k + 1) ys')
    (g0 : wr.ownsRow B 3 1 vc k xs) (g1 : wr.ownsRow B 3 1 vw k ys) (hn1 : vc.ownBlock = none ∨ vc.ownBlock ≠ vw.ownBlock)
    (hX : w6.heap[X]? = some (.cells #[a, b, c, d, e, f, vc, vw] t (0, 0))) (hXB : X < B) (hd : Below Bd Wd wr) (hdX : Bd ≤ X) (hdw : Bd ≤ wr.heap.size) :
    ∀ wF, (wF = (w6.setCell ⟨X, 6, none⟩ (.slice (some ⟨g5, 0, none⟩) (k + 1) cap5)).setCell ⟨X, 7, none⟩ (.slice (some ⟨g6, 0, none⟩) (k + 1) cap6) ∨
        wF = (w6.setCell ⟨X, 7, none⟩ (.slice (some ⟨g6, 0, none⟩) (k + 1) cap6)).setCell ⟨X, 6, none⟩ (.slice (some ⟨g5, 0, none⟩) (k + 1) cap5)) →
      wF.heap[X]? = some (.cells #[a, b, c, d, e, f, .slice (some ⟨g5, 0, none⟩) (k + 1) cap5, .slice (some ⟨g6, 0, none⟩) (k + 1) cap6] t (0, 0)) ∧
      wF.ownsRow B 3 1 (.slice (some ⟨g5, 0, none⟩) (k + 1) cap5) (k + 1) xs' ∧ wF.ownsRow B 3 1 (.slice (some ⟨g6, 0, none⟩) (k + 1) cap6) (k + 1) ys' ∧
      ((Value.slice (some ⟨g5, 0, none⟩) (k + 1) cap5).ownBlock = none ∨ (Value.slice (some ⟨g5, 0, none⟩) (k + 1) cap5).ownBlock ≠ (Value.slice (some ⟨g6, 0, none⟩) (k + 1) cap6).ownBlock) ∧
      ((Value.slice (some ⟨g6, 0, none⟩) (k + 1) cap6).ownBlock = none ∨ (Value.slice (some ⟨g6, 0, none⟩) (k + 1) cap6).ownBlock ≠ (Value.slice (some ⟨g5, 0, none⟩) (k + 1) cap5).ownBlock) ∧ Below Bd Wd wF := by
  have hsz1 := hbWa.size
  have hsz2 := hg5.size
  have hsz3 := hbWb.size
  have hne : g5 ≠ g6 := by
    intro hh
    subst hh
    rcases hl6 with hl6 | hl6
    · rcases hl5 with hl5 | hl5
      · rcases hn1 with h | h
        · rw [hl5] at h; cases h
        · exact h (by rw [hl5, hl6])
      · have := g1.lt _ hl6; omega
    · omega
  have hk5 : w6.ownsRow B 3 1 (.slice (some ⟨g5, 0, none⟩) (k + 1) cap5) (k + 1) xs' := by
    refine (own_below h5 hbWb).kept hg6 (.inr ?_)
    intro hh
    have hh' : some g5 = vw.ownBlock := hh
    rcases hl5 with hl5 | hl5
    · rcases hn1 with h | h
      · rw [hl5] at h; cases h
      · exact h (by rw [hl5, hh'])
    · have := g1.lt _ hh'.symm; omega
  have hb6 : Below Bd Wd w6 := by
    have h1 := hd.trans (hbWa.mono (by omega : Bd ≤ wr.heap.size))
    have h2 : Below Bd Wd w5 := h1.grown hg5 (by omega) (fun j hj => by have := (g0.lt j hj).1; omega)
    have h3 := h2.trans (hbWb.mono (by omega : Bd ≤ w5.heap.size))
    exact h3.grown hg6 (by omega) (fun j hj => by have := (g1.lt j hj).1; omega)
  intro wF hF
  refine ⟨?_, ?_, ?_, .inr ?_, .inr ?_, ?_⟩
  · rcases hF with rfl | rfl
    · exact blk_set _ (blk_set _ hX)
    · exact blk_set _ (blk_set _ hX)
  · rcases hF with rfl | rfl
    · exact own_set (own_set hk5 _ hXB) _ hXB
    · exact own_set (own_set hk5 _ hXB) _ hXB
  · rcases hF with rfl | rfl
    · exact own_set (own_set h6 _ hXB) _ hXB
    · exact own_set (own_set h6 _ hXB) _ hXB
  · simp [Value.ownBlock, hne]
  · simp [Value.ownBlock, Ne.symm hne]
  · rcases hF with rfl | rfl
    · exact (hb6.setCell (p := ⟨X, 6, none⟩) hdX _).setCell (p := ⟨X, 7, none⟩) hdX _
    · exact (hb6.setCell (p := ⟨X, 7, none⟩) hdX _).setCell (p := ⟨X, 6, none⟩) hdX _
end Go.Proofs.YtjjphiecjhijiaaDoor
