/- The front of a card; what Hammers answers. -/
import Derived.Test.YtdbfnonpndlejaaDoorS6
import Derived.Test.YtdbfnonpndlejaaDoorM3
import Derived.Test.YtdbfnonpndlejaaDoorT2
import Derived.Maps.OwnIn
namespace Go.Proofs.YtdbfnonpndlejaaDoor
open Go.RowKit Go.Shelf Go.Maps

/-- The front of a card, as a slice of the same block. -/
theorem SlL.take {w : World} {a : Option Addr} {n c : Nat} {l : List LineD} (h : SlL w (.slice a n c) l) (i : Nat) (hi : i ≤ l.length) : SlL w (.slice a i c) (l.take i) := by
  obtain ⟨a', cap, e, hn, hc⟩ := h
  obtain ⟨rfl, -, rfl⟩ := Value.slice.inj e
  have hlen : (l.take i).length = i := by simp; omega
  refine ⟨a, c, by rw [hlen], by omega, ?_⟩
  rw [hlen]
  by_cases h0 : i = 0
  · exact .inl h0
  · refine .inr ?_
    rcases hc with hz | ⟨b, off, rfl, hlt, hc⟩
    · omega
    · refine ⟨b, off, rfl, hlt, fun j hj => ?_⟩
      have hpre : l.flatMap LineD.cells = (l.take i).flatMap LineD.cells ++ (l.drop i).flatMap LineD.cells := by
        rw [← List.flatMap_append, List.take_append_drop]
      have hj2 : j < (l.flatMap LineD.cells).length := by
        rw [hpre, List.length_append]; omega
      have := hc j hj2
      rw [this]
      congr 1
      simp only [hpre]
      exact List.getElem_append_left hj
def HamPost (r : List Int × Int) (w : World) (e : Ending) (w' : World) : Prop := (∃ v, e = .returned (.tuple #[v, .int .i64 r.2]) ∧ SlI w' v r.1) ∧ Below w.heap.size w w'
end Go.Proofs.YtdbfnonpndlejaaDoor
