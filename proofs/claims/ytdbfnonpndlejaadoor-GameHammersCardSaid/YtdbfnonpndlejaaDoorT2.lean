/- Rows of ints that a call owns. -/
import Derived.Test.YtdbfnonpndlejaaDoorT1
import Derived.Maps.AppendAt
namespace Go.Proofs.YtdbfnonpndlejaaDoor
open Go.RowKit Go.Maps

theorem info3 : (Tryd.prog.info? 3).map (fun i => (i.zero, i.size, i.bytes)) = some (some (.int .i64 0), 1, 8) := by kernel_rfl

/-- What the call owns as a row of ints reads as a slice of ints. -/
theorem own_SlI {w : World} {B n : Nat} {v : Value} {l : List Int} (h : w.ownsRow B 3 1 v n (l.map (.int .i64))) (hn : l.length ≤ 140737488351232) : SlI w v l := by
  have hlen : n = l.length := by have := h.1; simp at this; omega
  subst hlen
  rcases h.2 with ⟨rfl, h0⟩ | ⟨g, cap, cur, rfl, hg, hh, hnc, hcm, hcs, htake⟩
  · have : l = [] := List.length_eq_zero_iff.1 h0
    subst this
    exact ⟨none, 0, rfl, by simp, .inl rfl⟩
  · refine ⟨_, cap, rfl, hn, .inr ⟨g, 0, rfl, (Array.getElem?_eq_some_iff.1 hh).1, ?_⟩⟩
    intro i hi
    rw [Nat.zero_add, cell_of_row w g i cur 3 _ hh]
    have hi' : i < l.length := by simpa using hi
    have h2 : cur.toList[i]? = (l.map (Value.int .i64))[i]? := by
      rw [← htake, List.getElem?_take_of_lt (by omega)]
    rw [← Array.getElem?_toList, h2, List.getElem?_eq_getElem hi]

theorem own_below {w w' : World} {B : Nat} {t : TypeId} {sz n : Nat} {v : Value} {xs : List Value} (h : w.ownsRow B t sz v n xs) (hb : Below w.heap.size w w') : w'.ownsRow B t sz v n xs :=
  h.kept (row := none) ⟨hb.os, hb.tape, hb.output, hb.size, fun k hk _ => hb.block k hk⟩ (by cases e : v.ownBlock <;> simp)
theorem ones (x : Value) (hx : x.oneCell' = true) : ∀ u ∈ [x], u.oneCell' = true := by intro u hu; simp at hu; subst hu; exact hx
theorem nil_SlI (w : World) : SlI w (.slice none 0 0) [] := ⟨none, 0, rfl, by simp, .inl rfl⟩
end Go.Proofs.YtdbfnonpndlejaaDoor
