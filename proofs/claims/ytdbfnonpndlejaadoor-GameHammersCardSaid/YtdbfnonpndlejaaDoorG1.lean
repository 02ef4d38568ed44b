/- Standings compared with themselves. -/
import Derived.Test.YtdbfnonpndlejaaDoorB6
import Derived.Laws.StructEq
namespace Go.Proofs.YtdbfnonpndlejaaDoor
open Go.RowKit

theorem Below.trans2 {w w1 w2 : World} {B : Nat} (h : Below B w w1) (hb : B ≤ w.heap.size) (h2 : Below w1.heap.size w1 w2) : Below B w w2 := h.trans (h2.mono (Nat.le_trans hb h.size))
theorem eq27n (a b : Bool) (n : Nat) (w : World) : (Op.equalIn (n + 2) 27 (.agg #[.bool a, .bool b]) (.agg #[.bool a, .bool b])).run Tryd.prog w = .ok true w := by
  obtain ⟨i0, hi⟩ := info_of_underlying Tryd.underlying4
  have hc : Tryd.prog.cellsOf 4 = 1 := by kernel_rfl
  rw [run_equalIn_array (P := Tryd.prog) (w := w) (n + 1) (xs := #[.bool a, .bool b]) (ys := #[.bool a, .bool b]) (hu := Tryd.underlying27) (hi := hi), hc]
  simp only [show List.range 2 = [0, 1] from rfl, Op.eqItems]
  simp [go_sem]
theorem fields29 : (Tryd.prog.fieldsOf 29).toList = [⟨"Points", 26, 0, false, "", "", 0⟩, ⟨"Ends", 3, 2, false, "", "", 16⟩, ⟨"Hammer", 3, 3, false, "", "", 24⟩, ⟨"Winner", 3, 4, false, "", "", 32⟩, ⟨"Over", 4, 5, false, "", "", 40⟩, ⟨"Extra", 4, 6, false, "", "", 41⟩, ⟨"Powers", 27, 7, false, "", "", 42⟩] := by
  unfold Program.fieldsOf
  rw [Tryd.underlying29]
theorem eq29 (s : StD) (n : Nat) (w : World) : (Op.equalIn (n + 4) 29 s.val s.val).run Tryd.prog w = .ok true w := by
  unfold StD.val StD.arr
  rw [run_equalIn_struct w (n + 3) 29 _ _ (by kernel_rfl) (by kernel_rfl), fields29]
  have h26 := fun a b w => eq26n a b a b (n + 1) w
  have h27 := fun a b w => eq27n a b (n + 1) w
  simp [Op.eqFields, go_sem, h26, h27]
theorem eq29s (s : StD) (w : World) : (Op.equalIn 10000 29 s.val s.val).run Tryd.prog w = .ok true w := eq29 s 9996 w
end Go.Proofs.YtdbfnonpndlejaaDoor
