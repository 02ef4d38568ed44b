/- awake. -/
import Derived.Test.YtjjphiecjhijiaaS11
namespace Go.Proofs.Ytjjphiecjhijiaa
open Go.RowKit

def twoS : List StoneD := [⟨0, 0, 0, 0⟩, ⟨0, 1, 0, 26214400⟩]
theorem count_two : countR twoS = (0, 2, 0) := by decide
theorem zone_one : spotOk 0 (-196608000) = true ∧ zoneR 0 (-196608000) = 1 := by decide
theorem lit_stones (w : World) : SlS (w.alloc (.cells #[.int .i64 0, .int .i64 0, .int .i64 0, .int .i64 0, .int .i64 0, .int .i64 1, .int .i64 0, .int .i64 26214400] 50)) (.slice (some ⟨w.heap.size, 0, none⟩) twoS.length 2) twoS := by
  refine ⟨_, _, rfl, by decide, .inr ⟨w.heap.size, 0, rfl, by simp, fun i hi => ?_⟩⟩
  have hp : (w.alloc (.cells #[.int .i64 0, .int .i64 0, .int .i64 0, .int .i64 0, .int .i64 0, .int .i64 1, .int .i64 0, .int .i64 26214400] 50)).heap[w.heap.size]? = some (.cells #[.int .i64 0, .int .i64 0, .int .i64 0, .int .i64 0, .int .i64 0, .int .i64 1, .int .i64 0, .int .i64 26214400] 50 (0, 0)) := heap_alloc_new w _
  have hi8 : i < 8 := hi
  generalize World.alloc w _ = W at hp ⊢
  rcases i with _ | _ | _ | _ | _ | _ | _ | _ | i <;> first | omega | simp [World.cell?, hp, twoS, StoneD.cells]
set_option maxRecDepth 100000 in
set_option maxHeartbeats 2000000 in
theorem awake_any (w : World) : Calls Try.prog 5 #[] w fun e w' => e = .returned (.bool true) ∧ Below w.heap.size w w' := by
  have hb0 : Below w.heap.size w (w.alloc (.cells #[.int .i64 0, .int .i64 0, .int .i64 0, .int .i64 0, .int .i64 0, .int .i64 1, .int .i64 0, .int .i64 26214400] 50)) := (Below.refl _ w).alloc (Nat.le_refl _) _
  have H := hid (count_any (some ⟨w.heap.size, 0, none⟩) 2 twoS _ (lit_stones w) (by rintro ad e; cases e; simp) (by decide))
  have HZ := hid (fun W => zone14_any 0 (-196608000) W)
  rw [zone_one.1, zone_one.2] at HZ
  go_enter Try.func5, Try.ntmps5
  go_wp2_with fail
  refine Calls.mono H.out ?_
  rintro e w1 ⟨rfl, hb1⟩
  rw [count_two]
  have HB1 := hid (hb0.trans (hb1.mono hb0.size))
  clear H hb0 hb1
  go_wp2_with fail
  refine (HZ.out _).mono ?_
  rintro e w2 ⟨rfl, hb2⟩
  have HB2 := hid (HB1.out.trans (hb2.mono HB1.out.size))
  clear HB1 hb2
  go_wp2_with fail
  go_ret
  exact ⟨rfl, HB2.out⟩
end Go.Proofs.Ytjjphiecjhijiaa
