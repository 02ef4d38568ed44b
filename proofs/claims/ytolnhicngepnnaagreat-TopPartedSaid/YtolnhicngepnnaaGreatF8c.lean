/- fixed.Length: the call. -/
import Derived.Test.YtolnhicngepnnaaGreatF8b
namespace Go.Proofs.YtolnhicngepnnaaGreat
open Go.RowKit

set_option maxRecDepth 100000 in
theorem length16_any (x y how : Int) (w : World) : Calls Tryz.prog 154 #[.agg #[.int .i64 x, .int .i64 y], .int .i64 how] w fun e w' => e = .returned (.tuple #[.int .i64 (valX (lenR how x y)), .int .i64 (errX (lenR how x y))]) ∧ Below w.heap.size w w' := by
  obtain ⟨W1, hW1⟩ : ∃ W1, (w.alloc (.cells #[.int .i64 x, .int .i64 y] 28)).alloc (.cells #[.int .i64 how] 3) = W1 := ⟨_, rfl⟩
  have hz : W1.heap.size = w.heap.size + 2 := by rw [← hW1]; simp
  have hb1 : Below w.heap.size w W1 := by rw [← hW1]; exact ((Below.refl _ w).alloc (Nat.le_refl _) _).alloc (by simp) _
  have p1 : W1.heap[w.heap.size]? = some (.cells #[.int .i64 x, .int .i64 y] 28 (0, 0)) := by
    rw [← hW1, Below.heap_alloc _ _ _ (by simp)]; exact heap_alloc_new w _
  have q1 : W1.heap[w.heap.size + 1]? = some (.cells #[.int .i64 how] 3 (0, 0)) := by
    rw [← hW1]
    have := heap_alloc_new (w.alloc (.cells #[.int .i64 x, .int .i64 y] 28)) (.cells #[.int .i64 how] 3)
    simpa using this
  have HT := hid (tried_any 183 #[.pointer (some ⟨w.heap.size, 0, none⟩), .pointer (some ⟨w.heap.size + 1, 0, none⟩)] (lenR how x y) W1 (enters_of Tryz.func183 (by kernel_rfl) rfl) (fun W hb => len41_any x y how _ _ W (bcs hb (by simp [World.cell?, p1])) (bcs hb (by simp [World.cell?, p1])) (bcs hb (by simp [World.cell?, q1]))))
  have HW := hid hW1
  have HB := hid hb1
  have hm := run_makeFunc
  clear hW1 hb1 p1 q1
  generalize lenR how x y = r at *
  go_enter Tryz.func154, Tryz.ntmps154
  go_wp2_with fail
  rw [HW.out]
  clear HW
  refine HT.out.mono ?_
  rintro e w1 ⟨rfl, hb⟩
  go_wp2_with fail
  go_ret2
  exact ⟨rfl, btrans HB.out (by omega) hb⟩
end Go.Proofs.YtolnhicngepnnaaGreat
