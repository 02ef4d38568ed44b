/- The opening example holds. -/
import Derived.Test.YtolnhicngepnnaaGreatI4
namespace Go.Proofs.YtolnhicngepnnaaGreat
open Go.RowKit

theorem root_two : rootX 96 131072 = .ok 92681 := by
  have h : isq (131072 * 65536) = 92681 := (isq_one (by decide)).symm
  unfold rootX
  rw [h]
  rfl
theorem slow_950 : slowN 1000 500 0 100 0 = 950 := by decide
set_option maxRecDepth 100000 in
set_option maxHeartbeats 2000000 in
theorem sound_any (w : World) : Calls Tryz.prog 10 #[] w fun e w' => e = .returned (.bool true) ∧ Below w.heap.size w w' := by
  have HR := hid (fun U => root12_any 131072 1 96 rfl (by omega) U)
  rw [root_two] at HR
  have HS := hid (fun U pv qv h1 h2 => slow13_ok 0 0 10 1 1 0 0 pv qv [100] [0] 1000 500 0 0 0 100 0 U h1 h2 (by decide) (by decide) (by decide) (by omega) (by omega))
  rw [slow_950] at HS
  go_enter Tryz.func10, Tryz.ntmps10
  go_wp2_with fail
  refine (HR.out _).mono ?_
  rintro e W1 ⟨rfl, hb1⟩
  have HB1 := hid hb1
  clear hb1 HR
  dsimp only [valX, errX]
  go_wp2_with fail
  have hA := new_SlI W1 [100] #[.int .i64 100] 3 rfl (by simp)
  have hB := new_SlI (W1.alloc (.cells #[.int .i64 100] 3)) [0] #[.int .i64 0] 3 rfl (by simp)
  rw [show (W1.alloc (.cells #[.int .i64 100] 3)).heap.size = W1.heap.size + 1 by simp] at hB
  refine (HS.out _ _ _ ((SlI.below hA ((Below.refl _ _).alloc (Nat.le_refl _) _)).below ((Below.refl _ _).alloc (Nat.le_refl _) _)) (SlI.below hB ((Below.refl _ _).alloc (Nat.le_refl _) _))).mono ?_
  rintro e W2 ⟨rfl, hb2⟩
  have HB2 := hid ((((HB1.out.alloc HB1.out.size (.cells #[.int .i64 100] 3)).alloc (by have := HB1.out.size; simp <;> omega) (.cells #[.int .i64 0] 3)).alloc (by have := HB1.out.size; simp <;> omega) _).trans (hb2.mono (by have := HB1.out.size; simp <;> omega)))
  clear hA hB hb2 HS
  go_wp2_with fail
  go_ret
  exact ⟨rfl, HB2.out⟩
end Go.Proofs.YtolnhicngepnnaaGreat
