/- Calls of a clock that no call made. -/
import Derived.Test.YtdbfnonpndlejaaDoorK3
namespace Go.Proofs.YtdbfnonpndlejaaDoor
open Go.RowKit

/-- A pointer that is no clock. -/
def NoClk (p : Value) (w : World) : Prop := Calls Tryd.prog 53 #[p] w fun e w' => e = .returned (.bool false) ∧ w = w'
theorem noClk_nil (w : World) : NoClk (.pointer none) w := by
  unfold NoClk
  go_enter Tryd.func53, Tryd.ntmps53
  go_wp2
  go_ret
  exact ⟨rfl, rfl⟩
theorem noClk_un (B : Nat) (w : World) (h : w.cell? ⟨B, 4, none⟩ = some (.bool false)) : NoClk (.pointer (some ⟨B, 0, none⟩)) w := by
  unfold NoClk
  go_enter Tryd.func53, Tryd.ntmps53
  go_wp2
  go_ret
  exact ⟨rfl, rfl⟩
theorem wrong_none (p : Value) (w : World) (h : NoClk p w) (team t : Int) : Calls Tryd.prog 54 #[p, .int .i64 team, .int .i64 t] w fun e w' => e = .returned (.int .i64 1) ∧ w = w' := by
  have HI := hid h
  clear h
  go_enter Tryd.func54, Tryd.ntmps54
  go_wp2_with fail
  refine HI.out.mono ?_
  rintro e w' ⟨rfl, rfl⟩
  go_wp2_with fail
  go_ret
  exact ⟨rfl, rfl⟩
theorem left_none (p : Value) (w : World) (h : NoClk p w) (team t : Int) : Calls Tryd.prog 24 #[p, .int .i64 team, .int .i64 t] w fun e w' => e = .returned (.tuple #[.int .i64 0, .int .i64 1]) ∧ w = w' := by
  have HW := hid (wrong_none p w h team t)
  clear h
  go_enter Tryd.func24, Tryd.ntmps24
  go_wp2_with fail
  refine HW.out.mono ?_
  rintro e w' ⟨rfl, rfl⟩
  go_wp2_with fail
  go_ret2
  exact ⟨rfl, rfl⟩
theorem start_none (p : Value) (w : World) (h : NoClk p w) (team t : Int) : Calls Tryd.prog 25 #[p, .int .i64 team, .int .i64 t] w fun e w' => e = .returned (.int .i64 1) ∧ w = w' := by
  have HW := hid (wrong_none p w h team t)
  clear h
  go_enter Tryd.func25, Tryd.ntmps25
  go_wp2_with fail
  refine HW.out.mono ?_
  rintro e w' ⟨rfl, rfl⟩
  go_wp2_with fail
  go_ret
  exact ⟨rfl, rfl⟩
theorem out_none (p : Value) (w : World) (h : NoClk p w) (team t : Int) : Calls Tryd.prog 27 #[p, .int .i64 team, .int .i64 t] w fun e w' => e = .returned (.int .i64 1) ∧ w = w' := by
  have HW := hid (wrong_none p w h team t)
  clear h
  go_enter Tryd.func27, Tryd.ntmps27
  go_wp2_with fail
  refine HW.out.mono ?_
  rintro e w' ⟨rfl, rfl⟩
  go_wp2_with fail
  go_ret
  exact ⟨rfl, rfl⟩
theorem stop_none (p : Value) (w : World) (h : NoClk p w) (t : Int) : Calls Tryd.prog 26 #[p, .int .i64 t] w fun e w' => e = .returned (.int .i64 1) ∧ w = w' := by
  have HW := hid (wrong_none p w h 0 t)
  clear h
  go_enter Tryd.func26, Tryd.ntmps26
  go_wp2_with fail
  refine HW.out.mono ?_
  rintro e w' ⟨rfl, rfl⟩
  go_wp2_with fail
  go_ret
  exact ⟨rfl, rfl⟩
theorem extra_none (p : Value) (w : World) (h : NoClk p w) (t : Int) : Calls Tryd.prog 28 #[p, .int .i64 t] w fun e w' => e = .returned (.int .i64 1) ∧ w = w' := by
  have HW := hid (wrong_none p w h 0 t)
  clear h
  go_enter Tryd.func28, Tryd.ntmps28
  go_wp2_with fail
  refine HW.out.mono ?_
  rintro e w' ⟨rfl, rfl⟩
  go_wp2_with fail
  go_ret
  exact ⟨rfl, rfl⟩
theorem outs_none (p : Value) (w : World) (h : NoClk p w) (team : Int) : Calls Tryd.prog 38 #[p, .int .i64 team] w fun e w' => e = .returned (.tuple #[.int .i64 0, .int .i64 1]) ∧ w = w' := by
  have HW := hid h
  clear h
  go_enter Tryd.func38, Tryd.ntmps38
  go_wp2_with fail
  refine HW.out.mono ?_
  rintro e w' ⟨rfl, rfl⟩
  go_wp2_with fail
  go_ret2
  exact ⟨rfl, rfl⟩
theorem running_none (p : Value) (w : World) (h : NoClk p w) : Calls Tryd.prog 22 #[p] w fun e w' => e = .returned (.tuple #[.int .i64 (-1), .int .i64 0]) ∧ w = w' := by
  have HW := hid h
  clear h
  go_enter Tryd.func22, Tryd.ntmps22
  go_wp2_with fail
  refine HW.out.mono ?_
  rintro e w' ⟨rfl, rfl⟩
  go_wp2_with fail
  go_ret2
  exact ⟨rfl, rfl⟩
def True1 (w : World) (e : Ending) (w' : World) : Prop := e = .returned (.bool true) ∧ Below w.heap.size w w'
set_option maxRecDepth 100000 in
/-- besomlaw08.GameNone returns true. -/
theorem gameNone_any (team t : Int) (w : World) (hA : ∀ w1, Below w.heap.size w w1 → Calls Tryd.prog 10 #[] w1 fun e w' => e = .returned (.bool true) ∧ Below w1.heap.size w1 w') : Calls Tryd.prog 9 #[.int .i64 team, .int .i64 t] w (True1 w) := by
  have HA := hid hA
  clear hA
  go_enter Tryd.func9, Tryd.ntmps9
  go_upto_region 3 with fail
  obtain ⟨W2, hW2⟩ : ∃ W2, ((w.alloc (.cells #[.int .i64 0, .int .i64 0, .int .i64 0, .int .i64 0, .bool false, .int .i64 0, .int .i64 0, .int .i64 0, .int .i64 0, .int .i64 0, .int .i64 0, .int .i64 0] 72)).alloc (.cells #[.pointer none, .pointer (some ⟨w.heap.size, 0, none⟩)] 49)) = W2 := ⟨_, rfl⟩
  have k0 := heap_alloc2_new w (.cells #[.int .i64 0, .int .i64 0, .int .i64 0, .int .i64 0, .bool false, .int .i64 0, .int .i64 0, .int .i64 0, .int .i64 0, .int .i64 0, .int .i64 0, .int .i64 0] 72) (.cells #[.pointer none, .pointer (some ⟨w.heap.size, 0, none⟩)] 49)
  have k1 := heap_alloc2_old w (.cells #[.int .i64 0, .int .i64 0, .int .i64 0, .int .i64 0, .bool false, .int .i64 0, .int .i64 0, .int .i64 0, .int .i64 0, .int .i64 0, .int .i64 0, .int .i64 0] 72) (.cells #[.pointer none, .pointer (some ⟨w.heap.size, 0, none⟩)] 49)
  have HB := hid (show Below w.heap.size w W2 by rw [← hW2]; exact ((Below.refl _ _).alloc (Nat.le_refl _) _).alloc (by simp) _)
  rw [hW2] at k0 k1 ⊢
  have c0 : W2.cell? ⟨w.heap.size + 1, 0, none⟩ = some (.pointer none) := by simp [World.cell?, k0]
  have c1 : W2.cell? ⟨w.heap.size + 1, 1, none⟩ = some (.pointer (some ⟨w.heap.size, 0, none⟩)) := by simp [World.cell?, k0]
  have HN0 := hid (noClk_nil W2)
  have HN1 := hid (noClk_un w.heap.size W2 (by simp [World.cell?, k1]))
  clear hW2 k0 k1
  go_wp2_with fail
  go_loop [7] (fun i => ∃ k : Nat, k ≤ 2 ∧ i = .int .i64 k) (fun i => 2 - (intOf i).toNat)
  case atStart => exact ⟨0, by omega, rfl⟩
  case round =>
    obtain ⟨k, hk, rfl⟩ := hrel
    rcases (by omega : k = 0 ∨ k = 1 ∨ k = 2) with rfl | rfl | rfl
    · clear hk
      go_wp2_with (first
        | (go_at_call 24; refine (left_none _ _ HN0.out team t).mono ?_; rintro e w' ⟨rfl, rfl⟩)
        | (go_at_call 38; refine (outs_none _ _ HN0.out team).mono ?_; rintro e w' ⟨rfl, rfl⟩)
        | (go_at_call 22; refine (running_none _ _ HN0.out).mono ?_; rintro e w' ⟨rfl, rfl⟩)
        | (go_at_call 25; refine (start_none _ _ HN0.out team t).mono ?_; rintro e w' ⟨rfl, rfl⟩)
        | (go_at_call 26; refine (stop_none _ _ HN0.out t).mono ?_; rintro e w' ⟨rfl, rfl⟩)
        | (go_at_call 27; refine (out_none _ _ HN0.out team t).mono ?_; rintro e w' ⟨rfl, rfl⟩)
        | (go_at_call 28; refine (extra_none _ _ HN0.out t).mono ?_; rintro e w' ⟨rfl, rfl⟩))
      go_round
      case rel => exact ⟨1, by omega, rfl⟩
      case measure => simp [intOf]
    · clear hk
      go_wp2_with (first
        | (go_at_call 24; refine (left_none _ _ HN1.out team t).mono ?_; rintro e w' ⟨rfl, rfl⟩)
        | (go_at_call 38; refine (outs_none _ _ HN1.out team).mono ?_; rintro e w' ⟨rfl, rfl⟩)
        | (go_at_call 22; refine (running_none _ _ HN1.out).mono ?_; rintro e w' ⟨rfl, rfl⟩)
        | (go_at_call 25; refine (start_none _ _ HN1.out team t).mono ?_; rintro e w' ⟨rfl, rfl⟩)
        | (go_at_call 26; refine (stop_none _ _ HN1.out t).mono ?_; rintro e w' ⟨rfl, rfl⟩)
        | (go_at_call 27; refine (out_none _ _ HN1.out team t).mono ?_; rintro e w' ⟨rfl, rfl⟩)
        | (go_at_call 28; refine (extra_none _ _ HN1.out t).mono ?_; rintro e w' ⟨rfl, rfl⟩))
      go_round
      case rel => exact ⟨2, by omega, rfl⟩
      case measure => simp [intOf]
    · clear hk
      go_wp2_with fail
      refine (HA.out _ HB.out).mono ?_
      rintro e w3 ⟨rfl, hb3⟩
      have HB3 := hid (HB.out.trans (hb3.mono HB.out.size))
      clear hb3
      go_wp2_with fail
      go_ret
      exact ⟨rfl, HB3.out⟩
end Go.Proofs.YtdbfnonpndlejaaDoor
