/- skip.CheckRivals, besomref11.Great, skip.Value of a game that is over. -/
import Derived.Test.YtolnhicngepnnaaGreatN2
import Derived.Test.YtolnhicngepnnaaGreatN4
namespace Go.Proofs.YtolnhicngepnnaaGreat
open Go.RowKit

def CodeR (e : Ending) : Prop := e = .returned (.int .i64 0) ∨ e = .returned (.int .i64 2)
set_option maxRecDepth 100000 in
theorem index47_0 (x y : Value) (w : World) : (Instr.index 47 (.agg #[x, y]) (.int .i64 0)).run Tryz.prog w = .ok x w := by kernel_rfl
set_option maxRecDepth 100000 in
theorem index47_1 (x y : Value) (w : World) : (Instr.index 47 (.agg #[x, y]) (.int .i64 1)).run Tryz.prog w = .ok y w := by kernel_rfl
set_option maxRecDepth 100000 in
set_option maxHeartbeats 2000000 in
theorem checkRivals_any (d : Int) (v0 v1 : Value) (l0 l1 : List (List Int)) (w : World) (h0 : SlR w v0 l0) (h1 : SlR w v1 l1) : Calls Tryz.prog 72 #[.agg #[.int .i64 d, v0, v1]] w fun e w' => CodeR e ∧ Below w.heap.size w w' := by
  have HA0 := hid (fun W hb => any120_any v0 l0 W (h0.below hb))
  have HA1 := hid (fun W hb => any120_any v1 l1 W (h1.below hb))
  obtain ⟨a0, c0, rfl, -, -⟩ := h0.open
  obtain ⟨a1, c1, rfl, -, -⟩ := h1.open
  have HW := hid (fun (n : Nat) W => within34_any (n : Int) 1 8 W)
  have HWD := hid (fun W => within34_any d 1 1000 W)
  have HB := hid ((Below.refl w.heap.size w).alloc (Nat.le_refl _) (.cells #[.int .i64 d, .slice a0 l0.length c0, .slice a1 l1.length c1] 49))
  have hN := heap_alloc_new w (.cells #[.int .i64 d, .slice a0 l0.length c0, .slice a1 l1.length c1] 49)
  obtain ⟨W1, hW1⟩ : ∃ W1, w.alloc (.cells #[.int .i64 d, .slice a0 l0.length c0, .slice a1 l1.length c1] 49) = W1 := ⟨_, rfl⟩
  have hz : W1.heap.size = w.heap.size + 1 := by rw [← hW1]; simp
  rw [hW1] at HB hN
  have q0 : W1.cell? ⟨w.heap.size, 1, none⟩ = some (.slice a0 l0.length c0) := by simp [World.cell?, hN]
  have q1 : W1.cell? ⟨w.heap.size, 2, none⟩ = some (.slice a1 l1.length c1) := by simp [World.cell?, hN]
  have HC := hid (show ∀ U, Below W1.heap.size W1 U → U.cell? ⟨w.heap.size, 0, none⟩ = some (.int .i64 d) from fun U hb => by
    have := (hb.block w.heap.size (by omega)).trans hN
    simp [World.cell?, this])
  have HW1 := hid hW1
  have hind0 := index47_0 (.slice a0 l0.length c0) (.slice a1 l1.length c1)
  have hind1 := index47_1 (.slice a0 l0.length c0) (.slice a1 l1.length c1)
  clear h0 h1 hW1 hN
  go_enter Tryz.func72, Tryz.ntmps72
  go_upto_region 1 with fail
  rw [HW1.out]
  clear HW1
  go_wp2_with fail
  clear q0 q1
  go_loopw [7] (fun i wr => ∃ k : Nat, k ≤ 2 ∧ i = .int .i64 k ∧ Below W1.heap.size W1 wr) (fun i _ => 2 - (intOf i).toNat)
  case atStart => exact ⟨0, by omega, rfl, Below.refl _ _⟩
  case round =>
    obtain ⟨k, hk, rfl, hb⟩ := hrel
    have HBW := hid hb
    have HBR := hid (HB.out.trans (hb.mono HB.out.size))
    clear hb
    rcases (show k = 0 ∨ k = 1 ∨ k = 2 by omega) with rfl | rfl | rfl
    · have hx := hind0
      go_wp2_with fail
      refine (HW.out l0.length _).mono ?_
      rintro e w2 ⟨rfl, rfl⟩
      cases hb0 : inB (l0.length : Int) 1 8 with
      | false =>
        go_wp2_with fail
        go_ret
        exact ⟨.inr rfl, HBR.out⟩
      | true =>
        go_wp2_with fail
        refine (HA0.out _ HBR.out).mono ?_
        rintro e w3 ⟨rfl | rfl, hb3⟩
        · have HB3 := hid (HBR.out.trans (hb3.mono HBR.out.size))
          clear hb3
          go_wp2_with fail
          go_ret
          exact ⟨.inr rfl, HB3.out⟩
        · have HBQ := hid hb3
          clear hb3
          go_wp2_with fail
          exact ⟨⟨1, by omega, rfl, HBW.out.trans (HBQ.out.mono HBW.out.size)⟩, by simp [intOf]⟩
    · have hx := hind1
      go_wp2_with fail
      refine (HW.out l1.length _).mono ?_
      rintro e w2 ⟨rfl, rfl⟩
      cases hb1 : inB (l1.length : Int) 1 8 with
      | false =>
        go_wp2_with fail
        go_ret
        exact ⟨.inr rfl, HBR.out⟩
      | true =>
        go_wp2_with fail
        refine (HA1.out _ HBR.out).mono ?_
        rintro e w3 ⟨rfl | rfl, hb3⟩
        · have HB3 := hid (HBR.out.trans (hb3.mono HBR.out.size))
          clear hb3
          go_wp2_with fail
          go_ret
          exact ⟨.inr rfl, HB3.out⟩
        · have HBQ := hid hb3
          clear hb3
          go_wp2_with fail
          exact ⟨⟨2, by omega, rfl, HBW.out.trans (HBQ.out.mono HBW.out.size)⟩, by simp [intOf]⟩
    · have cd := HC.out _ HBW.out
      go_wp2_with fail
      refine (HWD.out _).mono ?_
      rintro e w2 ⟨rfl, rfl⟩
      cases inB d 1 1000 with
      | false =>
        go_wp2_with fail
        go_ret
        exact ⟨.inr rfl, HBR.out⟩
      | true =>
        go_wp2_with fail
        go_ret
        exact ⟨.inl rfl, HBR.out⟩
end Go.Proofs.YtolnhicngepnnaaGreat
