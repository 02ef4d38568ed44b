/- glide: Check, must, no brooms. -/
import Derived.Test.YtolnhicngepnnaaGreatW2
namespace Go.Proofs.YtolnhicngepnnaaGreat
open Go.RowKit

/-- A stone that moves. -/
abbrev movV (x y vx vy sp : Int) : Value := .agg #[.int .i64 x, .int .i64 y, .int .i64 vx, .int .i64 vy, .int .i64 sp]
def movOk (x y vx vy sp : Int) : Bool := (inB x (-6553600000) 6553600000 && inB y (-6553600000) 6553600000) && ((inB vx (-65536000) 65536000 && inB vy (-65536000) 65536000) && inB sp (-1000) 1000)
set_option maxRecDepth 100000 in
theorem check61_any (x y vx vy sp : Int) (w : World) : Calls Tryz.prog 61 #[movV x y vx vy sp] w fun e w' => e = .returned (.int .i64 (if movOk x y vx vy sp then 0 else 2)) ∧ Below w.heap.size w w' := by
  have H1 := hid (fun W => square107_any x y 6553600000 (by omega) W)
  have H2 := hid (fun W => square107_any vx vy 65536000 (by omega) W)
  have H3 := hid (fun W => within26_any sp (-1000) 1000 W)
  have HOK := hid (show movOk x y vx vy sp = ((inB x (-6553600000) 6553600000 && inB y (-6553600000) 6553600000) && ((inB vx (-65536000) 65536000 && inB vy (-65536000) 65536000) && inB sp (-1000) 1000)) from rfl)
  generalize (inB x (-6553600000) 6553600000 && inB y (-6553600000) 6553600000) = b1 at *
  generalize (inB vx (-65536000) 65536000 && inB vy (-65536000) 65536000) = b2 at *
  generalize inB sp (-1000) 1000 = b3 at *
  generalize movOk x y vx vy sp = ok at *
  obtain ⟨ans, hans⟩ : ∃ ans : Int, (if ok = true then 0 else 2) = ans := ⟨_, rfl⟩
  rw [hans]
  have HAN := hid hans
  clear hans
  obtain ⟨W1, hW1⟩ : ∃ W1, w.alloc (.cells #[.int .i64 x, .int .i64 y, .int .i64 vx, .int .i64 vy, .int .i64 sp] 39) = W1 := ⟨_, rfl⟩
  have hz : W1.heap.size = w.heap.size + 1 := by rw [← hW1]; simp
  have HB := hid (show Below w.heap.size w W1 by rw [← hW1]; exact (Below.refl _ w).alloc (Nat.le_refl _) _)
  have HC := hid (show ∀ U, Below W1.heap.size W1 U → U.cell? ⟨w.heap.size, 2, none⟩ = some (.int .i64 vx) ∧ U.cell? ⟨w.heap.size, 3, none⟩ = some (.int .i64 vy) ∧ U.cell? ⟨w.heap.size, 4, none⟩ = some (.int .i64 sp) from fun U hb => by
    have h := (hb.block w.heap.size (by omega)).trans (show W1.heap[w.heap.size]? = some (.cells #[.int .i64 x, .int .i64 y, .int .i64 vx, .int .i64 vy, .int .i64 sp] 39 (0, 0)) by rw [← hW1]; exact heap_alloc_new w _)
    exact ⟨by simp [World.cell?, h], by simp [World.cell?, h], by simp [World.cell?, h]⟩)
  have HW := hid hW1
  clear hW1
  go_enter Tryz.func61, Tryz.ntmps61
  go_wp2_with fail
  rw [HW.out]
  refine (H1.out _).mono ?_
  rintro e w2 ⟨rfl, hb2⟩
  have HB2 := hid (btrans HB.out (by omega) hb2)
  have HX2 := hid hb2
  obtain ⟨c2, c3, c4⟩ := HC.out _ hb2
  clear hb2
  cases b1 with
  | false =>
    go_wp2_with fail
    go_ret
    exact ⟨by rw [← HAN.out, HOK.out]; rfl, HB2.out⟩
  | true =>
  go_wp2_with fail
  refine (H2.out _).mono ?_
  rintro e w3 ⟨rfl, hb3⟩
  have HB3 := hid (HB2.out.trans (hb3.mono HB2.out.size))
  have HX3 := hid (HX2.out.trans (hb3.mono HX2.out.size))
  clear hb3 c2 c3 c4
  obtain ⟨c2, c3, c4⟩ := HC.out _ HX3.out
  cases b2 with
  | false =>
    go_wp2_with fail
    go_ret
    exact ⟨by rw [← HAN.out, HOK.out]; rfl, HB3.out⟩
  | true =>
  go_wp2_with fail
  refine (H3.out _).mono ?_
  rintro e w4 ⟨rfl, rfl⟩
  cases b3
  all_goals
    go_wp2_with fail
    go_ret
    exact ⟨by rw [← HAN.out, HOK.out]; rfl, HB3.out⟩
theorem must153_ok (x : Int) (w : World) : Calls Tryz.prog 153 #[.int .i64 x, .int .i64 0] w fun e w' => e = .returned (.int .i64 x) ∧ w' = w := by
  go_enter Tryz.func153, Tryz.ntmps153
  go_wp2_with fail
  go_ret
  exact ⟨rfl, rfl⟩
theorem strength112_nil (t : Int) (w : World) : Calls Tryz.prog 112 #[.slice none 0 0, .int .i64 t] w fun e w' => e = .returned (.int .i64 0) ∧ w' = w := by
  go_enter Tryz.func112, Tryz.ntmps112
  go_wp2_with fail
  go_loopw [5, 10] (fun x i wr => x = .int .i64 0 ∧ i = .int .i64 0 ∧ wr = w) (fun _ _ _ => 0)
  case atStart => exact ⟨rfl, rfl, rfl⟩
  case round =>
    obtain ⟨rfl, rfl, rfl⟩ := hrel
    go_wp2_with fail
    go_ret
    exact ⟨rfl, by first | rfl | trivial⟩
end Go.Proofs.YtolnhicngepnnaaGreat
