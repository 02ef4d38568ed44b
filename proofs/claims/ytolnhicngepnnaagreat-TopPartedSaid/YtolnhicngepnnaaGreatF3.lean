/- fixed.wide: compare, plus, up, root. -/
import Derived.Test.YtolnhicngepnnaaGreatF2
import Derived.Deep.RegionHeld3
namespace Go.Proofs.YtolnhicngepnnaaGreat
open Go.RowKit

theorem two_new (W : World) (x y : Value) (t : TypeId) (k : Nat) (hk : W.heap.size = k) : (W.alloc (.cells #[x, y] t)).cell? ⟨k, 0, none⟩ = some x ∧ (W.alloc (.cells #[x, y] t)).cell? ⟨k, 1, none⟩ = some y := by
  subst hk
  have hp := heap_alloc_new W (.cells #[x, y] t)
  generalize W.alloc (.cells #[x, y] t) = V at *
  constructor <;> simp [World.cell?, hp]
def cmpN (x y : Nat) : Int := if x < y then -1 else if y < x then 1 else 0
set_option maxRecDepth 100000 in
set_option maxHeartbeats 8000000 in
theorem compare_any (a b c d : Nat) (w : World) : Calls Tryz.prog 104 #[.agg #[.int .u64 (a : Int), .int .u64 (b : Int)], .agg #[.int .u64 (c : Int), .int .u64 (d : Int)]] w fun e w' =>
    e = .returned (.int .i64 (if cmpN a c = 0 then cmpN b d else cmpN a c)) ∧ Below w.heap.size w w' := by
  obtain ⟨W2, hW2⟩ : ∃ W2, (w.alloc (.cells #[.int .u64 (a : Int), .int .u64 (b : Int)] 149)).alloc (.cells #[.int .u64 (c : Int), .int .u64 (d : Int)] 149) = W2 := ⟨_, rfl⟩
  have hz2 : W2.heap.size = w.heap.size + 2 := by rw [← hW2]; simp
  have p2 : W2.heap[w.heap.size]? = some (.cells #[.int .u64 (a : Int), .int .u64 (b : Int)] 149 (0, 0)) := by
    rw [← hW2, Below.heap_alloc _ _ _ (by simp)]; exact heap_alloc_new w _
  have q2 : W2.heap[w.heap.size + 1]? = some (.cells #[.int .u64 (c : Int), .int .u64 (d : Int)] 149 (0, 0)) := by
    rw [← hW2]
    have := heap_alloc_new (w.alloc (.cells #[.int .u64 (a : Int), .int .u64 (b : Int)] 149)) (.cells #[.int .u64 (c : Int), .int .u64 (d : Int)] 149)
    simpa using this
  have hb2 : Below w.heap.size w W2 := by
    rw [← hW2]; exact ((Below.refl _ w).alloc (Nat.le_refl _) _).alloc (by simp) _
  have c0 : W2.cell? ⟨w.heap.size, 0, none⟩ = some (.int .u64 (a : Int)) := by simp [World.cell?, p2]
  have c1 : W2.cell? ⟨w.heap.size, 1, none⟩ = some (.int .u64 (b : Int)) := by simp [World.cell?, p2]
  have d0 : W2.cell? ⟨w.heap.size + 1, 0, none⟩ = some (.int .u64 (c : Int)) := by simp [World.cell?, q2]
  have d1 : W2.cell? ⟨w.heap.size + 1, 1, none⟩ = some (.int .u64 (d : Int)) := by simp [World.cell?, q2]
  have H1 := hid (show ∀ (p q : Nat) (W : World), Calls Tryz.prog 150 #[.int .u64 (p : Int), .int .u64 (q : Int)] W fun e w' => e = .returned (.int .i64 (cmpN p q)) ∧ w' = W from fun p q W => compareU_any p q W)
  obtain ⟨u, hu⟩ : ∃ u, cmpN a c = u := ⟨_, rfl⟩
  obtain ⟨v, hv⟩ : ∃ v, cmpN b d = v := ⟨_, rfl⟩
  obtain ⟨r, hr⟩ : ∃ r, (if u = 0 then v else u) = r := ⟨_, rfl⟩
  have H2 := hid (show ∀ (s : Nat) (W : World), W.cell? ⟨s, 0, none⟩ = some (.int .i64 u) → W.cell? ⟨s, 1, none⟩ = some (.int .i64 v) → Calls Tryz.prog 149 #[.slice (some ⟨s, 0, none⟩) 2 2] W fun e w' => e = .returned (.int .i64 r) ∧ w' = W from fun s W h0 h1 => by
    rw [← hr]; exact or2_any u v s W h0 h1)
  have HU := hid (And.intro hu hv)
  rw [hu, hv, hr]
  clear hu hv hr
  have HQ := hid (show ∀ W, Below W2.heap.size W2 W → W.cell? ⟨w.heap.size, 0, none⟩ = some (.int .u64 (a : Int)) ∧ W.cell? ⟨w.heap.size, 1, none⟩ = some (.int .u64 (b : Int)) ∧ W.cell? ⟨w.heap.size + 1, 0, none⟩ = some (.int .u64 (c : Int)) ∧ W.cell? ⟨w.heap.size + 1, 1, none⟩ = some (.int .u64 (d : Int)) from fun W hb => ⟨bcs hb c0, bcs hb c1, bcs hb d0, bcs hb d1⟩)
  have HB2 := hid hb2
  have HW2 := hid hW2
  clear p2 q2 hb2 hW2
  go_enter Tryz.func104, Tryz.ntmps104
  go_upto_region 1 with fail
  rw [HW2.out]
  clear HW2
  go_region_held3 (fun W => W.cell? ⟨w.heap.size, 0, none⟩ = some (.int .u64 (a : Int)) ∧ W.cell? ⟨w.heap.size, 1, none⟩ = some (.int .u64 (b : Int)) ∧ W.cell? ⟨w.heap.size + 1, 0, none⟩ = some (.int .u64 (c : Int)) ∧ W.cell? ⟨w.heap.size + 1, 1, none⟩ = some (.int .u64 (d : Int)))
    (exact HQ.out _ (by repeat' (first | exact Below.refl _ _ | apply Below.drew | (refine Below.alloc ?_ (by simp) _))))
    (first
      | (go_at_call 150; refine (H1.out _ _ _).mono ?_; rintro e w1 ⟨rfl, rfl⟩; simp only [HU.out.1, HU.out.2])
      | (go_at_call 149; refine (H2.out _ _ (by first | exact (two_new _ _ _ _ _ hz2).1 | exact (two_new W2 _ _ _ _ hz2).1) (by first | exact (two_new _ _ _ _ _ hz2).2 | exact (two_new W2 _ _ _ _ hz2).2)).mono ?_; rintro e w1 ⟨rfl, rfl⟩))
  all_goals
    go_wp2_with fail
    go_ret
    refine ⟨rfl, ?_⟩
    have hbb := HB2.out
    repeat' (first | exact hbb | apply Below.drew | (refine Below.alloc ?_ (show w.heap.size ≤ W2.heap.size by omega) _))
theorem compareW_any (x y : Nat) (w : World) : Calls Tryz.prog 104 #[wideV x, wideV y] w fun e w' => e = .returned (.int .i64 (cmpN x y)) ∧ Below w.heap.size w w' := by
  have h := compare_any (x / 18446744073709551616) (x % 18446744073709551616) (y / 18446744073709551616) (y % 18446744073709551616) w
  have e : (if cmpN (x / 18446744073709551616) (y / 18446744073709551616) = 0 then cmpN (x % 18446744073709551616) (y % 18446744073709551616) else cmpN (x / 18446744073709551616) (y / 18446744073709551616)) = cmpN x y := by
    unfold cmpN
    repeat' split
    all_goals omega
  rw [e] at h
  exact h
end Go.Proofs.YtolnhicngepnnaaGreat
