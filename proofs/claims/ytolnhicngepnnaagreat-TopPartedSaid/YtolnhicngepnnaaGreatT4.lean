/- fixed.Times whole, cut towards 0. -/
import Derived.Test.YtolnhicngepnnaaGreatT3
namespace Go.Proofs.YtolnhicngepnnaaGreat
open Go.RowKit

set_option maxRecDepth 100000 in
set_option maxHeartbeats 2000000 in
theorem times141_cut (ax ay b : Int) (hx : okF ax = true) (hy : okF ay = true) (hb : okF b = true) (h1 : ax.natAbs * b.natAbs ≤ 70368744177664 * 65536) (h2 : ay.natAbs * b.natAbs ≤ 70368744177664 * 65536) (w : World) :
    Calls Tryz.prog 141 #[.agg #[.int .i64 ax, .int .i64 ay], .int .i64 b, .int .i64 0] w fun e w' => e = .returned (.tuple #[.agg #[.int .i64 (cutZ ax b 65536), .int .i64 (cutZ ay b 65536)], .int .i64 0]) ∧ Below w.heap.size w w' := by
  obtain ⟨W1, hW1, hz, hb1, p1, p2, p3, p4⟩ := four_new w (.cells #[.int .i64 ax, .int .i64 ay] 28) (.cells #[.int .i64 b] 22) (.cells #[.int .i64 0] 3) (.cells #[.int .i64 0, .int .i64 0] 28)
  have HT := hid (triedR_ok 176 #[.pointer (some ⟨w.heap.size, 0, none⟩), .pointer (some ⟨w.heap.size + 1, 0, none⟩), .pointer (some ⟨w.heap.size + 1 + 1, 0, none⟩)] 95 W1 (enters_of Tryz.func176 (by kernel_rfl) rfl) (fun W hb' => times176_any ax ay b 0 95 rfl hx hy hb _ _ _ W (bcs hb' (by simp [World.cell?, p1])) (bcs hb' (by simp [World.cell?, p1])) (bcs hb' (by simp [World.cell?, p2])) (bcs hb' (by simp [World.cell?, p3]))))
  have hm1 := mul_cut ax b (Nat.div_le_of_le_mul (by rw [Nat.mul_comm 65536]; exact h1))
  have hm2 := mul_cut ay b (Nat.div_le_of_le_mul (by rw [Nat.mul_comm 65536]; exact h2))
  have HE := hid (fun (pb pf : Nat) (W : World) (c0 : W.cell? ⟨pb, 0, none⟩ = some (.int .i64 b)) (c1 : W.cell? ⟨pf, 0, none⟩ = some (.func (.func 95) #[] #[])) =>
    each164_any (fun u _ => mulX 95 u b) 177 #[.pointer (some ⟨pb, 0, none⟩), .pointer (some ⟨pf, 0, none⟩)] ax ay ax ay W (enters_of Tryz.func177 (by kernel_rfl) rfl) (fun u v hu _ hk U hU => times177_any 95 (.inl rfl) u b hu hb (by rcases hk with rfl | rfl <;> omega) _ _ _ U (bcs hU c0) (bcs hU c1)))
  have hr : eachR (fun u _ => mulX 95 u b) ax ay ax ay = .ok (cutZ ax b 65536, cutZ ay b 65536) := by
    unfold eachR
    rw [hx, hy]
    simp only [Bool.and_self, if_true]
    rw [hm1, hm2]
  rw [hr] at HE
  unfold outS at HE
  rw [show errS (.ok (cutZ ax b 65536, cutZ ay b 65536)) = 0 from rfl, show (valS (.ok (cutZ ax b 65536, cutZ ay b 65536))).1 = cutZ ax b 65536 from rfl, show (valS (.ok (cutZ ax b 65536, cutZ ay b 65536))).2 = cutZ ay b 65536 from rfl] at HE
  generalize cutZ ax b 65536 = rx at *
  generalize cutZ ay b 65536 = ry at *
  have hm := run_makeFunc
  have HB := hid hb1
  have HW := hid hW1
  have HP := hid (And.intro p1 (And.intro p2 p4))
  have HZ := hid hz
  clear hW1 hb1 p1 p2 p3 p4 hx hy hb h1 h2 hm1 hm2 hr hz
  go_enter Tryz.func141, Tryz.ntmps141
  go_upto_region 1 with fail
  rw [HW.out]
  clear HW
  go_wp2_with fail
  refine HT.out.mono ?_
  rintro e w1 ⟨rfl, hb2⟩
  have HB2 := hid (btrans HB.out (by have := HZ.out; omega) hb2)
  have HP2 := hid (show w1.heap[w.heap.size]? = some (.cells #[.int .i64 ax, .int .i64 ay] 28 (0, 0)) ∧ w1.heap[w.heap.size + 1]? = some (.cells #[.int .i64 b] 22 (0, 0)) ∧ w1.heap[w.heap.size + 1 + 1 + 1]? = some (.cells #[.int .i64 0, .int .i64 0] 28 (0, 0)) from
    ⟨(hb2.block _ (by have := HZ.out; omega)).trans HP.out.1, (hb2.block _ (by have := HZ.out; omega)).trans HP.out.2.1, (hb2.block _ (by have := HZ.out; omega)).trans HP.out.2.2⟩)
  have HS2 := hid (show w.heap.size + 4 ≤ w1.heap.size by have := HZ.out; have := hb2.size; omega)
  clear hb2 HT HB HP
  obtain ⟨c0, c1, -, -⟩ := cells2 HP2.out.1
  have c2 : w1.cell? ⟨w.heap.size + 1, 0, none⟩ = some (.int .i64 b) := by simp [World.cell?, HP2.out.2.1]
  have HB3 := hid (HB2.out.alloc HB2.out.size (.cells #[.func (.func 95) #[] #[]] 138))
  have HP3 := hid (show ((w1.alloc (.cells #[.func (.func 95) #[] #[]] 138)).cell? ⟨w.heap.size, 0, none⟩ = some (.int .i64 ax) ∧ (w1.alloc (.cells #[.func (.func 95) #[] #[]] 138)).cell? ⟨w.heap.size, 1, none⟩ = some (.int .i64 ay)) ∧ (w1.alloc (.cells #[.func (.func 95) #[] #[]] 138)).cell? ⟨w.heap.size + 1, 0, none⟩ = some (.int .i64 b) ∧ (w1.alloc (.cells #[.func (.func 95) #[] #[]] 138)).heap[w.heap.size + 1 + 1 + 1]? = some (.cells #[.int .i64 0, .int .i64 0] 28 (0, 0)) ∧ (w1.alloc (.cells #[.func (.func 95) #[] #[]] 138)).cell? ⟨w1.heap.size, 0, none⟩ = some (.func (.func 95) #[] #[]) from by
    have hk := (Below.refl w1.heap.size w1).alloc (Nat.le_refl _) (.cells #[.func (.func 95) #[] #[]] 138)
    refine ⟨⟨bcs hk c0, bcs hk c1⟩, bcs hk c2, ?_, cell_new' _ _ _ 0 _ rfl⟩
    rw [Below.heap_alloc _ _ _ (by have := HS2.out; omega)]; exact HP2.out.2.2)
  have HS3 := hid (show w1.heap.size < (w1.alloc (.cells #[.func (.func 95) #[] #[]] 138)).heap.size by simp)
  clear c0 c1 c2
  go_upto_region 4 with fail
  generalize w1.alloc (.cells #[.func (.func 95) #[] #[]] 138) = W3 at *
  obtain ⟨⟨c0, c1⟩, -⟩ := HP3.out
  go_wp2_with fail
  refine (HE.out _ _ _ HP3.out.2.1 HP3.out.2.2.2).mono ?_
  rintro e w2 ⟨rfl, hb4⟩
  have HP4 := hid ((hb4.block (w.heap.size + 1 + 1 + 1) (by have := HS2.out; have := HS3.out; omega)).trans HP3.out.2.2.1)
  obtain ⟨g0, g1, f0, f1⟩ := cells2 HP4.out
  have HB4 := hid (btrans HB3.out (Nat.le_refl _) hb4)
  clear hb4 HE HB3 HP3 c0 c1
  go_wp2_with fail
  have hp := put2_same (.int .i64 rx) (.int .i64 ry) HP4.out
  have hb9 := (HB4.out.setCell (p := ⟨w.heap.size + 1 + 1 + 1, 0, none⟩) (by simp; omega) (.int .i64 rx)).setCell (p := ⟨w.heap.size + 1 + 1 + 1, 1, none⟩) (by simp; omega) (.int .i64 ry)
  generalize (w2.setCell ⟨w.heap.size + 1 + 1 + 1, 0, none⟩ (.int .i64 rx)).setCell ⟨w.heap.size + 1 + 1 + 1, 1, none⟩ (.int .i64 ry) = W9 at *
  refine bodyPost_ret (results_w2 rfl _ _ _ ⟨w.heap.size + 1 + 1 + 1, 0, none⟩ _ rfl (load28 W9 (w.heap.size + 1 + 1 + 1) (.int .i64 rx) (.int .i64 ry) (by simp [World.cell?, hp]) (by simp [World.cell?, hp]))) rfl ⟨rfl, hb9⟩
end Go.Proofs.YtolnhicngepnnaaGreat
