/- ice.Slow, and the opening example. -/
import Derived.Test.YtolnhicngepnnaaGreatI3
namespace Go.Proofs.YtolnhicngepnnaaGreat
open Go.RowKit

/-- A quotient rounded to the nearest one. -/
def nearN (x d : Nat) : Nat := quoM 98 x d false
theorem nearN_le {x d m : Nat} (_hd : 0 < d) (h : x ≤ m * d) : nearN x d ≤ m := by
  have h1 : x / d ≤ m := Nat.div_le_of_le_mul (by rw [Nat.mul_comm]; exact h)
  unfold nearN quoM
  split
  · next h2 =>
    have h3 : x / d < m := by
      refine Nat.div_lt_of_lt_mul ?_
      rw [Nat.mul_comm]
      rcases Nat.lt_or_ge x (m * d) with h4 | h4
      · exact h4
      · have h5 : x = m * d := Nat.le_antisymm h h4
        rw [h5, Nat.mul_mod_left] at h2
        omega
    split <;> omega
  · exact h1
theorem scaleN_any (x n d : Nat) (hx : x ≤ 70368744177664) (hn : n ≤ 2147483648) (hd : d ≤ 2147483648) (hd0 : 0 < d) (hp : x * n < 18446744073709551616) (hr : nearN (x * n) d ≤ 70368744177664) (w : World) :
    Calls Tryz.prog 55 #[.int .i64 (x : Int), .int .i64 (n : Int), .int .i64 (d : Int), .int .i64 3] w fun e w' => e = .returned (.tuple #[.int .i64 (nearN (x * n) d : Nat), .int .i64 0]) ∧ Below w.heap.size w w' := by
  have h := scale23_any (x : Int) (n : Int) (d : Int) 3 98 rfl (by simp [okF]; omega) (by omega) (by omega) (by omega) (by simpa using hp) w
  have e : scaleX 98 (x : Int) (n : Int) (d : Int) = .ok ((nearN (x * n) d : Nat) : Int) := by
    unfold scaleX
    rw [show (decide ((x : Int) < 0) != (decide ((n : Int) < 0) != decide ((d : Int) < 0))) = false by
      rw [decide_eq_false (by omega), decide_eq_false (by omega), decide_eq_false (by omega)]; rfl]
    rw [Int.natAbs_natCast, Int.natAbs_natCast, Int.natAbs_natCast]
    show signX (nearN (x * n) d) false = _
    rw [signX, if_pos hr]; rfl
  rw [e] at h
  exact h
/-- What ice.slow answers: the brake. -/
def slowN (fl kn a pe po : Nat) : Nat := nearN ((fl - nearN ((fl - kn) * pe) 1000) * (1000000 - a * po)) 1000000
theorem slowN_le (fl kn a pe po : Nat) (_hf : fl ≤ 65536) : slowN fl kn a pe po ≤ fl := by
  refine nearN_le (by omega) ?_
  exact Nat.mul_le_mul (Nat.sub_le _ _) (Nat.sub_le _ _)
set_option maxRecDepth 100000 in
set_option maxHeartbeats 2000000 in
theorem slow37_any (cx cy sd W H px py : Int) (pv qv : Value) (pl ql : List Int) (fl kn a : Nat) (b c : Int) (pe po : Nat) (w : World) (hs : 1 ≤ sd ∧ sd ≤ 6553600000) (hw : 1 ≤ W ∧ W ≤ 256) (hh : 1 ≤ H ∧ H ≤ 256) (hc : spotOk cx cy = true) (hp : spotOk px py = true) (hpv : SlI w pv pl) (hqv : SlI w qv ql) (hpl : (pl.length : Int) = W * H) (hql : (ql.length : Int) = W * H)
    (hfl : fl ≤ 65536) (hkn : kn ≤ fl) (ha : a ≤ 1000) (hpe : grR pl (px - cx) (py - cy) sd W H = (pe : Int)) (hpo : grR ql (px - cx) (py - cy) sd W H = (po : Int)) (hpe2 : pe ≤ 1000) (hpo2 : po ≤ 1000) :
    Calls Tryz.prog 23 #[iceV cx cy sd W H pv qv, grainV fl kn a b c, .agg #[.int .i64 px, .int .i64 py]] w fun e w' => e = .returned (.int .i64 (slowN fl kn a pe po : Nat)) ∧ Below w.heap.size w w' := by
  have HG := hid (fun U hb => grains65_any cx cy sd W H px py pv qv pl ql U hs hw hh hc hp (SlI.below hpv hb) (SlI.below hqv hb) hpl hql)
  rw [hpe, hpo] at HG
  have hm1 : (fl - kn) * pe ≤ 65536 * 1000 := Nat.mul_le_mul (by omega) hpe2
  have hm2 : a * po ≤ 1000 * 1000 := Nat.mul_le_mul ha hpo2
  have hn1 : nearN ((fl - kn) * pe) 1000 ≤ fl - kn := nearN_le (by omega) (Nat.mul_le_mul_left _ hpe2)
  have hn2 : slowN fl kn a pe po ≤ fl := slowN_le fl kn a pe po hfl
  have HS1 := hid (fun U => scaleN_any (fl - kn) pe 1000 (by omega) (by omega) (by omega) (by omega) (by omega) (by omega) U)
  have HX := hid (show slowN fl kn a pe po = nearN ((fl - nearN ((fl - kn) * pe) 1000) * (1000000 - a * po)) 1000000 from rfl)
  rw [HX.out] at hn2
  have hm3 : (fl - nearN ((fl - kn) * pe) 1000) * (1000000 - a * po) ≤ 65536 * 1000000 := Nat.mul_le_mul (by omega) (by omega)
  have HS2 := hid (fun U => scaleN_any (fl - nearN ((fl - kn) * pe) 1000) (1000000 - a * po) 1000000 (by omega) (by omega) (by omega) (by omega) (by omega) (by omega) U)
  rw [← HX.out] at HS2
  generalize nearN ((fl - kn) * pe) 1000 = c1 at *
  have HI1 := hid (show ((fl - kn : Nat) : Int) = (fl : Int) - kn by omega)
  have HI2 := hid (show ((fl - c1 : Nat) : Int) = (fl : Int) - c1 by omega)
  have HI3 := hid (show ((1000000 - a * po : Nat) : Int) = 1000000 - (a : Int) * po by rw [← Int.natCast_mul]; omega)
  rw [HI1.out] at HS1
  rw [HI2.out, HI3.out] at HS2
  have hI2 : (a : Int) * po ≤ 1000000 := by rw [← Int.natCast_mul]; omega
  have hI3 : 0 ≤ (a : Int) * po := by rw [← Int.natCast_mul]; omega
  generalize slowN fl kn a pe po = res at *
  obtain ⟨pa, pc, rfl, -, -⟩ := hpv.open
  obtain ⟨qa, qc, rfl, -, -⟩ := hqv.open
  obtain ⟨W1, hW1⟩ : ∃ W1, ((w.alloc (.cells #[.int .i64 cx, .int .i64 cy, .int .i64 sd, .int .i64 W, .int .i64 H, .slice pa pl.length pc, .slice qa ql.length qc] 31)).alloc (.cells #[.int .i64 fl, .int .i64 kn, .int .i64 a, .int .i64 b, .int .i64 c] 24)).alloc (.cells #[.int .i64 px, .int .i64 py] 28) = W1 := ⟨_, rfl⟩
  have hz : W1.heap.size = w.heap.size + 3 := by rw [← hW1]; simp
  have hb1 : Below w.heap.size w W1 := by rw [← hW1]; exact (((Below.refl _ w).alloc (Nat.le_refl _) _).alloc (by simp) _).alloc (by simp <;> omega) _
  have b1 : W1.heap[w.heap.size + 1]? = some (.cells #[.int .i64 fl, .int .i64 kn, .int .i64 a, .int .i64 b, .int .i64 c] 24 (0, 0)) := by
    rw [← hW1, Below.heap_alloc _ _ _ (by simp)]
    simpa using heap_alloc_new (w.alloc (.cells #[.int .i64 cx, .int .i64 cy, .int .i64 sd, .int .i64 W, .int .i64 H, .slice pa pl.length pc, .slice qa ql.length qc] 31)) (.cells #[.int .i64 fl, .int .i64 kn, .int .i64 a, .int .i64 b, .int .i64 c] 24)
  have HB := hid hb1
  have HB1 := hid b1
  have HW := hid hW1
  clear hs hw hh hc hp hpv hqv hpl hql hpe hpo hb1 b1 hW1 HX HI1 HI2 HI3 hm1 hm2 hm3
  go_enter Tryz.func23, Tryz.ntmps23
  go_wp2_with fail
  rw [HW.out]
  refine (HG.out _ HB.out).mono ?_
  rintro e W2 ⟨rfl, hb2⟩
  have hblk := (hb2.block (w.heap.size + 1) (by omega)).trans HB1.out
  have HB2 := hid (btrans HB.out (by omega) hb2)
  have HBK := hid hblk
  have q0 : W2.cell? ⟨w.heap.size + 1, 0, none⟩ = some (.int .i64 (fl : Int)) := by simp [World.cell?, hblk]
  have q1 : W2.cell? ⟨w.heap.size + 1, 1, none⟩ = some (.int .i64 (kn : Int)) := by simp [World.cell?, hblk]
  have hz2 := hb2.size
  clear hblk HB HW HB1 hb2 HG
  go_wp2_with fail
  refine (HS1.out _).mono ?_
  rintro e W3 ⟨rfl, hb3⟩
  have hblk := (hb3.block (w.heap.size + 1) (by omega)).trans HBK.out
  have HB3 := hid (HB2.out.trans (hb3.mono HB2.out.size))
  clear q0 q1
  have q0 : W3.cell? ⟨w.heap.size + 1, 0, none⟩ = some (.int .i64 (fl : Int)) := by simp [World.cell?, hblk]
  have q1 : W3.cell? ⟨w.heap.size + 1, 1, none⟩ = some (.int .i64 (kn : Int)) := by simp [World.cell?, hblk]
  have q2 : W3.cell? ⟨w.heap.size + 1, 2, none⟩ = some (.int .i64 (a : Int)) := by simp [World.cell?, hblk]
  clear hblk HB2 HBK hb3 HS1
  go_wp2_with fail
  refine (HS2.out _).mono ?_
  rintro e W4 ⟨rfl, hb4⟩
  go_wp2_with fail
  go_ret
  exact ⟨rfl, HB3.out.trans (hb4.mono HB3.out.size)⟩
set_option maxRecDepth 100000 in
theorem slow13_ok (cx cy sd W H px py : Int) (pv qv : Value) (pl ql : List Int) (fl kn a : Nat) (b c : Int) (pe po : Nat) (w : World) (hpv : SlI w pv pl) (hqv : SlI w qv ql) (hR : rightR cx cy sd W H pl ql fl kn a b c [(px, py)] = true)
    (hpe : grR pl (px - cx) (py - cy) sd W H = (pe : Int)) (hpo : grR ql (px - cx) (py - cy) sd W H = (po : Int)) (hpe2 : pe ≤ 1000) (hpo2 : po ≤ 1000) :
    Calls Tryz.prog 9 #[iceV cx cy sd W H pv qv, grainV fl kn a b c, .agg #[.int .i64 px, .int .i64 py]] w fun e w' => e = .returned (.tuple #[.int .i64 (slowN fl kn a pe po : Nat), .int .i64 0]) ∧ Below w.heap.size w w' := by
  have hr2 := hR
  simp only [rightR, iceOk, grainOk, placedR, Bool.and_eq_true, inB, List.any_cons, List.any_nil, Bool.or_false, Bool.not_not, decide_eq_true_eq, beq_iff_eq] at hr2
  obtain ⟨⟨hc, hs, hw, hh, hpl, hql, -, -⟩, ⟨⟨-, hkn⟩, hfl, ha, -, -⟩, hp⟩ := hr2
  have HS := hid (fun U hb => slow37_any cx cy sd W H px py pv qv pl ql fl kn a b c pe po U hs hw hh hc hp (SlI.below hpv hb) (SlI.below hqv hb) hpl hql (by omega) (by omega) (by omega) hpe hpo hpe2 hpo2)
  have HR := hid (fun U v h1 h2 h3 => right36_any cx cy sd W H pv qv pl ql fl kn a b c v [(px, py)] U h1 h2 h3)
  rw [hR] at HR
  have HSL := hid (And.intro hpv hqv)
  obtain ⟨pa, pc, rfl, -, -⟩ := hpv.open
  obtain ⟨qa, qc, rfl, -, -⟩ := hqv.open
  obtain ⟨W1, hW1⟩ : ∃ W1, ((w.alloc (.cells #[.int .i64 cx, .int .i64 cy, .int .i64 sd, .int .i64 W, .int .i64 H, .slice pa pl.length pc, .slice qa ql.length qc] 31)).alloc (.cells #[.int .i64 fl, .int .i64 kn, .int .i64 a, .int .i64 b, .int .i64 c] 24)).alloc (.cells #[.int .i64 px, .int .i64 py] 28) = W1 := ⟨_, rfl⟩
  have hz : W1.heap.size = w.heap.size + 3 := by rw [← hW1]; simp
  have hb1 : Below w.heap.size w W1 := by rw [← hW1]; exact (((Below.refl _ w).alloc (Nat.le_refl _) _).alloc (by simp) _).alloc (by simp <;> omega) _
  have b0 : W1.heap[w.heap.size]? = some (.cells #[.int .i64 cx, .int .i64 cy, .int .i64 sd, .int .i64 W, .int .i64 H, .slice pa pl.length pc, .slice qa ql.length qc] 31 (0, 0)) := by
    rw [← hW1, Below.heap_alloc _ _ _ (by simp <;> omega), Below.heap_alloc _ _ _ (by simp)]; exact heap_alloc_new w _
  have b1 : W1.heap[w.heap.size + 1]? = some (.cells #[.int .i64 fl, .int .i64 kn, .int .i64 a, .int .i64 b, .int .i64 c] 24 (0, 0)) := by
    rw [← hW1, Below.heap_alloc _ _ _ (by simp)]
    simpa using heap_alloc_new (w.alloc (.cells #[.int .i64 cx, .int .i64 cy, .int .i64 sd, .int .i64 W, .int .i64 H, .slice pa pl.length pc, .slice qa ql.length qc] 31)) (.cells #[.int .i64 fl, .int .i64 kn, .int .i64 a, .int .i64 b, .int .i64 c] 24)
  have b2 : W1.heap[w.heap.size + 1 + 1]? = some (.cells #[.int .i64 px, .int .i64 py] 28 (0, 0)) := by
    rw [← hW1]
    simpa using heap_alloc_new ((w.alloc (.cells #[.int .i64 cx, .int .i64 cy, .int .i64 sd, .int .i64 W, .int .i64 H, .slice pa pl.length pc, .slice qa ql.length qc] 31)).alloc (.cells #[.int .i64 fl, .int .i64 kn, .int .i64 a, .int .i64 b, .int .i64 c] 24)) (.cells #[.int .i64 px, .int .i64 py] 28)
  have HC := hid (show ∀ U, Below W1.heap.size W1 U → U.heap[w.heap.size]? = some (.cells #[.int .i64 cx, .int .i64 cy, .int .i64 sd, .int .i64 W, .int .i64 H, .slice pa pl.length pc, .slice qa ql.length qc] 31 (0, 0)) ∧ U.heap[w.heap.size + 1]? = some (.cells #[.int .i64 fl, .int .i64 kn, .int .i64 a, .int .i64 b, .int .i64 c] 24 (0, 0)) ∧ U.heap[w.heap.size + 1 + 1]? = some (.cells #[.int .i64 px, .int .i64 py] 28 (0, 0)) from fun U hb => ⟨(hb.block _ (by omega)).trans b0, (hb.block _ (by omega)).trans b1, (hb.block _ (by omega)).trans b2⟩)
  have HB := hid hb1
  have HSP := hid (new_SlP W1 px py 28)
  have HW := hid hW1
  clear hs hw hh hc hp hpv hqv hpl hql hpe hpo hb1 b1 b0 b2 hW1 hR hkn hfl ha hpe2 hpo2
  generalize slowN fl kn a pe po = res at *
  go_enter Tryz.func9, Tryz.ntmps9
  go_wp2_with fail
  rw [HW.out]
  refine (HR.out _ _ (SlI.below HSL.out.1 (HB.out.alloc HB.out.size _)) (SlI.below HSL.out.2 (HB.out.alloc HB.out.size _)) (by have := HSP.out; rwa [hz] at this)).mono ?_
  rintro e W2 ⟨rfl, hb2⟩
  have hb2' : Below W1.heap.size W1 W2 := btrans ((Below.refl _ W1).alloc (Nat.le_refl _) _) (by simp) hb2
  have hC := HC.out _ hb2'
  have HB2 := hid (btrans HB.out (by omega) hb2')
  obtain ⟨h0, h1, h2⟩ := hC
  have q0 : W2.cell? ⟨w.heap.size, 0, none⟩ = some (.int .i64 cx) := by simp [World.cell?, h0]
  have q1 : W2.cell? ⟨w.heap.size, 1, none⟩ = some (.int .i64 cy) := by simp [World.cell?, h0]
  have q2 : W2.cell? ⟨w.heap.size, 2, none⟩ = some (.int .i64 sd) := by simp [World.cell?, h0]
  have q3 : W2.cell? ⟨w.heap.size, 3, none⟩ = some (.int .i64 W) := by simp [World.cell?, h0]
  have q4 : W2.cell? ⟨w.heap.size, 4, none⟩ = some (.int .i64 H) := by simp [World.cell?, h0]
  have q5 : W2.cell? ⟨w.heap.size, 5, none⟩ = some (.slice pa pl.length pc) := by simp [World.cell?, h0]
  have q6 : W2.cell? ⟨w.heap.size, 6, none⟩ = some (.slice qa ql.length qc) := by simp [World.cell?, h0]
  have r0 : W2.cell? ⟨w.heap.size + 1, 0, none⟩ = some (.int .i64 (fl : Int)) := by simp [World.cell?, h1]
  have r1 : W2.cell? ⟨w.heap.size + 1, 1, none⟩ = some (.int .i64 (kn : Int)) := by simp [World.cell?, h1]
  have r2 : W2.cell? ⟨w.heap.size + 1, 2, none⟩ = some (.int .i64 (a : Int)) := by simp [World.cell?, h1]
  have r3 : W2.cell? ⟨w.heap.size + 1, 3, none⟩ = some (.int .i64 b) := by simp [World.cell?, h1]
  have r4 : W2.cell? ⟨w.heap.size + 1, 4, none⟩ = some (.int .i64 c) := by simp [World.cell?, h1]
  have t0 : W2.cell? ⟨w.heap.size + 1 + 1, 0, none⟩ = some (.int .i64 px) := by simp [World.cell?, h2]
  have t1 : W2.cell? ⟨w.heap.size + 1 + 1, 1, none⟩ = some (.int .i64 py) := by simp [World.cell?, h2]
  clear h0 h1 h2 HC HB hb2 hb2' HW HR HSP
  go_wp2_with fail
  refine (HS.out _ HB2.out).mono ?_
  rintro e W4 ⟨rfl, hb4⟩
  go_wp2_with fail
  go_ret2
  exact ⟨rfl, HB2.out.trans (hb4.mono HB2.out.size)⟩
end Go.Proofs.YtolnhicngepnnaaGreat
