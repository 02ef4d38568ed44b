/- ice.at, ice.grains. -/
import Derived.Test.YtolnhicngepnnaaGreatI2
import Derived.BigRegion
namespace Go.Proofs.YtolnhicngepnnaaGreat
open Go.RowKit

/-- Is a place outside of the ice? -/
def outR (x y sd W H : Int) : Bool := decide (x < 0) || (decide (y < 0) || (decide (W * sd ≤ x) || decide (H * sd ≤ y)))
theorem outR_in {x y sd W H : Int} (h : outR x y sd W H = false) : 0 ≤ x ∧ 0 ≤ y ∧ x < W * sd ∧ y < H * sd := by
  simp only [outR, Bool.or_eq_false_iff, decide_eq_false_iff_not] at h
  omega
theorem at_lt {x y sd W H : Int} (hs : 1 ≤ sd) (hw : 1 ≤ W) (h : 0 ≤ x ∧ 0 ≤ y ∧ x < W * sd ∧ y < H * sd) : 0 ≤ y / sd * W + x / sd ∧ y / sd * W + x / sd < W * H := by
  obtain ⟨h1, h2, h3, h4⟩ := h
  have a1 : 0 ≤ x / sd := Int.ediv_nonneg h1 (by omega)
  have a2 : 0 ≤ y / sd := Int.ediv_nonneg h2 (by omega)
  have a3 : x / sd < W := Int.ediv_lt_of_lt_mul (by omega) h3
  have a4 : y / sd < H := Int.ediv_lt_of_lt_mul (by omega) h4
  have a5 : 0 ≤ y / sd * W := Int.mul_nonneg a2 (by omega)
  refine ⟨by omega, ?_⟩
  have a6 : (y / sd + 1) * W ≤ H * W := Int.mul_le_mul_of_nonneg_right (by omega) (by omega)
  rw [Int.add_mul] at a6
  rw [Int.mul_comm W H]
  omega
/-- What ice.at answers. -/
def atR (x y sd W H : Int) : Int := if outR x y sd W H then 0 else y / sd * W + x / sd
set_option maxRecDepth 100000 in
set_option maxHeartbeats 2000000 in
theorem at80_any (cx cy sd W H px py : Int) (pv qv : Value) (w : World) (hs : 1 ≤ sd ∧ sd ≤ 6553600000) (hw : 1 ≤ W ∧ W ≤ 256) (hh : 1 ≤ H ∧ H ≤ 256) (hc : spotOk cx cy = true) (hp : spotOk px py = true) (hpv : ∃ a n c, pv = .slice a n c) (hqv : ∃ a n c, qv = .slice a n c) :
    Calls Tryz.prog 99 #[iceV cx cy sd W H pv qv, .agg #[.int .i64 px, .int .i64 py]] w fun e w' => e = .returned (.tuple #[.int .i64 (atR (px - cx) (py - cy) sd W H), .bool (!outR (px - cx) (py - cy) sd W H)]) ∧ Below w.heap.size w w' := by
  obtain ⟨⟨c1, c2⟩, c3, c4⟩ := spotOk_b hc
  obtain ⟨⟨p1, p2⟩, p3, p4⟩ := spotOk_b hp
  obtain ⟨pa, pn, pc, rfl⟩ := hpv
  obtain ⟨qa, qn, qc, rfl⟩ := hqv
  clear hc hp
  obtain ⟨W1, hW1⟩ : ∃ W1, (w.alloc (.cells #[.int .i64 cx, .int .i64 cy, .int .i64 sd, .int .i64 W, .int .i64 H, .slice pa pn pc, .slice qa qn qc] 31)).alloc (.cells #[.int .i64 px, .int .i64 py] 28) = W1 := ⟨_, rfl⟩
  have hz : W1.heap.size = w.heap.size + 2 := by rw [← hW1]; simp
  have hb1 : Below w.heap.size w W1 := by rw [← hW1]; exact ((Below.refl _ w).alloc (Nat.le_refl _) _).alloc (by simp) _
  have b0 : W1.heap[w.heap.size]? = some (.cells #[.int .i64 cx, .int .i64 cy, .int .i64 sd, .int .i64 W, .int .i64 H, .slice pa pn pc, .slice qa qn qc] 31 (0, 0)) := by
    rw [← hW1, Below.heap_alloc _ _ _ (by simp)]; exact heap_alloc_new w _
  have b1 : W1.heap[w.heap.size + 1]? = some (.cells #[.int .i64 px, .int .i64 py] 28 (0, 0)) := by
    rw [← hW1]
    simpa using heap_alloc_new (w.alloc (.cells #[.int .i64 cx, .int .i64 cy, .int .i64 sd, .int .i64 W, .int .i64 H, .slice pa pn pc, .slice qa qn qc] 31)) (.cells #[.int .i64 px, .int .i64 py] 28)
  have q0 : W1.cell? ⟨w.heap.size, 0, none⟩ = some (.int .i64 cx) := by simp [World.cell?, b0]
  have q1 : W1.cell? ⟨w.heap.size, 1, none⟩ = some (.int .i64 cy) := by simp [World.cell?, b0]
  have q2 : W1.cell? ⟨w.heap.size, 2, none⟩ = some (.int .i64 sd) := by simp [World.cell?, b0]
  have q3 : W1.cell? ⟨w.heap.size, 3, none⟩ = some (.int .i64 W) := by simp [World.cell?, b0]
  have q4 : W1.cell? ⟨w.heap.size, 4, none⟩ = some (.int .i64 H) := by simp [World.cell?, b0]
  have q5 : W1.cell? ⟨w.heap.size + 1, 0, none⟩ = some (.int .i64 px) := by simp [World.cell?, b1]
  have q6 : W1.cell? ⟨w.heap.size + 1, 1, none⟩ = some (.int .i64 py) := by simp [World.cell?, b1]
  have HB := hid hb1
  have HW := hid hW1
  have HA := hid (show ∀ x y, atR x y sd W H = if outR x y sd W H then 0 else y / sd * W + x / sd from fun _ _ => rfl)
  have HO := hid (show ∀ x y, outR x y sd W H = (decide (x < 0) || (decide (y < 0) || (decide (W * sd ≤ x) || decide (H * sd ≤ y)))) from fun _ _ => rfl)
  obtain ⟨r1, hr1⟩ : ∃ r, atR (px - cx) (py - cy) sd W H = r := ⟨_, rfl⟩
  obtain ⟨o1, ho1⟩ : ∃ r, outR (px - cx) (py - cy) sd W H = r := ⟨_, rfl⟩
  rw [hr1, ho1]
  have HR := hid hr1
  have HOO := hid ho1
  clear hr1 ho1 b0 b1 hb1 hW1
  go_enter Tryz.func99, Tryz.ntmps99
  go_upto_region 1 with fail
  rw [HW.out]
  clear HW
  go_cut [6, 7] (fun a b wx => a = .int .i64 (px - cx) ∧ b = .int .i64 (py - cy) ∧ wx = W1.drew)
  case first =>
    go_region
    all_goals
      go_wp2_with fail
      go_meet
      exact ⟨rfl, rfl, rfl⟩
  case rest =>
    obtain ⟨rfl, rfl, rfl⟩ := hcut
    obtain ⟨x, hx⟩ : ∃ x, px - cx = x := ⟨_, rfl⟩
    obtain ⟨y, hy⟩ : ∃ y, py - cy = y := ⟨_, rfl⟩
    rw [hx, hy] at HR HOO
    rw [hx, hy]
    have x1 : -13107200000 ≤ x ∧ x ≤ 13107200000 := by omega
    have y1 : -13107200000 ≤ y ∧ y ≤ 13107200000 := by omega
    clear hx hy
    obtain ⟨s1, s2⟩ := hs
    obtain ⟨w1, w2⟩ := hw
    obtain ⟨h1, h2⟩ := hh
    have m1 : 0 ≤ W * sd := Int.mul_nonneg (by omega) (by omega)
    have m2 : W * sd ≤ 256 * 6553600000 := Int.mul_le_mul w2 s2 (by omega) (by omega)
    have m3 : 0 ≤ H * sd := Int.mul_nonneg (by omega) (by omega)
    have m4 : H * sd ≤ 256 * 6553600000 := Int.mul_le_mul h2 s2 (by omega) (by omega)
    have HOX := hid (HO.out x y)
    have HAX := hid (HA.out x y)
    rw [HR.out, HOO.out] at HAX
    rw [HOO.out] at HOX
    clear HO HA HR
    by_cases hx : x < 0
    · have ho : o1 = true := by rw [HOX.out]; simp [hx]
      rw [ho, if_pos rfl] at HAX
      have HAY := hid (And.intro ho HAX.out)
      clear ho HAX HOX HOO
      go_wp2_with fail
      go_ret2
      exact ⟨by rw [HAY.out.1, HAY.out.2]; rfl, HB.out.drew⟩
    by_cases hy : y < 0
    · have ho : o1 = true := by rw [HOX.out]; simp [hy]
      rw [ho, if_pos rfl] at HAX
      have HAY := hid (And.intro ho HAX.out)
      clear ho HAX HOX HOO
      go_wp2_with fail
      go_ret2
      exact ⟨by rw [HAY.out.1, HAY.out.2]; rfl, HB.out.drew⟩
    by_cases hxw : W * sd ≤ x
    · have ho : o1 = true := by rw [HOX.out]; simp [hxw]
      rw [ho, if_pos rfl] at HAX
      have HAY := hid (And.intro ho HAX.out)
      clear ho HAX HOX HOO
      go_wp2_with fail
      go_ret2
      exact ⟨by rw [HAY.out.1, HAY.out.2]; rfl, HB.out.drew⟩
    by_cases hyw : H * sd ≤ y
    · have ho : o1 = true := by rw [HOX.out]; simp [hyw]
      rw [ho, if_pos rfl] at HAX
      have HAY := hid (And.intro ho HAX.out)
      clear ho HAX HOX HOO
      go_wp2_with fail
      go_ret2
      exact ⟨by rw [HAY.out.1, HAY.out.2]; rfl, HB.out.drew⟩
    have ho : o1 = false := by rw [HOX.out]; simp [hx, hy, hxw, hyw]
    rw [ho, if_neg (by simp)] at HAX
    have HAY := hid (And.intro ho HAX.out)
    have hlt := at_lt (x := x) (y := y) (sd := sd) (W := W) (H := H) s1 w1 (outR_in (by rw [HOO.out]; exact ho))
    have wh : W * H ≤ 256 * 256 := Int.mul_le_mul w2 h2 (by omega) (by omega)
    have a1 : 0 ≤ x / sd := Int.ediv_nonneg (by omega) (by omega)
    have a2 : 0 ≤ y / sd := Int.ediv_nonneg (by omega) (by omega)
    have a3 : x / sd ≤ x := Int.ediv_le_self _ (by omega)
    have a4 : y / sd ≤ y := Int.ediv_le_self _ (by omega)
    have a5 : 0 ≤ y / sd * W := Int.mul_nonneg a2 (by omega)
    have a6 : y / sd * W ≤ 65536 := by omega
    have HT := hid (And.intro (Int.tdiv_eq_ediv_of_nonneg (a := x) (b := sd) (by omega)) (Int.tdiv_eq_ediv_of_nonneg (a := y) (b := sd) (by omega)))
    clear ho HAX HOX HOO
    go_upto_region 4 with fail
    go_region
    all_goals
      go_wp2_with fail
      go_ret2
      exact ⟨by rw [HAY.out.1, HAY.out.2]; rfl, HB.out.drew.drew⟩
/-- What ice.grains answers. -/
def grR (l : List Int) (x y sd W H : Int) : Int := if outR x y sd W H then 0 else l.getD (atR x y sd W H).toNat 0
set_option maxRecDepth 100000 in
set_option maxHeartbeats 2000000 in
theorem grains65_any (cx cy sd W H px py : Int) (pv qv : Value) (pl ql : List Int) (w : World) (hs : 1 ≤ sd ∧ sd ≤ 6553600000) (hw : 1 ≤ W ∧ W ≤ 256) (hh : 1 ≤ H ∧ H ≤ 256) (hc : spotOk cx cy = true) (hp : spotOk px py = true) (hpv : SlI w pv pl) (hqv : SlI w qv ql) (hpl : (pl.length : Int) = W * H) (hql : (ql.length : Int) = W * H) :
    Calls Tryz.prog 54 #[iceV cx cy sd W H pv qv, .agg #[.int .i64 px, .int .i64 py]] w fun e w' => e = .returned (.tuple #[.int .i64 (grR pl (px - cx) (py - cy) sd W H), .int .i64 (grR ql (px - cx) (py - cy) sd W H)]) ∧ Below w.heap.size w w' := by
  have HLT := hid (fun h => at_lt (x := px - cx) (y := py - cy) hs.1 hw.1 (outR_in h) (H := H))
  have HAX := hid (show outR (px - cx) (py - cy) sd W H = false → atR (px - cx) (py - cy) sd W H = (py - cy) / sd * W + (px - cx) / sd from fun h => by rw [atR, h]; rfl)
  have HP := hid (show grR pl (px - cx) (py - cy) sd W H = if outR (px - cx) (py - cy) sd W H then 0 else pl.getD (atR (px - cx) (py - cy) sd W H).toNat 0 from rfl)
  have HQ := hid (show grR ql (px - cx) (py - cy) sd W H = if outR (px - cx) (py - cy) sd W H then 0 else ql.getD (atR (px - cx) (py - cy) sd W H).toNat 0 from rfl)
  have HAT := hid (fun U h1 h2 => at80_any cx cy sd W H px py pv qv U hs hw hh hc hp h1 h2)
  obtain ⟨pa, pc, rfl, -, hpo⟩ := hpv.open
  obtain ⟨qa, qc, rfl, -, hqo⟩ := hqv.open
  have HPO := hid hpo
  have HQO := hid hqo
  have HLEN := hid (And.intro hpl hql)
  clear hpo hqo hpv hqv hpl hql
  obtain ⟨W1, hW1⟩ : ∃ W1, (w.alloc (.cells #[.int .i64 cx, .int .i64 cy, .int .i64 sd, .int .i64 W, .int .i64 H, .slice pa pl.length pc, .slice qa ql.length qc] 31)).alloc (.cells #[.int .i64 px, .int .i64 py] 28) = W1 := ⟨_, rfl⟩
  have hz : W1.heap.size = w.heap.size + 2 := by rw [← hW1]; simp
  have hb1 : Below w.heap.size w W1 := by rw [← hW1]; exact ((Below.refl _ w).alloc (Nat.le_refl _) _).alloc (by simp) _
  have b0 : W1.heap[w.heap.size]? = some (.cells #[.int .i64 cx, .int .i64 cy, .int .i64 sd, .int .i64 W, .int .i64 H, .slice pa pl.length pc, .slice qa ql.length qc] 31 (0, 0)) := by
    rw [← hW1, Below.heap_alloc _ _ _ (by simp)]; exact heap_alloc_new w _
  have HB0 := hid b0
  have HB := hid hb1
  have HW := hid hW1
  obtain ⟨k, hk⟩ : ∃ k, atR (px - cx) (py - cy) sd W H = k := ⟨_, rfl⟩
  obtain ⟨o, ho⟩ : ∃ o, outR (px - cx) (py - cy) sd W H = o := ⟨_, rfl⟩
  obtain ⟨r1, hr1⟩ : ∃ o, grR pl (px - cx) (py - cy) sd W H = o := ⟨_, rfl⟩
  obtain ⟨r2, hr2⟩ : ∃ o, grR ql (px - cx) (py - cy) sd W H = o := ⟨_, rfl⟩
  rw [hr1, ho, hk] at HP
  rw [hr2, ho, hk] at HQ
  rw [hk, ho] at HAT HAX
  rw [ho] at HLT
  rw [hr1, hr2]
  clear hk ho hr1 hr2 b0 hb1 hW1
  go_enter Tryz.func54, Tryz.ntmps54
  go_wp2_with fail
  rw [HW.out]
  refine (HAT.out _ ⟨_, _, _, rfl⟩ ⟨_, _, _, rfl⟩).mono ?_
  rintro e W2 ⟨rfl, hb2⟩
  have hblk := (hb2.block w.heap.size (by omega)).trans HB0.out
  have HB2 := hid (btrans HB.out (by omega) hb2)
  have q5 : W2.cell? ⟨w.heap.size, 5, none⟩ = some (.slice pa pl.length pc) := by simp [World.cell?, hblk]
  have q6 : W2.cell? ⟨w.heap.size, 6, none⟩ = some (.slice qa ql.length qc) := by simp [World.cell?, hblk]
  clear hblk HB0 HB HW hb2 HAT
  cases o with
  | true =>
    go_wp2_with fail
    go_ret2
    exact ⟨by rw [HP.out, HQ.out]; rfl, HB2.out⟩
  | false =>
    have hk : 0 ≤ k ∧ k < W * H := by rw [HAX.out rfl]; exact HLT.out rfl
    obtain ⟨n, rfl⟩ : ∃ n : Nat, (n : Int) = k := ⟨k.toNat, by omega⟩
    obtain ⟨k1, k2⟩ := hk
    have np : n < pl.length := by have := HLEN.out.1; omega
    have nq : n < ql.length := by have := HLEN.out.2; omega
    have npI : (n : Int) < (pl.length : Int) := by omega
    have nqI : (n : Int) < (ql.length : Int) := by omega
    obtain ⟨bp, op, rfl, hbp, hcp⟩ := HPO.out n np
    obtain ⟨bq, oq, rfl, hbq, hcq⟩ := HQO.out n nq
    have c1 := (HB2.out.cell (p := ⟨bp, op + n, none⟩) hbp).trans (hcp n np)
    have c2 := (HB2.out.cell (p := ⟨bq, oq + n, none⟩) hbq).trans (hcq n nq)
    have e1 : pl.getD n 0 = pl[n] := by simp [List.getD_eq_getElem?_getD, np]
    have e2 : ql.getD n 0 = ql[n] := by simp [List.getD_eq_getElem?_getD, nq]
    have hp1 := HP.out
    have hq1 := HQ.out
    rw [if_neg (by simp), Int.toNat_natCast, e1] at hp1
    rw [if_neg (by simp), Int.toNat_natCast, e2] at hq1
    rw [← hp1] at c1
    rw [← hq1] at c2
    clear hcp hcq HPO HQO e1 e2 hp1 hq1 HP HQ HLT HAX HLEN
    go_upto_region 3 with fail
    go_region
    all_goals
      go_wp2_with fail
      go_ret2
      exact ⟨rfl, HB2.out.drew⟩
end Go.Proofs.YtolnhicngepnnaaGreat
