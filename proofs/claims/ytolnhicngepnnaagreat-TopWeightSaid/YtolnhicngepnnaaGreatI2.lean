/- ice.Check, ice.CheckGrain, ice.right. -/
import Derived.Test.YtolnhicngepnnaaGreatI1
namespace Go.Proofs.YtolnhicngepnnaaGreat
open Go.RowKit

/-- An ice's numbers; the two lists of grains lie in slices. -/
abbrev iceV (x y sd W H : Int) (pv qv : Value) : Value := .agg #[.int .i64 x, .int .i64 y, .int .i64 sd, .int .i64 W, .int .i64 H, pv, qv]
def okG (l : List Int) : Bool := !l.any fun x => !inB x 0 1000
def iceOk (x y sd W H : Int) (pl ql : List Int) : Bool := placedR [(x, y)] && (inB sd 1 6553600000 && (inB W 1 256 && (inB H 1 256 && (((pl.length : Int) == W * H) && (((ql.length : Int) == W * H) && (okG pl && okG ql))))))
set_option maxRecDepth 100000 in
set_option maxHeartbeats 2000000 in
theorem check62_any (x y sd W H : Int) (pv qv : Value) (pl ql : List Int) (w : World) (hp : SlI w pv pl) (hq : SlI w qv ql) :
    Calls Tryz.prog 47 #[iceV x y sd W H pv qv] w fun e w' => e = .returned (.int .i64 (if iceOk x y sd W H pl ql then 0 else 2)) ∧ Below w.heap.size w w' := by
  obtain ⟨pa, pc, rfl, hpl, -⟩ := hp.open
  obtain ⟨qa, qc, rfl, hql, -⟩ := hq.open
  have HPL := hid (fun W hb => placed64_any (.slice (some ⟨w.heap.size + 1, 0, none⟩) 1 1) [(x, y)] W hb)
  have HSD := hid (fun U => within76_any sd 1 6553600000 U)
  have HWW := hid (fun U => within75_any W 1 256 U)
  have HWH := hid (fun U => within75_any H 1 256 U)
  have HPG := hid (fun U hb => grains77_any _ pl U (SlI.below hp hb))
  have HQG := hid (fun U hb => grains77_any _ ql U (SlI.below hq hb))
  have HOK := hid (show iceOk x y sd W H pl ql = (placedR [(x, y)] && (inB sd 1 6553600000 && (inB W 1 256 && (inB H 1 256 && (((pl.length : Int) == W * H) && (((ql.length : Int) == W * H) && ((!pl.any fun x => !inB x 0 1000) && (!ql.any fun x => !inB x 0 1000)))))))) from rfl)
  have HBW := hid (fun h : inB W 1 256 = true => (by simpa [inB] using h : 1 ≤ W ∧ W ≤ 256))
  have HBH := hid (fun h : inB H 1 256 = true => (by simpa [inB] using h : 1 ≤ H ∧ H ≤ 256))
  have HB1 := hid ((Below.refl w.heap.size w).alloc (Nat.le_refl _) (.cells #[.int .i64 x, .int .i64 y, .int .i64 sd, .int .i64 W, .int .i64 H, .slice pa pl.length pc, .slice qa ql.length qc] 31))
  have hz : (w.alloc (.cells #[.int .i64 x, .int .i64 y, .int .i64 sd, .int .i64 W, .int .i64 H, .slice pa pl.length pc, .slice qa ql.length qc] 31)).heap.size = w.heap.size + 1 := by simp
  have hN := heap_alloc_new w (.cells #[.int .i64 x, .int .i64 y, .int .i64 sd, .int .i64 W, .int .i64 H, .slice pa pl.length pc, .slice qa ql.length qc] 31)
  obtain ⟨W1, hW1⟩ : ∃ W1, w.alloc (.cells #[.int .i64 x, .int .i64 y, .int .i64 sd, .int .i64 W, .int .i64 H, .slice pa pl.length pc, .slice qa ql.length qc] 31) = W1 := ⟨_, rfl⟩
  rw [hW1] at HB1 hz hN
  have HC := hid (show ∀ U, Below W1.heap.size W1 U → U.heap[w.heap.size]? = some (.cells #[.int .i64 x, .int .i64 y, .int .i64 sd, .int .i64 W, .int .i64 H, .slice pa pl.length pc, .slice qa ql.length qc] 31 (0, 0)) from fun U hb => (hb.block _ (by omega)).trans hN)
  have HW := hid hW1
  have HSP := hid (new_SlP W1 x y 28)
  clear hp hq hN hW1
  generalize (pl.any fun x => !inB x 0 1000) = g1 at *
  generalize (ql.any fun x => !inB x 0 1000) = g2 at *
  generalize placedR [(x, y)] = b1 at *
  generalize inB sd 1 6553600000 = b2 at *
  generalize inB W 1 256 = b3 at *
  generalize inB H 1 256 = b4 at *
  generalize iceOk x y sd W H pl ql = ok at *
  obtain ⟨ans, hans⟩ : ∃ ans : Int, (if ok = true then 0 else 2) = ans := ⟨_, rfl⟩
  rw [hans]
  have HAN := hid hans
  clear hans
  go_enter Tryz.func47, Tryz.ntmps47
  go_wp2_with fail
  rw [HW.out]
  refine (HPL.out _ (by have := HSP.out; rwa [hz] at this)).mono ?_
  rintro e W2 ⟨rfl, hb2⟩
  have hb2' : Below W1.heap.size W1 W2 := btrans ((Below.refl _ W1).alloc (Nat.le_refl _) _) (by simp) hb2
  have hblk := HC.out _ hb2'
  have HB2 := hid (btrans HB1.out (by omega) hb2')
  clear hb2 hb2' HC HB1 HW HSP HPL
  have q0 : W2.cell? ⟨w.heap.size, 2, none⟩ = some (.int .i64 sd) := by simp [World.cell?, hblk]
  have q1 : W2.cell? ⟨w.heap.size, 3, none⟩ = some (.int .i64 W) := by simp [World.cell?, hblk]
  have q2 : W2.cell? ⟨w.heap.size, 4, none⟩ = some (.int .i64 H) := by simp [World.cell?, hblk]
  have q3 : W2.cell? ⟨w.heap.size, 5, none⟩ = some (.slice pa pl.length pc) := by simp [World.cell?, hblk]
  have q4 : W2.cell? ⟨w.heap.size, 6, none⟩ = some (.slice qa ql.length qc) := by simp [World.cell?, hblk]
  clear hblk
  cases b1 with
  | false =>
    go_wp2_with fail
    go_ret
    exact ⟨by rw [← HAN.out, HOK.out]; rfl, HB2.out⟩
  | true =>
  go_wp2_with fail
  refine (HSD.out _).mono ?_
  rintro e W3 ⟨rfl, rfl⟩
  cases b2 with
  | false =>
    go_wp2_with fail
    go_ret
    exact ⟨by rw [← HAN.out, HOK.out]; rfl, HB2.out⟩
  | true =>
  go_wp2_with fail
  refine (HWW.out _).mono ?_
  rintro e W4 ⟨rfl, rfl⟩
  cases b3 with
  | false =>
    go_wp2_with fail
    go_ret
    exact ⟨by rw [← HAN.out, HOK.out]; rfl, HB2.out⟩
  | true =>
  go_wp2_with fail
  refine (HWH.out _).mono ?_
  rintro e W5 ⟨rfl, rfl⟩
  cases b4 with
  | false =>
    go_wp2_with fail
    go_ret
    exact ⟨by rw [← HAN.out, HOK.out]; rfl, HB2.out⟩
  | true =>
  obtain ⟨w1, w2⟩ : 1 ≤ W ∧ W ≤ 256 := by simpa using HBW.out
  obtain ⟨h1, h2⟩ : 1 ≤ H ∧ H ≤ 256 := by simpa using HBH.out
  have hm1 : 0 ≤ W * H := Int.mul_nonneg (by omega) (by omega)
  have hm2 : W * H ≤ 256 * 256 := Int.mul_le_mul w2 h2 (by omega) (by omega)
  by_cases h5 : (pl.length : Int) = W * H
  case neg =>
    have e5 : ((pl.length : Int) == W * H) = false := by simp [h5]
    rw [e5] at HOK
    go_wp2_with fail
    go_ret
    exact ⟨by rw [← HAN.out, HOK.out]; rfl, HB2.out⟩
  case pos =>
  have e5 : ((pl.length : Int) == W * H) = true := by simp [h5]
  rw [e5] at HOK
  by_cases h6 : (ql.length : Int) = W * H
  case neg =>
    have e6 : ((ql.length : Int) == W * H) = false := by simp [h6]
    rw [e6] at HOK
    go_wp2_with fail
    go_ret
    exact ⟨by rw [← HAN.out, HOK.out]; rfl, HB2.out⟩
  case pos =>
  have e6 : ((ql.length : Int) == W * H) = true := by simp [h6]
  rw [e6] at HOK
  go_wp2_with fail
  refine (HPG.out _ HB2.out).mono ?_
  rintro e W6 ⟨rfl, rfl⟩
  cases g1 with
  | true =>
    go_wp2_with fail
    go_ret
    exact ⟨by rw [← HAN.out, HOK.out]; rfl, HB2.out⟩
  | false =>
  go_wp2_with fail
  refine (HQG.out _ HB2.out).mono ?_
  rintro e W6 ⟨rfl, rfl⟩
  cases g2 with
  | true =>
    go_wp2_with fail
    go_ret
    exact ⟨by rw [← HAN.out, HOK.out]; rfl, HB2.out⟩
  | false =>
    go_wp2_with fail
    go_ret
    exact ⟨by rw [← HAN.out, HOK.out]; rfl, HB2.out⟩
def grainOk (fl kn a b c : Int) : Bool := inB kn 1 fl && (decide (fl ≤ 65536) && (inB a 0 1000 && (inB b 0 1000 && inB c 0 1000)))
abbrev grainV (fl kn a b c : Int) : Value := .agg #[.int .i64 fl, .int .i64 kn, .int .i64 a, .int .i64 b, .int .i64 c]
set_option maxRecDepth 100000 in
theorem grain63_any (fl kn a b c : Int) (w : World) : Calls Tryz.prog 48 #[grainV fl kn a b c] w fun e w' => e = .returned (.int .i64 (if grainOk fl kn a b c then 0 else 2)) ∧ Below w.heap.size w w' := by
  have H1 := hid (fun U => within76_any kn 1 fl U)
  have H2 := hid (fun U => within75_any a 0 1000 U)
  have H3 := hid (fun U => within75_any b 0 1000 U)
  have H4 := hid (fun U => within75_any c 0 1000 U)
  have HOK := hid (show grainOk fl kn a b c = (inB kn 1 fl && (decide (fl ≤ 65536) && (inB a 0 1000 && (inB b 0 1000 && inB c 0 1000)))) from rfl)
  have HB := hid ((Below.refl w.heap.size w).alloc (Nat.le_refl _) (.cells #[.int .i64 fl, .int .i64 kn, .int .i64 a, .int .i64 b, .int .i64 c] 24))
  generalize inB kn 1 fl = b1 at *
  generalize inB a 0 1000 = b2 at *
  generalize inB b 0 1000 = b3 at *
  generalize inB c 0 1000 = b4 at *
  generalize grainOk fl kn a b c = ok at *
  obtain ⟨ans, hans⟩ : ∃ ans : Int, (if ok = true then 0 else 2) = ans := ⟨_, rfl⟩
  rw [hans]
  have HAN := hid hans
  clear hans
  by_cases hf : fl ≤ 65536
  case neg =>
    have e1 : decide (fl ≤ 65536) = false := by simpa using hf
    rw [e1] at HOK
    have hf2 : 65536 < fl := by omega
    clear e1 hf
    cases b1
    all_goals
      go_enter Tryz.func48, Tryz.ntmps48
      go_wp2_with fail
      refine (H1.out _).mono ?_
      rintro e w' ⟨rfl, rfl⟩
      go_wp2_with fail
      go_ret
      exact ⟨by rw [← HAN.out, HOK.out]; rfl, HB.out⟩
  case pos =>
  have e1 : decide (fl ≤ 65536) = true := by simpa using hf
  rw [e1] at HOK
  have hf2 : ¬ 65536 < fl := by omega
  clear e1 hf
  go_enter Tryz.func48, Tryz.ntmps48
  go_wp2_with fail
  refine (H1.out _).mono ?_
  rintro e w' ⟨rfl, rfl⟩
  cases b1 with
  | false =>
    go_wp2_with fail
    go_ret
    exact ⟨by rw [← HAN.out, HOK.out]; rfl, HB.out⟩
  | true =>
  go_wp2_with fail
  refine (H2.out _).mono ?_
  rintro e w' ⟨rfl, rfl⟩
  cases b2 with
  | false =>
    go_wp2_with fail
    go_ret
    exact ⟨by rw [← HAN.out, HOK.out]; rfl, HB.out⟩
  | true =>
  go_wp2_with fail
  refine (H3.out _).mono ?_
  rintro e w' ⟨rfl, rfl⟩
  cases b3 with
  | false =>
    go_wp2_with fail
    go_ret
    exact ⟨by rw [← HAN.out, HOK.out]; rfl, HB.out⟩
  | true =>
  go_wp2_with fail
  refine (H4.out _).mono ?_
  rintro e w' ⟨rfl, rfl⟩
  cases b4
  all_goals
    go_wp2_with fail
    go_ret
    exact ⟨by rw [← HAN.out, HOK.out]; rfl, HB.out⟩
def rightR (x y sd W H : Int) (pl ql : List Int) (fl kn a b c : Int) (l : List (Int × Int)) : Bool := iceOk x y sd W H pl ql && (grainOk fl kn a b c && placedR l)
set_option maxRecDepth 100000 in
theorem right36_any (x y sd W H : Int) (pv qv : Value) (pl ql : List Int) (fl kn a b c : Int) (v : Value) (l : List (Int × Int)) (w : World) (hp : SlI w pv pl) (hq : SlI w qv ql) (hl : SlP w v l) :
    Calls Tryz.prog 21 #[iceV x y sd W H pv qv, grainV fl kn a b c, v] w fun e w' => e = .returned (.bool (rightR x y sd W H pl ql fl kn a b c l)) ∧ Below w.heap.size w w' := by
  have H1 := hid (fun U hb => check62_any x y sd W H pv qv pl ql U (SlI.below hp hb) (SlI.below hq hb))
  have H2 := hid (fun U => grain63_any fl kn a b c U)
  have H3 := hid (fun U hb => placed64_any v l U (SlP.below hl hb))
  have HOK := hid (show rightR x y sd W H pl ql fl kn a b c l = (iceOk x y sd W H pl ql && (grainOk fl kn a b c && placedR l)) from rfl)
  have hz : ((w.alloc (.cells #[.int .i64 x, .int .i64 y, .int .i64 sd, .int .i64 W, .int .i64 H, pv, qv] 31)).alloc (.cells #[.int .i64 fl, .int .i64 kn, .int .i64 a, .int .i64 b, .int .i64 c] 24)).heap.size = w.heap.size + 2 := by simp
  have hB : Below w.heap.size w ((w.alloc (.cells #[.int .i64 x, .int .i64 y, .int .i64 sd, .int .i64 W, .int .i64 H, pv, qv] 31)).alloc (.cells #[.int .i64 fl, .int .i64 kn, .int .i64 a, .int .i64 b, .int .i64 c] 24)) := ((Below.refl w.heap.size w).alloc (Nat.le_refl _) _).alloc (by simp) _
  have hN : ((w.alloc (.cells #[.int .i64 x, .int .i64 y, .int .i64 sd, .int .i64 W, .int .i64 H, pv, qv] 31)).alloc (.cells #[.int .i64 fl, .int .i64 kn, .int .i64 a, .int .i64 b, .int .i64 c] 24)).heap[w.heap.size + 1]? = some (.cells #[.int .i64 fl, .int .i64 kn, .int .i64 a, .int .i64 b, .int .i64 c] 24 (0, 0)) := by
    simpa using heap_alloc_new (w.alloc (.cells #[.int .i64 x, .int .i64 y, .int .i64 sd, .int .i64 W, .int .i64 H, pv, qv] 31)) (.cells #[.int .i64 fl, .int .i64 kn, .int .i64 a, .int .i64 b, .int .i64 c] 24)
  obtain ⟨W1, hW1⟩ : ∃ W1, (w.alloc (.cells #[.int .i64 x, .int .i64 y, .int .i64 sd, .int .i64 W, .int .i64 H, pv, qv] 31)).alloc (.cells #[.int .i64 fl, .int .i64 kn, .int .i64 a, .int .i64 b, .int .i64 c] 24) = W1 := ⟨_, rfl⟩
  rw [hW1] at hz hB hN
  have HC := hid (show ∀ U, Below W1.heap.size W1 U → U.heap[w.heap.size + 1]? = some (.cells #[.int .i64 fl, .int .i64 kn, .int .i64 a, .int .i64 b, .int .i64 c] 24 (0, 0)) from fun U hb => (hb.block _ (by omega)).trans hN)
  have HW := hid hW1
  have HB := hid hB
  obtain ⟨pa, pc, rfl, -, -⟩ := hp.open
  obtain ⟨qa, qc, rfl, -, -⟩ := hq.open
  clear hp hq hl hN hB hW1
  generalize iceOk x y sd W H pl ql = b1 at *
  generalize grainOk fl kn a b c = b2 at *
  generalize placedR l = b3 at *
  generalize rightR x y sd W H pl ql fl kn a b c l = ok at *
  obtain ⟨a1, ha1⟩ : ∃ ans : Int, (if b1 = true then 0 else 2) = ans := ⟨_, rfl⟩
  obtain ⟨a2, ha2⟩ : ∃ ans : Int, (if b2 = true then 0 else 2) = ans := ⟨_, rfl⟩
  rw [ha1] at H1
  rw [ha2] at H2
  have HA1 := hid ha1
  have HA2 := hid ha2
  clear ha1 ha2
  go_enter Tryz.func21, Tryz.ntmps21
  go_wp2_with fail
  rw [HW.out]
  refine (H1.out _ HB.out).mono ?_
  rintro e W2 ⟨rfl, hb2⟩
  have hblk := HC.out _ hb2
  have HB2 := hid (btrans HB.out (by omega) hb2)
  have q0 : W2.cell? ⟨w.heap.size + 1, 0, none⟩ = some (.int .i64 fl) := by simp [World.cell?, hblk]
  have q1 : W2.cell? ⟨w.heap.size + 1, 1, none⟩ = some (.int .i64 kn) := by simp [World.cell?, hblk]
  have q2 : W2.cell? ⟨w.heap.size + 1, 2, none⟩ = some (.int .i64 a) := by simp [World.cell?, hblk]
  have q3 : W2.cell? ⟨w.heap.size + 1, 3, none⟩ = some (.int .i64 b) := by simp [World.cell?, hblk]
  have q4 : W2.cell? ⟨w.heap.size + 1, 4, none⟩ = some (.int .i64 c) := by simp [World.cell?, hblk]
  clear hblk HC hb2 HB HW
  cases b1 with
  | false =>
    obtain rfl : (2 : Int) = a1 := HA1.out
    go_wp2_with fail
    go_ret
    exact ⟨by rw [HOK.out]; rfl, HB2.out⟩
  | true =>
  obtain rfl : (0 : Int) = a1 := HA1.out
  go_wp2_with fail
  refine (H2.out _).mono ?_
  rintro e W3 ⟨rfl, hb3⟩
  have HB3 := hid (HB2.out.trans (hb3.mono HB2.out.size))
  clear hb3 HB2
  cases b2 with
  | false =>
    obtain rfl : (2 : Int) = a2 := HA2.out
    go_wp2_with fail
    go_ret
    exact ⟨by rw [HOK.out]; rfl, HB3.out⟩
  | true =>
  obtain rfl : (0 : Int) = a2 := HA2.out
  go_wp2_with fail
  refine (H3.out _ HB3.out).mono ?_
  rintro e W4 ⟨rfl, hb4⟩
  go_wp2_with fail
  go_ret
  exact ⟨by rw [HOK.out]; rfl, HB3.out.trans (hb4.mono HB3.out.size)⟩
end Go.Proofs.YtolnhicngepnnaaGreat
