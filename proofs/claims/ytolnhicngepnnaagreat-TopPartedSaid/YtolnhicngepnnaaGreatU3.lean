/- glide: what is valid; a tick of valid things. -/
import Derived.Test.YtolnhicngepnnaaGreatT8
import Derived.Test.YtolnhicngepnnaaGreatU1
import Derived.Test.YtolnhicngepnnaaGreatU2
namespace Go.Proofs.YtolnhicngepnnaaGreat
open Go.RowKit

/-- Ice with its grain, as a value. -/
abbrev sheetV (cx cy sd W H : Int) (pv qv : Value) (fl kn a b c : Int) : Value := .agg #[.int .i64 cx, .int .i64 cy, .int .i64 sd, .int .i64 W, .int .i64 H, pv, qv, .int .i64 fl, .int .i64 kn, .int .i64 a, .int .i64 b, .int .i64 c]
set_option maxRecDepth 100000 in
set_option maxHeartbeats 1000000 in
theorem right25_any (cx cy sd W H : Int) (pv qv : Value) (pl ql : List Int) (fl kn a b c : Int) (m : Mov) (v : Value) (l : List Mach) (w : World) (hp : SlI w pv pl) (hq : SlI w qv ql) (hl : SlM w v l) :
    Calls Tryz.prog 25 #[sheetV cx cy sd W H pv qv fl kn a b c, m.v, v] w fun e w' => e = .returned (.bool (iceOk cx cy sd W H pl ql && (grainOk fl kn a b c && (m.ok && broomsOk l)))) ∧ Below w.heap.size w w' := by
  have H1 := hid (fun U hb => check62_any cx cy sd W H pv qv pl ql U (SlI.below hp hb) (SlI.below hq hb))
  have H2 := hid (fun U => grain63_any fl kn a b c U)
  have H3 := hid (fun U => check61_any m.x m.y m.vx m.vy m.sp U)
  have H4 := hid (fun U hb => checkBrooms_any v l U (SlM.below hl hb))
  rw [show movOk m.x m.y m.vx m.vy m.sp = m.ok from rfl] at H3
  obtain ⟨pa, pc, rfl, -, -⟩ := hp.open
  obtain ⟨qa, qc, rfl, -, -⟩ := hq.open
  obtain ⟨va, vc, rfl, -, -⟩ := hl.open
  show Calls Tryz.prog 25 #[_, movV m.x m.y m.vx m.vy m.sp, _] w _
  clear hp hq hl
  generalize iceOk cx cy sd W H pl ql = b1 at *
  generalize grainOk fl kn a b c = b2 at *
  generalize m.ok = b3 at *
  generalize broomsOk l = b4 at *
  obtain ⟨x, y, vx, vy, sp⟩ := m
  dsimp only at H3 ⊢
  obtain ⟨W1, hW1⟩ : ∃ W1, (w.alloc (.cells #[.int .i64 cx, .int .i64 cy, .int .i64 sd, .int .i64 W, .int .i64 H, .slice pa pl.length pc, .slice qa ql.length qc, .int .i64 fl, .int .i64 kn, .int .i64 a, .int .i64 b, .int .i64 c] 94)).alloc (.cells #[.int .i64 x, .int .i64 y, .int .i64 vx, .int .i64 vy, .int .i64 sp] 39) = W1 := ⟨_, rfl⟩
  have hb1 : Below w.heap.size w W1 := by rw [← hW1]; exact ((Below.refl _ w).alloc (Nat.le_refl _) _).alloc (by simp) _
  have b0 : W1.heap[w.heap.size]? = some (.cells #[.int .i64 cx, .int .i64 cy, .int .i64 sd, .int .i64 W, .int .i64 H, .slice pa pl.length pc, .slice qa ql.length qc, .int .i64 fl, .int .i64 kn, .int .i64 a, .int .i64 b, .int .i64 c] 94 (0, 0)) := by
    rw [← hW1, Below.heap_alloc _ _ _ (by simp)]; exact heap_alloc_new w _
  have b1' : W1.heap[w.heap.size + 1]? = some (.cells #[.int .i64 x, .int .i64 y, .int .i64 vx, .int .i64 vy, .int .i64 sp] 39 (0, 0)) := by
    rw [← hW1]
    simpa using heap_alloc_new (w.alloc (.cells #[.int .i64 cx, .int .i64 cy, .int .i64 sd, .int .i64 W, .int .i64 H, .slice pa pl.length pc, .slice qa ql.length qc, .int .i64 fl, .int .i64 kn, .int .i64 a, .int .i64 b, .int .i64 c] 94)) (.cells #[.int .i64 x, .int .i64 y, .int .i64 vx, .int .i64 vy, .int .i64 sp] 39)
  have HX := hid hb1
  have HA := hid b0
  have HB := hid b1'
  have HW := hid hW1
  clear hW1 hb1 b0 b1'
  go_enter Tryz.func25, Tryz.ntmps25
  go_upto_region 1 with fail
  rw [HW.out]
  clear HW
  have a0 := cellN (i := 0) (v := .int .i64 cx) HA.out rfl
  have a1 := cellN (i := 1) (v := .int .i64 cy) HA.out rfl
  have a2 := cellN (i := 2) (v := .int .i64 sd) HA.out rfl
  have a3 := cellN (i := 3) (v := .int .i64 W) HA.out rfl
  have a4 := cellN (i := 4) (v := .int .i64 H) HA.out rfl
  have a5 := cellN (i := 5) (v := .slice pa pl.length pc) HA.out rfl
  have a6 := cellN (i := 6) (v := .slice qa ql.length qc) HA.out rfl
  go_wp2_with fail
  refine (H1.out _ HX.out).mono ?_
  rintro e w2 ⟨rfl, hb⟩
  have HA2 := hid (carry HA.out hb)
  have HB2 := hid (carry HB.out hb)
  have HX2 := hid (HX.out.trans (hb.mono HX.out.size))
  clear hb a0 a1 a2 a3 a4 a5 a6 HA HB HX H1
  cases b1 with
  | false =>
    go_wp2_with fail
    go_ret
    exact ⟨rfl, HX2.out⟩
  | true =>
  have a7 := cellN (i := 7) (v := .int .i64 fl) HA2.out rfl
  have a8 := cellN (i := 8) (v := .int .i64 kn) HA2.out rfl
  have a9 := cellN (i := 9) (v := .int .i64 a) HA2.out rfl
  have a10 := cellN (i := 10) (v := .int .i64 b) HA2.out rfl
  have a11 := cellN (i := 11) (v := .int .i64 c) HA2.out rfl
  go_wp2_with fail
  refine (H2.out _).mono ?_
  rintro e w3 ⟨rfl, hb⟩
  have HB3 := hid (carry HB2.out hb)
  have HX3 := hid (HX2.out.trans (hb.mono HX2.out.size))
  clear hb a7 a8 a9 a10 a11 HA2 HB2 HX2 H2
  cases b2 with
  | false =>
    go_wp2_with fail
    go_ret
    exact ⟨rfl, HX3.out⟩
  | true =>
  have m0 := cellN (i := 0) (v := .int .i64 x) HB3.out rfl
  have m1 := cellN (i := 1) (v := .int .i64 y) HB3.out rfl
  have m2 := cellN (i := 2) (v := .int .i64 vx) HB3.out rfl
  have m3 := cellN (i := 3) (v := .int .i64 vy) HB3.out rfl
  have m4 := cellN (i := 4) (v := .int .i64 sp) HB3.out rfl
  go_wp2_with fail
  refine (H3.out _).mono ?_
  rintro e w4 ⟨rfl, hb⟩
  have HX4 := hid (HX3.out.trans (hb.mono HX3.out.size))
  clear hb m0 m1 m2 m3 m4 HB3 HX3 H3
  cases b3 with
  | false =>
    go_wp2_with fail
    go_ret
    exact ⟨rfl, HX4.out⟩
  | true =>
  go_wp2_with fail
  refine (H4.out _ HX4.out).mono ?_
  rintro e w5 ⟨rfl, hb⟩
  have HX5 := hid (HX4.out.trans (hb.mono HX4.out.size))
  clear hb
  cases b4
  all_goals
    go_wp2_with fail
    go_ret
    exact ⟨rfl, HX5.out⟩
end Go.Proofs.YtolnhicngepnnaaGreat
