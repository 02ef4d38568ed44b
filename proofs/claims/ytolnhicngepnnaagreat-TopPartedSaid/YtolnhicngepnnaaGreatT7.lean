/- glide.tick, from the contracts of what it calls. -/
import Derived.Test.YtolnhicngepnnaaGreatT6
import Derived.BigRegion
namespace Go.Proofs.YtolnhicngepnnaaGreat
open Go.RowKit

/-- What glide's must raises. -/
abbrev gmisfit (c : Int) : List PanicEntry := [{ v := .iface 206 (.agg #[.int .i64 c]), recovered := false }]
theorem cellN {w : World} {b i : Nat} {cs : Array Value} {t : TypeId} {v : Value} (h : w.heap[b]? = some (.cells cs t (0, 0))) (hv : cs[i]? = some v) : w.cell? ⟨b, i, none⟩ = some v := by
  simp [World.cell?, h, hv]
theorem frozN {w : World} {b i : Nat} {cs : Array Value} {t : TypeId} (h : w.heap[b]? = some (.cells cs t (0, 0))) : w.frozen? ⟨b, i, none⟩ = false := by
  simp [World.frozen?, h]
theorem load39 (w : World) (b : Nat) (x y vx vy sp : Value) (t : TypeId) (h : w.heap[b]? = some (.cells #[x, y, vx, vy, sp] t (0, 0))) : (loadVar 39 ⟨b, 0, none⟩).run Tryz.prog w = .ok (.agg #[x, y, vx, vy, sp]) w := by
  simp [go_sem, World.cell?, h]
theorem put5 {w : World} {b : Nat} {t : TypeId} {a0 a1 a2 a3 a4 : Value} (u0 u1 u2 u3 u4 : Value) (h : w.heap[b]? = some (.cells #[a0, a1, a2, a3, a4] t (0, 0))) :
    (((((w.setCell ⟨b, 0, none⟩ u0).setCell ⟨b, 1, none⟩ u1).setCell ⟨b, 2, none⟩ u2).setCell ⟨b, 3, none⟩ u3).setCell ⟨b, 4, none⟩ u4).heap[b]? = some (.cells #[u0, u1, u2, u3, u4] t (0, 0)) := by
  have h1 := heap_setCell_same _ b 0 _ _ u0 h
  have h2 := heap_setCell_same _ b 1 _ _ u1 h1
  have h3 := heap_setCell_same _ b 2 _ _ u2 h2
  have h4 := heap_setCell_same _ b 3 _ _ u3 h3
  have h5 := heap_setCell_same _ b 4 _ _ u4 h4
  rw [h5]; simp
theorem put5_below {w w' : World} {B b : Nat} (u0 u1 u2 u3 u4 : Value) (h : Below B w w') (hb : B ≤ b) : Below B w (((((w'.setCell ⟨b, 0, none⟩ u0).setCell ⟨b, 1, none⟩ u1).setCell ⟨b, 2, none⟩ u2).setCell ⟨b, 3, none⟩ u3).setCell ⟨b, 4, none⟩ u4) :=
  ((((h.setCell (p := ⟨b, 0, none⟩) hb u0).setCell (p := ⟨b, 1, none⟩) hb u1).setCell (p := ⟨b, 2, none⟩) hb u2).setCell (p := ⟨b, 3, none⟩) hb u3).setCell (p := ⟨b, 4, none⟩) hb u4
theorem put5_23 {w : World} {b : Nat} {t : TypeId} {a0 a1 a2 a3 a4 : Value} (u2 u3 : Value) (h : w.heap[b]? = some (.cells #[a0, a1, a2, a3, a4] t (0, 0))) :
    ((w.setCell ⟨b, 2, none⟩ u2).setCell ⟨b, 3, none⟩ u3).heap[b]? = some (.cells #[a0, a1, u2, u3, a4] t (0, 0)) := by
  have h1 := heap_setCell_same _ b 2 _ _ u2 h
  have h2 := heap_setCell_same _ b 3 _ _ u3 h1
  rw [h2]; simp
theorem put5_01 {w : World} {b : Nat} {t : TypeId} {a0 a1 a2 a3 a4 : Value} (u0 u1 : Value) (h : w.heap[b]? = some (.cells #[a0, a1, a2, a3, a4] t (0, 0))) :
    ((w.setCell ⟨b, 0, none⟩ u0).setCell ⟨b, 1, none⟩ u1).heap[b]? = some (.cells #[u0, u1, a2, a3, a4] t (0, 0)) := by
  have h1 := heap_setCell_same _ b 0 _ _ u0 h
  have h2 := heap_setCell_same _ b 1 _ _ u1 h1
  rw [h2]; simp
theorem mkig (c : Int) (w : World) : (Instr.makeInterface 206 (.agg #[.int .i64 c])).run Tryz.prog w = .ok (.iface 206 (.agg #[.int .i64 c])) w := by kernel_rfl
theorem put_oth {w : World} {b k : Nat} (i j : Nat) (u v : Value) (h : k ≠ b) : ((w.setCell ⟨b, i, none⟩ u).setCell ⟨b, j, none⟩ v).heap[k]? = w.heap[k]? := by
  rw [heap_setCell_other _ ⟨b, j, none⟩ k _ h, heap_setCell_other _ ⟨b, i, none⟩ k _ h]
set_option maxRecDepth 100000 in
set_option maxHeartbeats 4000000 in
theorem tick113_stop (cx cy sd W H fl kn a b c : Int) (pa qa : Option Addr) (pn pc qn qc : Nat) (x y vx vy sp str sn br len : Int) (hs : 0 ≤ str ∧ str ≤ 1000) (w : World) (H1 : ∀ U, Below w.heap.size w U → Calls Tryz.prog 9 #[iceV cx cy sd W H (.slice pa pn pc) (.slice qa qn qc), grainV fl kn a b c, .agg #[.int .i64 x, .int .i64 y]] U fun e U' => e = .returned (.tuple #[.int .i64 sn, .int .i64 0]) ∧ Below U.heap.size U U') (H2 : ∀ U, Calls Tryz.prog 55 #[.int .i64 sn, .int .i64 (5000 - str), .int .i64 5000, .int .i64 3] U fun e U' => e = .returned (.tuple #[.int .i64 br, .int .i64 0]) ∧ Below U.heap.size U U') (H3 : ∀ U, Calls Tryz.prog 154 #[.agg #[.int .i64 vx, .int .i64 vy], .int .i64 1] U fun e U' => e = .returned (.tuple #[.int .i64 len, .int .i64 0]) ∧ Below U.heap.size U U') (hle : len ≤ br) :
    Calls Tryz.prog 113 #[.agg #[.int .i64 cx, .int .i64 cy, .int .i64 sd, .int .i64 W, .int .i64 H, .slice pa pn pc, .slice qa qn qc, .int .i64 fl, .int .i64 kn, .int .i64 a, .int .i64 b, .int .i64 c], movV x y vx vy sp, .int .i64 str] w fun e w' => e = .returned (movV x y 0 0 0) ∧ Below w.heap.size w w' := by
  obtain ⟨W1, hW1⟩ : ∃ W1, ((w.alloc (.cells #[.int .i64 cx, .int .i64 cy, .int .i64 sd, .int .i64 W, .int .i64 H, .slice pa pn pc, .slice qa qn qc, .int .i64 fl, .int .i64 kn, .int .i64 a, .int .i64 b, .int .i64 c] 94)).alloc (.cells #[.int .i64 x, .int .i64 y, .int .i64 vx, .int .i64 vy, .int .i64 sp] 39)).alloc (.cells #[.int .i64 0, .int .i64 0, .int .i64 0, .int .i64 0, .int .i64 0] 39) = W1 := ⟨_, rfl⟩
  have hb1 : Below w.heap.size w W1 := by rw [← hW1]; exact (((Below.refl _ w).alloc (Nat.le_refl _) _).alloc (by simp) _).alloc (by simp <;> omega) _
  have b0 : W1.heap[w.heap.size]? = some (.cells #[.int .i64 cx, .int .i64 cy, .int .i64 sd, .int .i64 W, .int .i64 H, .slice pa pn pc, .slice qa qn qc, .int .i64 fl, .int .i64 kn, .int .i64 a, .int .i64 b, .int .i64 c] 94 (0, 0)) := by
    rw [← hW1, Below.heap_alloc _ _ _ (by simp <;> omega), Below.heap_alloc _ _ _ (by simp)]; exact heap_alloc_new w _
  have b1 : W1.heap[w.heap.size + 1]? = some (.cells #[.int .i64 x, .int .i64 y, .int .i64 vx, .int .i64 vy, .int .i64 sp] 39 (0, 0)) := by
    rw [← hW1, Below.heap_alloc _ _ _ (by simp)]
    simpa using heap_alloc_new (w.alloc (.cells #[.int .i64 cx, .int .i64 cy, .int .i64 sd, .int .i64 W, .int .i64 H, .slice pa pn pc, .slice qa qn qc, .int .i64 fl, .int .i64 kn, .int .i64 a, .int .i64 b, .int .i64 c] 94)) (.cells #[.int .i64 x, .int .i64 y, .int .i64 vx, .int .i64 vy, .int .i64 sp] 39)
  have b2 : W1.heap[w.heap.size + 1 + 1]? = some (.cells #[.int .i64 0, .int .i64 0, .int .i64 0, .int .i64 0, .int .i64 0] 39 (0, 0)) := by
    rw [← hW1]
    simpa using heap_alloc_new ((w.alloc (.cells #[.int .i64 cx, .int .i64 cy, .int .i64 sd, .int .i64 W, .int .i64 H, .slice pa pn pc, .slice qa qn qc, .int .i64 fl, .int .i64 kn, .int .i64 a, .int .i64 b, .int .i64 c] 94)).alloc (.cells #[.int .i64 x, .int .i64 y, .int .i64 vx, .int .i64 vy, .int .i64 sp] 39)) (.cells #[.int .i64 0, .int .i64 0, .int .i64 0, .int .i64 0, .int .i64 0] 39)
  have HX := hid hb1
  have HA := hid b0
  have HB := hid b1
  have HC := hid b2
  have HW := hid hW1
  have hw1 : IntKind.i64.wrap (5000 - str) = 5000 - str := by rw [IntKind.wrap_i64]; omega
  have hw2 : IntKind.i64.wrap (2000 - str) = 2000 - str := by rw [IntKind.wrap_i64]; omega
  clear hW1 hb1 b0 b1 b2 hs
  go_enter Tryz.func113, Tryz.ntmps113
  go_upto_region 1 with fail
  rw [HW.out]
  clear HW
  have a0 := cellN (i := 0) (v := (.int .i64 cx)) HA.out rfl
  have a1 := cellN (i := 1) (v := (.int .i64 cy)) HA.out rfl
  have a2 := cellN (i := 2) (v := (.int .i64 sd)) HA.out rfl
  have a3 := cellN (i := 3) (v := (.int .i64 W)) HA.out rfl
  have a4 := cellN (i := 4) (v := (.int .i64 H)) HA.out rfl
  have a5 := cellN (i := 5) (v := (.slice pa pn pc)) HA.out rfl
  have a6 := cellN (i := 6) (v := (.slice qa qn qc)) HA.out rfl
  have a7 := cellN (i := 7) (v := (.int .i64 fl)) HA.out rfl
  have a8 := cellN (i := 8) (v := (.int .i64 kn)) HA.out rfl
  have a9 := cellN (i := 9) (v := (.int .i64 a)) HA.out rfl
  have a10 := cellN (i := 10) (v := (.int .i64 b)) HA.out rfl
  have a11 := cellN (i := 11) (v := (.int .i64 c)) HA.out rfl
  have m0 := cellN (i := 0) (v := (.int .i64 x)) HB.out rfl
  have m1 := cellN (i := 1) (v := (.int .i64 y)) HB.out rfl
  go_wp2_with fail
  refine (H1 _ HX.out).mono ?_
  rintro e w2 ⟨rfl, hb⟩
  have HA := hid (carry HA.out hb)
  have HB := hid (carry HB.out hb)
  have HC := hid (carry HC.out hb)
  have HX := hid (HX.out.trans (hb.mono HX.out.size))
  clear hb
  clear a0 a1 a2 a3 a4 a5 a6 a7 a8 a9 a10 a11
  clear m0 m1
  go_wp2_with fail
  refine (must153_ok _ _).mono ?_
  rintro e w0 ⟨rfl, rfl⟩
  go_wp2_with fail
  refine (H2 _).mono ?_
  rintro e w3 ⟨rfl, hb⟩
  have HA := hid (carry HA.out hb)
  have HB := hid (carry HB.out hb)
  have HC := hid (carry HC.out hb)
  have HX := hid (HX.out.trans (hb.mono HX.out.size))
  clear hb
  go_wp2_with fail
  refine (must153_ok _ _).mono ?_
  rintro e w0 ⟨rfl, rfl⟩
  have m2 := cellN (i := 2) (v := (.int .i64 vx)) HB.out rfl
  have m3 := cellN (i := 3) (v := (.int .i64 vy)) HB.out rfl
  go_wp2_with fail
  refine (H3 _).mono ?_
  rintro e w4 ⟨rfl, hb⟩
  have HA := hid (carry HA.out hb)
  have HB := hid (carry HB.out hb)
  have HC := hid (carry HC.out hb)
  have HX := hid (HX.out.trans (hb.mono HX.out.size))
  clear hb
  clear m2 m3
  go_wp2_with fail
  refine (must153_ok _ _).mono ?_
  rintro e w0 ⟨rfl, rfl⟩
  have m0 := cellN (i := 0) (v := (.int .i64 x)) HB.out rfl
  have m1 := cellN (i := 1) (v := (.int .i64 y)) HB.out rfl
  have z0 := cellN (i := 0) (v := .int .i64 0) HC.out rfl
  have z1 := cellN (i := 1) (v := .int .i64 0) HC.out rfl
  have z2 := cellN (i := 2) (v := .int .i64 0) HC.out rfl
  have z3 := cellN (i := 3) (v := .int .i64 0) HC.out rfl
  have z4 := cellN (i := 4) (v := .int .i64 0) HC.out rfl
  have f0 := frozN (i := 0) HC.out
  have f1 := frozN (i := 1) HC.out
  have f2 := frozN (i := 2) HC.out
  have f3 := frozN (i := 3) HC.out
  have f4 := frozN (i := 4) HC.out
  go_wp2_with fail
  have hp := put5 (.int .i64 x) (.int .i64 y) (.int .i64 0) (.int .i64 0) (.int .i64 0) HC.out
  have hb9 := put5_below (b := w.heap.size + 1 + 1) (.int .i64 x) (.int .i64 y) (.int .i64 0) (.int .i64 0) (.int .i64 0) HX.out (by omega)
  exact bodyPost_ret (results_c1 rfl _ _ _ ⟨w.heap.size + 1 + 1, 0, none⟩ _ rfl (load39 _ _ _ _ _ _ _ _ hp)) rfl ⟨rfl, hb9⟩
set_option maxRecDepth 100000 in
set_option maxHeartbeats 8000000 in
theorem tick113_go (cx cy sd W H fl kn a b c : Int) (pa qa : Option Addr) (pn pc qn qc : Nat) (x y vx vy sp str sn br len : Int) (d0 d1 d2 ux uy bx by1 lx ly kk ax ay px py qx qy nx ny : Int) (ok : Bool) (hs : 0 ≤ str ∧ str ≤ 1000) (w : World) (H1 : ∀ U, Below w.heap.size w U → Calls Tryz.prog 9 #[iceV cx cy sd W H (.slice pa pn pc) (.slice qa qn qc), grainV fl kn a b c, .agg #[.int .i64 x, .int .i64 y]] U fun e U' => e = .returned (.tuple #[.int .i64 sn, .int .i64 0]) ∧ Below U.heap.size U U') (H2 : ∀ U, Calls Tryz.prog 55 #[.int .i64 sn, .int .i64 (5000 - str), .int .i64 5000, .int .i64 3] U fun e U' => e = .returned (.tuple #[.int .i64 br, .int .i64 0]) ∧ Below U.heap.size U U') (H3 : ∀ U, Calls Tryz.prog 154 #[.agg #[.int .i64 vx, .int .i64 vy], .int .i64 1] U fun e U' => e = .returned (.tuple #[.int .i64 len, .int .i64 0]) ∧ Below U.heap.size U U') (hle : ¬ len ≤ br) (H4 : ∀ U, Below w.heap.size w U → Calls Tryz.prog 155 #[iceV cx cy sd W H (.slice pa pn pc) (.slice qa qn qc), grainV fl kn a b c, .agg #[.int .i64 x, .int .i64 y]] U fun e U' => e = .returned (.tuple #[.int .i64 d0, .int .i64 0]) ∧ Below U.heap.size U U') (H5 : ∀ U, Calls Tryz.prog 55 #[.int .i64 d0, .int .i64 (2000 - str), .int .i64 2000, .int .i64 3] U fun e U' => e = .returned (.tuple #[.int .i64 d1, .int .i64 0]) ∧ Below U.heap.size U U') (H6 : ∀ U, Calls Tryz.prog 55 #[.int .i64 d1, .int .i64 sp, .int .i64 1000, .int .i64 0] U fun e U' => e = .returned (.tuple #[.int .i64 d2, .int .i64 0]) ∧ Below U.heap.size U U') (H7 : ∀ U, Calls Tryz.prog 138 #[.agg #[.int .i64 vx, .int .i64 vy]] U fun e U' => e = .returned (.tuple #[.agg #[.int .i64 ux, .int .i64 uy], .int .i64 0]) ∧ Below U.heap.size U U') (H8 : ∀ U, Calls Tryz.prog 141 #[.agg #[.int .i64 ux, .int .i64 uy], .int .i64 br, .int .i64 0] U fun e U' => e = .returned (.tuple #[.agg #[.int .i64 bx, .int .i64 by1], .int .i64 0]) ∧ Below U.heap.size U U') (H9 : ∀ U, Calls Tryz.prog 157 #[.agg #[.int .i64 ux, .int .i64 uy]] U fun e U' => e = .returned (.agg #[.int .i64 lx, .int .i64 ly]) ∧ Below U.heap.size U U') (H10 : ∀ U, Calls Tryz.prog 22 #[.int .i64 br, .int .i64 d2, .int .i64 0] U fun e U' => e = .returned (.tuple #[.int .i64 kk, .int .i64 0]) ∧ Below U.heap.size U U') (H11 : ∀ U, Calls Tryz.prog 141 #[.agg #[.int .i64 lx, .int .i64 ly], .int .i64 kk, .int .i64 0] U fun e U' => e = .returned (.tuple #[.agg #[.int .i64 ax, .int .i64 ay], .int .i64 0]) ∧ Below U.heap.size U U') (H12 : ∀ U, Calls Tryz.prog 135 #[.agg #[.int .i64 vx, .int .i64 vy], .agg #[.int .i64 bx, .int .i64 by1]] U fun e U' => e = .returned (.tuple #[.agg #[.int .i64 px, .int .i64 py], .int .i64 0]) ∧ Below U.heap.size U U') (H13 : ∀ U, Calls Tryz.prog 142 #[.agg #[.int .i64 px, .int .i64 py], .agg #[.int .i64 ax, .int .i64 ay]] U fun e U' => e = .returned (.tuple #[.agg #[.int .i64 qx, .int .i64 qy], .int .i64 0]) ∧ Below U.heap.size U U') (H14 : ∀ U, Calls Tryz.prog 142 #[.agg #[.int .i64 x, .int .i64 y], .agg #[.int .i64 qx, .int .i64 qy]] U fun e U' => e = .returned (.tuple #[.agg #[.int .i64 nx, .int .i64 ny], .int .i64 0]) ∧ Below U.heap.size U U') (H15 : ∀ U, Calls Tryz.prog 61 #[movV nx ny qx qy sp] U fun e U' => e = .returned (.int .i64 (if ok then 0 else 2)) ∧ Below U.heap.size U U') :
    Calls Tryz.prog 113 #[.agg #[.int .i64 cx, .int .i64 cy, .int .i64 sd, .int .i64 W, .int .i64 H, .slice pa pn pc, .slice qa qn qc, .int .i64 fl, .int .i64 kn, .int .i64 a, .int .i64 b, .int .i64 c], movV x y vx vy sp, .int .i64 str] w fun e w' => (if ok then e = .returned (movV nx ny qx qy sp) else e = .panicked (gmisfit 4)) ∧ Below w.heap.size w w' := by
  obtain ⟨W1, hW1⟩ : ∃ W1, ((w.alloc (.cells #[.int .i64 cx, .int .i64 cy, .int .i64 sd, .int .i64 W, .int .i64 H, .slice pa pn pc, .slice qa qn qc, .int .i64 fl, .int .i64 kn, .int .i64 a, .int .i64 b, .int .i64 c] 94)).alloc (.cells #[.int .i64 x, .int .i64 y, .int .i64 vx, .int .i64 vy, .int .i64 sp] 39)).alloc (.cells #[.int .i64 0, .int .i64 0, .int .i64 0, .int .i64 0, .int .i64 0] 39) = W1 := ⟨_, rfl⟩
  have hb1 : Below w.heap.size w W1 := by rw [← hW1]; exact (((Below.refl _ w).alloc (Nat.le_refl _) _).alloc (by simp) _).alloc (by simp <;> omega) _
  have b0 : W1.heap[w.heap.size]? = some (.cells #[.int .i64 cx, .int .i64 cy, .int .i64 sd, .int .i64 W, .int .i64 H, .slice pa pn pc, .slice qa qn qc, .int .i64 fl, .int .i64 kn, .int .i64 a, .int .i64 b, .int .i64 c] 94 (0, 0)) := by
    rw [← hW1, Below.heap_alloc _ _ _ (by simp <;> omega), Below.heap_alloc _ _ _ (by simp)]; exact heap_alloc_new w _
  have b1 : W1.heap[w.heap.size + 1]? = some (.cells #[.int .i64 x, .int .i64 y, .int .i64 vx, .int .i64 vy, .int .i64 sp] 39 (0, 0)) := by
    rw [← hW1, Below.heap_alloc _ _ _ (by simp)]
    simpa using heap_alloc_new (w.alloc (.cells #[.int .i64 cx, .int .i64 cy, .int .i64 sd, .int .i64 W, .int .i64 H, .slice pa pn pc, .slice qa qn qc, .int .i64 fl, .int .i64 kn, .int .i64 a, .int .i64 b, .int .i64 c] 94)) (.cells #[.int .i64 x, .int .i64 y, .int .i64 vx, .int .i64 vy, .int .i64 sp] 39)
  have b2 : W1.heap[w.heap.size + 1 + 1]? = some (.cells #[.int .i64 0, .int .i64 0, .int .i64 0, .int .i64 0, .int .i64 0] 39 (0, 0)) := by
    rw [← hW1]
    simpa using heap_alloc_new ((w.alloc (.cells #[.int .i64 cx, .int .i64 cy, .int .i64 sd, .int .i64 W, .int .i64 H, .slice pa pn pc, .slice qa qn qc, .int .i64 fl, .int .i64 kn, .int .i64 a, .int .i64 b, .int .i64 c] 94)).alloc (.cells #[.int .i64 x, .int .i64 y, .int .i64 vx, .int .i64 vy, .int .i64 sp] 39)) (.cells #[.int .i64 0, .int .i64 0, .int .i64 0, .int .i64 0, .int .i64 0] 39)
  have HX := hid hb1
  have HA := hid b0
  have HB := hid b1
  have HC := hid b2
  have HW := hid hW1
  have hw1 : IntKind.i64.wrap (5000 - str) = 5000 - str := by rw [IntKind.wrap_i64]; omega
  have hw2 : IntKind.i64.wrap (2000 - str) = 2000 - str := by rw [IntKind.wrap_i64]; omega
  clear hW1 hb1 b0 b1 b2 hs
  go_enter Tryz.func113, Tryz.ntmps113
  go_upto_region 1 with fail
  rw [HW.out]
  clear HW
  have a0 := cellN (i := 0) (v := (.int .i64 cx)) HA.out rfl
  have a1 := cellN (i := 1) (v := (.int .i64 cy)) HA.out rfl
  have a2 := cellN (i := 2) (v := (.int .i64 sd)) HA.out rfl
  have a3 := cellN (i := 3) (v := (.int .i64 W)) HA.out rfl
  have a4 := cellN (i := 4) (v := (.int .i64 H)) HA.out rfl
  have a5 := cellN (i := 5) (v := (.slice pa pn pc)) HA.out rfl
  have a6 := cellN (i := 6) (v := (.slice qa qn qc)) HA.out rfl
  have a7 := cellN (i := 7) (v := (.int .i64 fl)) HA.out rfl
  have a8 := cellN (i := 8) (v := (.int .i64 kn)) HA.out rfl
  have a9 := cellN (i := 9) (v := (.int .i64 a)) HA.out rfl
  have a10 := cellN (i := 10) (v := (.int .i64 b)) HA.out rfl
  have a11 := cellN (i := 11) (v := (.int .i64 c)) HA.out rfl
  have m0 := cellN (i := 0) (v := (.int .i64 x)) HB.out rfl
  have m1 := cellN (i := 1) (v := (.int .i64 y)) HB.out rfl
  go_wp2_with fail
  refine (H1 _ HX.out).mono ?_
  rintro e w2 ⟨rfl, hb⟩
  have HA := hid (carry HA.out hb)
  have HB := hid (carry HB.out hb)
  have HC := hid (carry HC.out hb)
  have HX := hid (HX.out.trans (hb.mono HX.out.size))
  clear hb
  clear a0 a1 a2 a3 a4 a5 a6 a7 a8 a9 a10 a11
  clear m0 m1
  go_wp2_with fail
  refine (must153_ok _ _).mono ?_
  rintro e w0 ⟨rfl, rfl⟩
  go_wp2_with fail
  refine (H2 _).mono ?_
  rintro e w3 ⟨rfl, hb⟩
  have HA := hid (carry HA.out hb)
  have HB := hid (carry HB.out hb)
  have HC := hid (carry HC.out hb)
  have HX := hid (HX.out.trans (hb.mono HX.out.size))
  clear hb
  go_wp2_with fail
  refine (must153_ok _ _).mono ?_
  rintro e w0 ⟨rfl, rfl⟩
  have m2 := cellN (i := 2) (v := (.int .i64 vx)) HB.out rfl
  have m3 := cellN (i := 3) (v := (.int .i64 vy)) HB.out rfl
  go_wp2_with fail
  refine (H3 _).mono ?_
  rintro e w4 ⟨rfl, hb⟩
  have HA := hid (carry HA.out hb)
  have HB := hid (carry HB.out hb)
  have HC := hid (carry HC.out hb)
  have HX := hid (HX.out.trans (hb.mono HX.out.size))
  clear hb
  clear m2 m3
  go_wp2_with fail
  refine (must153_ok _ _).mono ?_
  rintro e w0 ⟨rfl, rfl⟩
  have a0 := cellN (i := 0) (v := (.int .i64 cx)) HA.out rfl
  have a1 := cellN (i := 1) (v := (.int .i64 cy)) HA.out rfl
  have a2 := cellN (i := 2) (v := (.int .i64 sd)) HA.out rfl
  have a3 := cellN (i := 3) (v := (.int .i64 W)) HA.out rfl
  have a4 := cellN (i := 4) (v := (.int .i64 H)) HA.out rfl
  have a5 := cellN (i := 5) (v := (.slice pa pn pc)) HA.out rfl
  have a6 := cellN (i := 6) (v := (.slice qa qn qc)) HA.out rfl
  have a7 := cellN (i := 7) (v := (.int .i64 fl)) HA.out rfl
  have a8 := cellN (i := 8) (v := (.int .i64 kn)) HA.out rfl
  have a9 := cellN (i := 9) (v := (.int .i64 a)) HA.out rfl
  have a10 := cellN (i := 10) (v := (.int .i64 b)) HA.out rfl
  have a11 := cellN (i := 11) (v := (.int .i64 c)) HA.out rfl
  have m0 := cellN (i := 0) (v := (.int .i64 x)) HB.out rfl
  have m1 := cellN (i := 1) (v := (.int .i64 y)) HB.out rfl
  go_wp2_with fail
  refine (H4 _ HX.out).mono ?_
  rintro e w5 ⟨rfl, hb⟩
  have HA := hid (carry HA.out hb)
  have HB := hid (carry HB.out hb)
  have HC := hid (carry HC.out hb)
  have HX := hid (HX.out.trans (hb.mono HX.out.size))
  clear hb
  clear a0 a1 a2 a3 a4 a5 a6 a7 a8 a9 a10 a11
  clear m0 m1
  go_wp2_with fail
  refine (must153_ok _ _).mono ?_
  rintro e w0 ⟨rfl, rfl⟩
  clear HA
  go_wp2_with fail
  refine (H5 _).mono ?_
  rintro e w6 ⟨rfl, hb⟩
  have HB := hid (carry HB.out hb)
  have HC := hid (carry HC.out hb)
  have HX := hid (HX.out.trans (hb.mono HX.out.size))
  clear hb
  go_wp2_with fail
  refine (must153_ok _ _).mono ?_
  rintro e w0 ⟨rfl, rfl⟩
  have m4 := cellN (i := 4) (v := (.int .i64 sp)) HB.out rfl
  go_wp2_with fail
  refine (H6 _).mono ?_
  rintro e w7 ⟨rfl, hb⟩
  have HB := hid (carry HB.out hb)
  have HC := hid (carry HC.out hb)
  have HX := hid (HX.out.trans (hb.mono HX.out.size))
  clear hb
  clear m4
  go_wp2_with fail
  refine (must153_ok _ _).mono ?_
  rintro e w0 ⟨rfl, rfl⟩
  have m2 := cellN (i := 2) (v := (.int .i64 vx)) HB.out rfl
  have m3 := cellN (i := 3) (v := (.int .i64 vy)) HB.out rfl
  go_wp2_with fail
  refine (H7 _).mono ?_
  rintro e w8 ⟨rfl, hb⟩
  have HB := hid (carry HB.out hb)
  have HC := hid (carry HC.out hb)
  have HX := hid (HX.out.trans (hb.mono HX.out.size))
  clear hb
  clear m2 m3
  go_wp2_with fail
  refine (must156_ok _ _ _).mono ?_
  rintro e w9 ⟨rfl, hb⟩
  have HB := hid (carry HB.out hb)
  have HC := hid (carry HC.out hb)
  have HX := hid (HX.out.trans (hb.mono HX.out.size))
  clear hb
  have HCold := HC
  have HB := hid (carryA HB.out (.cells #[.int .i64 ux, .int .i64 uy] 28))
  have HC := hid (carryA HC.out (.cells #[.int .i64 ux, .int .i64 uy] 28))
  have HX := hid (HX.out.alloc HX.out.size (.cells #[.int .i64 ux, .int .i64 uy] 28))
  have HD := hid (heap_alloc_new w9 (.cells #[.int .i64 ux, .int .i64 uy] 28))
  have HSHD := hid (show w.heap.size + 1 + 1 < w9.heap.size from (Array.getElem?_eq_some_iff.1 HCold.out).1)
  clear HCold
  go_upto_region 9 with fail
  obtain ⟨pHD, hp⟩ : ∃ n, w9.heap.size = n := ⟨_, rfl⟩
  rw [hp] at HD HSHD ⊢
  clear hp
  generalize w9.alloc (.cells #[.int .i64 ux, .int .i64 uy] 28) = v9 at *
  obtain ⟨d0c, d1c, -, -⟩ := cells2 HD.out
  go_wp2_with fail
  refine (H8 _).mono ?_
  rintro e w10 ⟨rfl, hb⟩
  have HB := hid (carry HB.out hb)
  have HC := hid (carry HC.out hb)
  have HD := hid (carry HD.out hb)
  have HX := hid (HX.out.trans (hb.mono HX.out.size))
  clear hb
  clear d0c d1c
  go_wp2_with fail
  refine (must156_ok _ _ _).mono ?_
  rintro e w11 ⟨rfl, hb⟩
  have HB := hid (carry HB.out hb)
  have HC := hid (carry HC.out hb)
  have HD := hid (carry HD.out hb)
  have HX := hid (HX.out.trans (hb.mono HX.out.size))
  clear hb
  have HCold := HC
  have HB := hid (carryA HB.out (.cells #[.int .i64 bx, .int .i64 by1] 28))
  have HC := hid (carryA HC.out (.cells #[.int .i64 bx, .int .i64 by1] 28))
  have HD := hid (carryA HD.out (.cells #[.int .i64 bx, .int .i64 by1] 28))
  have HX := hid (HX.out.alloc HX.out.size (.cells #[.int .i64 bx, .int .i64 by1] 28))
  have HE := hid (heap_alloc_new w11 (.cells #[.int .i64 bx, .int .i64 by1] 28))
  have HSHE := hid (show w.heap.size + 1 + 1 < w11.heap.size from (Array.getElem?_eq_some_iff.1 HCold.out).1)
  clear HCold
  go_upto_region 10 with fail
  obtain ⟨pHE, hp⟩ : ∃ n, w11.heap.size = n := ⟨_, rfl⟩
  rw [hp] at HE HSHE ⊢
  clear hp
  generalize w11.alloc (.cells #[.int .i64 bx, .int .i64 by1] 28) = v11 at *
  obtain ⟨d0c, d1c, -, -⟩ := cells2 HD.out
  go_wp2_with fail
  refine (H9 _).mono ?_
  rintro e w12 ⟨rfl, hb⟩
  have HB := hid (carry HB.out hb)
  have HC := hid (carry HC.out hb)
  have HD := hid (carry HD.out hb)
  have HE := hid (carry HE.out hb)
  have HX := hid (HX.out.trans (hb.mono HX.out.size))
  clear hb
  clear d0c d1c
  go_wp2_with fail
  refine (H10 _).mono ?_
  rintro e w13 ⟨rfl, hb⟩
  have HB := hid (carry HB.out hb)
  have HC := hid (carry HC.out hb)
  have HD := hid (carry HD.out hb)
  have HE := hid (carry HE.out hb)
  have HX := hid (HX.out.trans (hb.mono HX.out.size))
  clear hb
  go_wp2_with fail
  refine (must153_ok _ _).mono ?_
  rintro e w0 ⟨rfl, rfl⟩
  go_wp2_with fail
  refine (H11 _).mono ?_
  rintro e w14 ⟨rfl, hb⟩
  have HB := hid (carry HB.out hb)
  have HC := hid (carry HC.out hb)
  have HD := hid (carry HD.out hb)
  have HE := hid (carry HE.out hb)
  have HX := hid (HX.out.trans (hb.mono HX.out.size))
  clear hb
  go_wp2_with fail
  refine (must156_ok _ _ _).mono ?_
  rintro e w15 ⟨rfl, hb⟩
  have HB := hid (carry HB.out hb)
  have HC := hid (carry HC.out hb)
  have HD := hid (carry HD.out hb)
  have HE := hid (carry HE.out hb)
  have HX := hid (HX.out.trans (hb.mono HX.out.size))
  clear hb
  have HCold := HC
  have HB := hid (carryA HB.out (.cells #[.int .i64 ax, .int .i64 ay] 28))
  have HC := hid (carryA HC.out (.cells #[.int .i64 ax, .int .i64 ay] 28))
  have HD := hid (carryA HD.out (.cells #[.int .i64 ax, .int .i64 ay] 28))
  have HE := hid (carryA HE.out (.cells #[.int .i64 ax, .int .i64 ay] 28))
  have HX := hid (HX.out.alloc HX.out.size (.cells #[.int .i64 ax, .int .i64 ay] 28))
  have HF := hid (heap_alloc_new w15 (.cells #[.int .i64 ax, .int .i64 ay] 28))
  have HSHF := hid (show w.heap.size + 1 + 1 < w15.heap.size from (Array.getElem?_eq_some_iff.1 HCold.out).1)
  clear HCold
  go_upto_region 11 with fail
  obtain ⟨pHF, hp⟩ : ∃ n, w15.heap.size = n := ⟨_, rfl⟩
  rw [hp] at HF HSHF ⊢
  clear hp
  generalize w15.alloc (.cells #[.int .i64 ax, .int .i64 ay] 28) = v15 at *
  have hNE : w.heap.size + 1 < pHE ∧ w.heap.size + 1 < pHF := ⟨by have := HSHE.out; omega, by have := HSHF.out; omega⟩
  have HQ := hid (show ∀ U, Below v15.heap.size v15 U → U.heap[pHE]? = some (.cells #[.int .i64 bx, .int .i64 by1] 28 (0, 0)) ∧ U.heap[pHF]? = some (.cells #[.int .i64 ax, .int .i64 ay] 28 (0, 0)) from fun U h => ⟨carry HE.out h, carry HF.out h⟩)
  refine wp_region_held_drew (S := (fun U => U.heap[pHE]? = some (.cells #[.int .i64 bx, .int .i64 by1] 28 (0, 0)) ∧ U.heap[pHF]? = some (.cells #[.int .i64 ax, .int .i64 ay] 28 (0, 0)))) (by kernel_rfl) (HQ.out _ ((Below.refl _ _).drew)) (fun hH => ?_)
  refine wpAnyH_take (i := 0) (oi := { dst := some 89, op := Go.Op.fieldAddr 39 (Go.Operand.tmp 4) 1, type := 0, pos := "glide.go:110", after := #[], guard := none }) (v := (.pointer (some ⟨w.heap.size + 1, 2, none⟩))) rfl (by kernel_rfl) (by kernel_rfl) (by kernel_rfl) (fun _ _ _ h => h) (Or.inl ⟨by rfl, ?_⟩) hH ?_
  · intro w hSw
    (try dsimp only at hSw)
    go_simp
  (try simp only [Act.put, List.setIfInBounds_toArray, List.set_cons_zero, List.set_cons_succ])
  refine wpAnyH_take (i := 2) (oi := { dst := some 91, op := Go.Op.load 28 (Go.Operand.tmp 11), type := 28, pos := "glide.go:110", after := #[], guard := none }) (v := (.agg #[.int .i64 bx, .int .i64 by1])) rfl (by kernel_rfl) (by kernel_rfl) (by kernel_rfl) (fun _ _ _ h => h) (Or.inl ⟨by rfl, ?_⟩) hH ?_
  · intro w hSw
    (try dsimp only at hSw)
    have q0 := cellN (i := 0) (v := (.int .i64 bx)) hSw.1 rfl
    have q1 := cellN (i := 1) (v := (.int .i64 by1)) hSw.1 rfl
    go_simp
  (try simp only [Act.put, List.setIfInBounds_toArray, List.set_cons_zero, List.set_cons_succ])
  refine wpAnyH_take (i := 7) (oi := { dst := some 96, op := Go.Op.load 28 (Go.Operand.tmp 12), type := 28, pos := "glide.go:110", after := #[], guard := none }) (v := (.agg #[.int .i64 ax, .int .i64 ay])) rfl (by kernel_rfl) (by kernel_rfl) (by kernel_rfl) (fun _ _ _ h => h) (Or.inl ⟨by rfl, ?_⟩) hH ?_
  · intro w hSw
    (try dsimp only at hSw)
    have q0 := cellN (i := 0) (v := (.int .i64 ax)) hSw.2 rfl
    have q1 := cellN (i := 1) (v := (.int .i64 ay)) hSw.2 rfl
    go_simp
  (try simp only [Act.put, List.setIfInBounds_toArray, List.set_cons_zero, List.set_cons_succ])
  refine wpAnyH_ready (rs := [1]) (by kernel_rfl) (by simp) ?_
  refine AllReadyH.cons rfl (fun K hK => ?_) AllReadyH.nil
  (try dsimp only at hH)
  have q0 := cellN (i := 2) (v := .int .i64 vx) (carry HB.out ((Below.refl _ _).drew)) rfl
  have q1 := cellN (i := 3) (v := .int .i64 vy) (carry HB.out ((Below.refl _ _).drew)) rfl
  go_simp
  refine hK.out _ _ (HQ.out _ ((Below.refl _ _).drew)) (fun hH1 => ?_)
  clear hK K
  (try simp only [Act.put, List.setIfInBounds_toArray, List.set_cons_zero, List.set_cons_succ])
  refine wpAnyH_ready (rs := [3]) (by kernel_rfl) (by simp) ?_
  refine AllReadyH.cons rfl (fun K hK => ?_) AllReadyH.nil
  (try dsimp only at hH1)
  go_simp
  refine (H12 _).mono ?_
  rintro e u1 ⟨rfl, hb1⟩
  refine hK.out _ _ (HQ.out _ (btrans ((Below.refl _ _).drew) (Nat.le_refl _) hb1)) (fun hH2 => ?_)
  clear hK K
  (try simp only [Act.put, List.setIfInBounds_toArray, List.set_cons_zero, List.set_cons_succ])
  refine wpAnyH_take (i := 4) (oi := { dst := some 93, op := Go.Op.extract (Go.Operand.tmp 92) 0, type := 28, pos := "glide.go:110", after := #[{ on := 3, ground := Go.Ground.data }], guard := none }) (v := (.agg #[.int .i64 px, .int .i64 py])) rfl (by kernel_rfl) (by kernel_rfl) (by kernel_rfl) (fun _ _ _ h => h) (Or.inl ⟨by rfl, ?_⟩) hH2 ?_
  · intro w hSw
    (try dsimp only at hSw)
    go_simp
  (try simp only [Act.put, List.setIfInBounds_toArray, List.set_cons_zero, List.set_cons_succ])
  refine wpAnyH_take (i := 5) (oi := { dst := some 94, op := Go.Op.extract (Go.Operand.tmp 92) 1, type := 33, pos := "glide.go:110", after := #[{ on := 3, ground := Go.Ground.data }], guard := none }) (v := (.int .i64 0)) rfl (by kernel_rfl) (by kernel_rfl) (by kernel_rfl) (fun _ _ _ h => h) (Or.inl ⟨by rfl, ?_⟩) hH2 ?_
  · intro w hSw
    (try dsimp only at hSw)
    go_simp
  (try simp only [Act.put, List.setIfInBounds_toArray, List.set_cons_zero, List.set_cons_succ])
  refine wpAnyH_ready (rs := [6]) (by kernel_rfl) (by simp) ?_
  refine AllReadyH.cons rfl (fun K hK => ?_) AllReadyH.nil
  (try dsimp only at hH2)
  go_simp
  refine (must156_ok _ _ _).mono ?_
  rintro e u2 ⟨rfl, hb2⟩
  refine hK.out _ _ (HQ.out _ (btrans (btrans ((Below.refl _ _).drew) (Nat.le_refl _) hb1) (Nat.le_refl _) hb2)) (fun hH3 => ?_)
  clear hK K
  (try simp only [Act.put, List.setIfInBounds_toArray, List.set_cons_zero, List.set_cons_succ])
  refine wpAnyH_ready (rs := [8]) (by kernel_rfl) (by simp) ?_
  refine AllReadyH.cons rfl (fun K hK => ?_) AllReadyH.nil
  (try dsimp only at hH3)
  go_simp
  refine (H13 _).mono ?_
  rintro e u3 ⟨rfl, hb3⟩
  refine hK.out _ _ (HQ.out _ (btrans (btrans (btrans ((Below.refl _ _).drew) (Nat.le_refl _) hb1) (Nat.le_refl _) hb2) (Nat.le_refl _) hb3)) (fun hH4 => ?_)
  clear hK K
  (try simp only [Act.put, List.setIfInBounds_toArray, List.set_cons_zero, List.set_cons_succ])
  refine wpAnyH_take (i := 9) (oi := { dst := some 98, op := Go.Op.extract (Go.Operand.tmp 97) 0, type := 28, pos := "glide.go:110", after := #[{ on := 8, ground := Go.Ground.data }], guard := none }) (v := (.agg #[.int .i64 qx, .int .i64 qy])) rfl (by kernel_rfl) (by kernel_rfl) (by kernel_rfl) (fun _ _ _ h => h) (Or.inl ⟨by rfl, ?_⟩) hH4 ?_
  · intro w hSw
    (try dsimp only at hSw)
    go_simp
  (try simp only [Act.put, List.setIfInBounds_toArray, List.set_cons_zero, List.set_cons_succ])
  refine wpAnyH_take (i := 10) (oi := { dst := some 99, op := Go.Op.extract (Go.Operand.tmp 97) 1, type := 33, pos := "glide.go:110", after := #[{ on := 8, ground := Go.Ground.data }], guard := none }) (v := (.int .i64 0)) rfl (by kernel_rfl) (by kernel_rfl) (by kernel_rfl) (fun _ _ _ h => h) (Or.inl ⟨by rfl, ?_⟩) hH4 ?_
  · intro w hSw
    (try dsimp only at hSw)
    go_simp
  (try simp only [Act.put, List.setIfInBounds_toArray, List.set_cons_zero, List.set_cons_succ])
  refine wpAnyH_ready (rs := [11]) (by kernel_rfl) (by simp) ?_
  refine AllReadyH.cons rfl (fun K hK => ?_) AllReadyH.nil
  (try dsimp only at hH4)
  go_simp
  refine (must156_ok _ _ _).mono ?_
  rintro e u4 ⟨rfl, hb4⟩
  refine hK.out _ _ (HQ.out _ (btrans (btrans (btrans (btrans ((Below.refl _ _).drew) (Nat.le_refl _) hb1) (Nat.le_refl _) hb2) (Nat.le_refl _) hb3) (Nat.le_refl _) hb4)) (fun hH5 => ?_)
  clear hK K
  (try simp only [Act.put, List.setIfInBounds_toArray, List.set_cons_zero, List.set_cons_succ])
  refine wpAnyH_take (i := 12) (oi := { dst := some 101, op := Go.Op.fieldAddr 39 (Go.Operand.tmp 4) 1, type := 0, pos := "glide.go:110", after := #[{ on := 0, ground := Go.Ground.phase }, { on := 1, ground := Go.Ground.phase }, { on := 2, ground := Go.Ground.phase }, { on := 3, ground := Go.Ground.phase }, { on := 4, ground := Go.Ground.phase }, { on := 5, ground := Go.Ground.phase }, { on := 6, ground := Go.Ground.phase }, { on := 7, ground := Go.Ground.phase }, { on := 8, ground := Go.Ground.phase }, { on := 9, ground := Go.Ground.phase }, { on := 10, ground := Go.Ground.phase }, { on := 11, ground := Go.Ground.phase }], guard := none }) (v := (.pointer (some ⟨w.heap.size + 1, 2, none⟩))) rfl (by kernel_rfl) (by kernel_rfl) (by kernel_rfl) (fun _ _ _ h => h) (Or.inl ⟨by rfl, ?_⟩) hH5 ?_
  · intro w hSw
    (try dsimp only at hSw)
    go_simp
  (try simp only [Act.put, List.setIfInBounds_toArray, List.set_cons_zero, List.set_cons_succ])
  refine wpAnyH_ready (rs := [13]) (by kernel_rfl) (by simp) ?_
  refine AllReadyH.cons rfl (fun K hK => ?_) AllReadyH.nil
  (try dsimp only at hH5)
  have HBs := carry HB.out (btrans (btrans (btrans (btrans ((Below.refl _ _).drew) (Nat.le_refl _) hb1) (Nat.le_refl _) hb2) (Nat.le_refl _) hb3) (Nat.le_refl _) hb4)
  have s2 := frozN (i := 2) HBs
  have s3 := frozN (i := 3) HBs
  have s4 := cellN (i := 2) (v := .int .i64 vx) HBs rfl
  have s5 := cellN (i := 3) (v := .int .i64 vy) HBs rfl
  go_simp
  refine hK.out _ _ (⟨(put_oth 2 3 _ _ (Nat.ne_of_gt hNE.1)).trans (HQ.out _ (btrans (btrans (btrans (btrans ((Below.refl _ _).drew) (Nat.le_refl _) hb1) (Nat.le_refl _) hb2) (Nat.le_refl _) hb3) (Nat.le_refl _) hb4)).1, (put_oth 2 3 _ _ (Nat.ne_of_gt hNE.2)).trans (HQ.out _ (btrans (btrans (btrans (btrans ((Below.refl _ _).drew) (Nat.le_refl _) hb1) (Nat.le_refl _) hb2) (Nat.le_refl _) hb3) (Nat.le_refl _) hb4)).2⟩) (fun hH6 => ?_)
  clear hK K
  (try simp only [Act.put, List.setIfInBounds_toArray, List.set_cons_zero, List.set_cons_succ])
  refine wpAnyH_done (by kernel_rfl) ?_ _
  have HB5 := hid (put5_23 (.int .i64 qx) (.int .i64 qy) HBs)
  have HC5 := hid ((put_oth 2 3 (.int .i64 qx) (.int .i64 qy) (by omega : w.heap.size + 1 + 1 ≠ w.heap.size + 1)).trans (carry HC.out (btrans (btrans (btrans (btrans ((Below.refl _ _).drew) (Nat.le_refl _) hb1) (Nat.le_refl _) hb2) (Nat.le_refl _) hb3) (Nat.le_refl _) hb4)))
  have HX5 := hid (((HX.out.trans ((btrans (btrans (btrans (btrans ((Below.refl _ _).drew) (Nat.le_refl _) hb1) (Nat.le_refl _) hb2) (Nat.le_refl _) hb3) (Nat.le_refl _) hb4).mono HX.out.size)).setCell (p := ⟨w.heap.size + 1, 2, none⟩) (by simp) (.int .i64 qx)).setCell (p := ⟨w.heap.size + 1, 3, none⟩) (by simp) (.int .i64 qy))
  clear HX HB HC HD HE HF HQ H1 H2 H3 H4 H5 H6 H7 H8 H9 H10 H11 H12 H13 hH hH1 hH2 hH3 hH4
  clear HBs s2 s3 s4 s5 hb1 hb2 hb3 hb4
  go_upto_region 12 with fail
  generalize (u4.setCell ⟨w.heap.size + 1, 2, none⟩ (.int .i64 qx)).setCell ⟨w.heap.size + 1, 3, none⟩ (.int .i64 qy) = U5 at *
  have m0 := cellN (i := 0) (v := .int .i64 x) HB5.out rfl
  have m1 := cellN (i := 1) (v := .int .i64 y) HB5.out rfl
  have m2 := cellN (i := 2) (v := .int .i64 qx) HB5.out rfl
  have m3 := cellN (i := 3) (v := .int .i64 qy) HB5.out rfl
  go_wp2_with fail
  refine (H14 _).mono ?_
  rintro e u6 ⟨rfl, hb⟩
  have HB6 := hid (carry HB5.out hb)
  have HC6 := hid (carry HC5.out hb)
  have HX6 := hid (HX5.out.trans (hb.mono HX5.out.size))
  clear hb m0 m1 m2 m3 HB5 HC5 HX5
  go_wp2_with fail
  refine (must156_ok _ _ _).mono ?_
  rintro e u7 ⟨rfl, hb⟩
  have HB7 := hid (carry HB6.out hb)
  have HC7 := hid (carry HC6.out hb)
  have HX7 := hid (HX6.out.trans (hb.mono HX6.out.size))
  clear hb HB6 HC6 HX6
  have m0 := cellN (i := 0) (v := .int .i64 x) HB7.out rfl
  have m1 := cellN (i := 1) (v := .int .i64 y) HB7.out rfl
  have f0 := frozN (i := 0) HB7.out
  have f1 := frozN (i := 1) HB7.out
  go_upto_region 13 with fail
  have HB8 := hid (put5_01 (.int .i64 nx) (.int .i64 ny) HB7.out)
  have HC8 := hid ((put_oth 0 1 (.int .i64 nx) (.int .i64 ny) (by omega : w.heap.size + 1 + 1 ≠ w.heap.size + 1)).trans HC7.out)
  have HX8 := hid ((HX7.out.setCell (p := ⟨w.heap.size + 1, 0, none⟩) (by simp) (.int .i64 nx)).setCell (p := ⟨w.heap.size + 1, 1, none⟩) (by simp) (.int .i64 ny))
  clear m0 m1 f0 f1 HB7 HC7 HX7
  generalize (u7.setCell ⟨w.heap.size + 1, 0, none⟩ (.int .i64 nx)).setCell ⟨w.heap.size + 1, 1, none⟩ (.int .i64 ny) = U8 at *
  have m0 := cellN (i := 0) (v := .int .i64 nx) HB8.out rfl
  have m1 := cellN (i := 1) (v := .int .i64 ny) HB8.out rfl
  have m2 := cellN (i := 2) (v := .int .i64 qx) HB8.out rfl
  have m3 := cellN (i := 3) (v := .int .i64 qy) HB8.out rfl
  have m4 := cellN (i := 4) (v := .int .i64 sp) HB8.out rfl
  go_wp2_with fail
  refine (H15 _).mono ?_
  rintro e u9 ⟨rfl, hb⟩
  have HB9 := hid (carry HB8.out hb)
  have HC9 := hid (carry HC8.out hb)
  have HX9 := hid (HX8.out.trans (hb.mono HX8.out.size))
  clear hb m0 m1 m2 m3 m4 HB8 HC8 HX8
  have mk := mkig 4
  cases ok with
  | false =>
    go_wp2_with fail
    exact ⟨rfl, by simp, HX9.out⟩
  | true =>
    have m0 := cellN (i := 0) (v := .int .i64 nx) HB9.out rfl
    have m1 := cellN (i := 1) (v := .int .i64 ny) HB9.out rfl
    have m2 := cellN (i := 2) (v := .int .i64 qx) HB9.out rfl
    have m3 := cellN (i := 3) (v := .int .i64 qy) HB9.out rfl
    have m4 := cellN (i := 4) (v := .int .i64 sp) HB9.out rfl
    have z0 := cellN (i := 0) (v := .int .i64 0) HC9.out rfl
    have z1 := cellN (i := 1) (v := .int .i64 0) HC9.out rfl
    have z2 := cellN (i := 2) (v := .int .i64 0) HC9.out rfl
    have z3 := cellN (i := 3) (v := .int .i64 0) HC9.out rfl
    have z4 := cellN (i := 4) (v := .int .i64 0) HC9.out rfl
    have f0 := frozN (i := 0) HC9.out
    have f1 := frozN (i := 1) HC9.out
    have f2 := frozN (i := 2) HC9.out
    have f3 := frozN (i := 3) HC9.out
    have f4 := frozN (i := 4) HC9.out
    go_wp2_with fail
    have hp := put5 (.int .i64 nx) (.int .i64 ny) (.int .i64 qx) (.int .i64 qy) (.int .i64 sp) HC9.out
    have hb9 := put5_below (b := w.heap.size + 1 + 1) (.int .i64 nx) (.int .i64 ny) (.int .i64 qx) (.int .i64 qy) (.int .i64 sp) HX9.out (by omega)
    exact bodyPost_ret (results_c1 rfl _ _ _ ⟨w.heap.size + 1 + 1, 0, none⟩ _ rfl (load39 _ _ _ _ _ _ _ _ hp)) rfl ⟨by simp, hb9⟩
end Go.Proofs.YtolnhicngepnnaaGreat
