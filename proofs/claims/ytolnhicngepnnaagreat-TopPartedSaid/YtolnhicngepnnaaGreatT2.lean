/- fixed.Unit: the closures. -/
import Derived.Test.YtolnhicngepnnaaGreatW9
import Derived.Test.YtolnhicngepnnaaGreatF8c
namespace Go.Proofs.YtolnhicngepnnaaGreat
open Go.RowKit

/-- A coordinate of a unit. -/
def unitF (x : Int) (s : Nat) : Int := if x < 0 then -(shareN x.natAbs s : Int) else shareN x.natAbs s
theorem unitF_le (x : Int) (s : Nat) : -65536 ≤ unitF x s ∧ unitF x s ≤ 65536 := by
  have := shareN_le x.natAbs s
  unfold unitF
  split <;> omega
set_option maxRecDepth 100000 in
set_option maxHeartbeats 4000000 in
theorem unit171_any (x : Int) (s : Nat) (hx : okF x = true) (hs : s < 340282366920938463463374607431768211456) (y : Value) (p : Nat) (w : World)
    (c0 : w.cell? ⟨p, 0, none⟩ = some (.int .u64 ((s / 18446744073709551616 : Nat) : Int))) (c1 : w.cell? ⟨p, 1, none⟩ = some (.int .u64 ((s % 18446744073709551616 : Nat) : Int))) :
    Calls Tryz.prog 171 #[.int .i64 x, y, .pointer (some ⟨p, 0, none⟩)] w fun e w' => EndsX (.ok (unitF x s)) e ∧ Below w.heap.size w w' := by
  have hx2 : -70368744177664 ≤ x ∧ x ≤ 70368744177664 := by simpa [okF] using hx
  have HSZ := hid (fun W => size_any x (by omega) (by omega) W)
  have HSH := hid (fun W => share172_any x.natAbs s (by omega) hs W)
  have hle := shareN_le x.natAbs s
  obtain ⟨neg, hneg⟩ : ∃ b, decide (x < 0) = b := ⟨_, rfl⟩
  have HSG := hid (fun W => signed_any (shareN x.natAbs s) neg (by omega) W)
  have hv : (if shareN x.natAbs s ≤ 70368744177664 then (Except.ok (if neg = true then -(shareN x.natAbs s : Int) else (shareN x.natAbs s : Int)) : Except Int Int) else .error 4) = .ok (unitF x s) := by
    rw [if_pos (by omega), ← hneg, unitF]
    by_cases h : x < 0 <;> simp [h]
  rw [hv] at HSG
  generalize unitF x s = v at *
  rw [show wideV s = .agg #[.int .u64 ((s / 18446744073709551616 : Nat) : Int), .int .u64 ((s % 18446744073709551616 : Nat) : Int)] from rfl] at HSH
  generalize s / 18446744073709551616 = hi at *
  generalize s % 18446744073709551616 = lo at *
  generalize shareN x.natAbs s = sh at *
  generalize x.natAbs = na at *
  have HQ := hid (show ∀ W, Below w.heap.size w W → W.cell? ⟨p, 0, none⟩ = some (.int .u64 (hi : Int)) ∧ W.cell? ⟨p, 1, none⟩ = some (.int .u64 (lo : Int)) from fun W h => ⟨bcs h c0, bcs h c1⟩)
  clear hx hx2 hs hle hv c0 c1
  go_enter Tryz.func171, Tryz.ntmps171
  go_upto_region 1 with fail
  refine wp_region_held_drew (S := (fun W => W.cell? ⟨p, 0, none⟩ = some (.int .u64 (hi : Int)) ∧ W.cell? ⟨p, 1, none⟩ = some (.int .u64 (lo : Int)))) (by kernel_rfl) (HQ.out _ ((Below.refl _ _).drew)) (fun hH => ?_)
  refine wpAnyH_take (i := 0) (oi := { dst := some 6, op := Go.Op.move (Go.Operand.tmp 0), type := 22, pos := "fixed.go:246", after := #[], guard := none }) (v := (.int .i64 x)) rfl (by kernel_rfl) (by kernel_rfl) (by kernel_rfl) (fun _ _ _ h => h) (Or.inl ⟨by rfl, ?_⟩) hH ?_
  · intro w hSw
    (try dsimp only at hSw)
    go_simp
  (try simp only [Act.put, List.setIfInBounds_toArray, List.set_cons_zero, List.set_cons_succ])
  refine wpAnyH_take (i := 2) (oi := { dst := some 8, op := Go.Op.load 149 (Go.Operand.tmp 2), type := 149, pos := "fixed.go:246", after := #[], guard := none }) (v := (.agg #[.int .u64 (hi : Int), .int .u64 (lo : Int)])) rfl (by kernel_rfl) (by kernel_rfl) (by kernel_rfl) (fun _ _ _ h => h) (Or.inl ⟨by rfl, ?_⟩) hH ?_
  · intro w hSw
    (try dsimp only at hSw)
    go_simp
  (try simp only [Act.put, List.setIfInBounds_toArray, List.set_cons_zero, List.set_cons_succ])
  refine wpAnyH_take (i := 4) (oi := { dst := some 10, op := Go.Op.move (Go.Operand.tmp 0), type := 22, pos := "fixed.go:246", after := #[], guard := none }) (v := (.int .i64 x)) rfl (by kernel_rfl) (by kernel_rfl) (by kernel_rfl) (fun _ _ _ h => h) (Or.inl ⟨by rfl, ?_⟩) hH ?_
  · intro w hSw
    (try dsimp only at hSw)
    go_simp
  (try simp only [Act.put, List.setIfInBounds_toArray, List.set_cons_zero, List.set_cons_succ])
  refine wpAnyH_take (i := 5) (oi := { dst := some 11, op := Go.Op.binOp Go.BinOp.lss 22 (Go.Operand.tmp 10) (Go.Operand.const (Go.Value.int Go.IntKind.i64 0)) 22, type := 4, pos := "fixed.go:246", after := #[{ on := 4, ground := Go.Ground.data }], guard := none }) (v := (.bool neg)) rfl (by kernel_rfl) (by kernel_rfl) (by kernel_rfl) (fun _ _ _ h => h) (Or.inl ⟨by rfl, ?_⟩) hH ?_
  · intro w hSw
    (try dsimp only at hSw)
    go_simp
  (try simp only [Act.put, List.setIfInBounds_toArray, List.set_cons_zero, List.set_cons_succ])
  refine wpAnyH_ready (rs := [1]) (by kernel_rfl) (by simp) ?_
  refine AllReadyH.cons rfl (fun K hK => ?_) AllReadyH.nil
  (try dsimp only at hH)
  go_simp
  refine (HSZ.out _).mono ?_
  rintro e w1 ⟨rfl, rfl⟩
  refine hK.out _ _ (HQ.out _ ((Below.refl _ _).drew)) (fun hH1 => ?_)
  clear hK K
  (try simp only [Act.put, List.setIfInBounds_toArray, List.set_cons_zero, List.set_cons_succ])
  refine wpAnyH_ready (rs := [3]) (by kernel_rfl) (by simp) ?_
  refine AllReadyH.cons rfl (fun K hK => ?_) AllReadyH.nil
  (try dsimp only at hH1)
  go_simp
  refine (HSH.out _).mono ?_
  rintro e w2 ⟨rfl, hb1⟩
  refine hK.out _ _ (HQ.out _ (btrans ((Below.refl _ _).drew) (Nat.le_refl _) hb1)) (fun hH2 => ?_)
  clear hK K
  (try simp only [Act.put, List.setIfInBounds_toArray, List.set_cons_zero, List.set_cons_succ])
  refine wpAnyH_ready (rs := [6]) (by kernel_rfl) (by simp) ?_
  refine AllReadyH.cons rfl (fun K hK => ?_) AllReadyH.nil
  (try dsimp only at hH2)
  go_simp
  refine (HSG.out _).mono ?_
  rintro e w3 ⟨rfl, rfl⟩
  refine hK.out _ _ (HQ.out _ (btrans ((Below.refl _ _).drew) (Nat.le_refl _) hb1)) (fun hH3 => ?_)
  clear hK K
  (try simp only [Act.put, List.setIfInBounds_toArray, List.set_cons_zero, List.set_cons_succ])
  refine wpAnyH_take (i := 7) (oi := { dst := some 5, op := Go.Op.assign (Go.Operand.tmp 12), type := 22, pos := "fixed.go:246", after := #[{ on := 6, ground := Go.Ground.data }, { on := 6, ground := Go.Ground.chain }, { on := 0, ground := Go.Ground.phase }, { on := 1, ground := Go.Ground.phase }, { on := 2, ground := Go.Ground.phase }, { on := 3, ground := Go.Ground.phase }, { on := 4, ground := Go.Ground.phase }, { on := 5, ground := Go.Ground.phase }, { on := 6, ground := Go.Ground.phase }], guard := none }) (v := (.int .i64 v)) rfl (by kernel_rfl) (by kernel_rfl) (by kernel_rfl) (fun _ _ _ h => h) (Or.inl ⟨by rfl, ?_⟩) hH3 ?_
  · intro w hSw
    (try dsimp only at hSw)
    go_simp
  (try simp only [Act.put, List.setIfInBounds_toArray, List.set_cons_zero, List.set_cons_succ])
  refine wpAnyH_done (by kernel_rfl) ?_ _
  all_goals go_wp2_with fail
  go_ret
  exact ⟨rfl, btrans ((Below.refl _ _).drew) (Nat.le_refl _) hb1⟩
end Go.Proofs.YtolnhicngepnnaaGreat
/- fixed.Unit. -/
namespace Go.Proofs.YtolnhicngepnnaaGreat
open Go.RowKit

/-- The square of a length. -/
def sqN (x y : Int) : Nat := x.natAbs * x.natAbs + y.natAbs * y.natAbs
theorem sqN_lt {x y : Int} (hx : okF x = true) (hy : okF y = true) : sqN x y < 340282366920938463463374607431768211456 := by
  have hx2 : -70368744177664 ≤ x ∧ x ≤ 70368744177664 := by simpa [okF] using hx
  have hy2 : -70368744177664 ≤ y ∧ y ≤ 70368744177664 := by simpa [okF] using hy
  have a1 : x.natAbs * x.natAbs ≤ 70368744177664 * 70368744177664 := Nat.mul_le_mul (by omega) (by omega)
  have a2 : y.natAbs * y.natAbs ≤ 70368744177664 * 70368744177664 := Nat.mul_le_mul (by omega) (by omega)
  unfold sqN; omega
theorem load149 (w : World) (b : Nat) (x y : Value) (h0 : w.cell? ⟨b, 0, none⟩ = some x) (h1 : w.cell? ⟨b, 1, none⟩ = some y) : (loadVar 149 ⟨b, 0, none⟩).run Tryz.prog w = .ok (.agg #[x, y]) w := by
  simp [go_sem, h0, h1]
theorem carryA {w : World} {b : Nat} {o : Obj} (h : w.heap[b]? = some o) (o' : Obj) : (w.alloc o').heap[b]? = some o := by
  rw [Below.heap_alloc _ _ _ (Array.getElem?_eq_some_iff.1 h).1]; exact h
set_option maxRecDepth 100000 in
set_option maxHeartbeats 4000000 in
theorem unit170_any (x y : Int) (hx : okF x = true) (hy : okF y = true) (h0 : 0 < sqN x y) (p : Nat) (w : World) (c0 : w.cell? ⟨p, 0, none⟩ = some (.int .i64 x)) (c1 : w.cell? ⟨p, 1, none⟩ = some (.int .i64 y)) :
    Calls Tryz.prog 170 #[.pointer (some ⟨p, 0, none⟩)] w fun e w' => EndsS (.ok (unitF x (sqN x y), unitF y (sqN x y))) e ∧ Below w.heap.size w w' := by
  have hlt := sqN_lt hx hy
  have HSQ := hid (fun W => square42_any x y W)
  rw [hx, hy, show x.natAbs * x.natAbs + y.natAbs * y.natAbs = sqN x y from rfl] at HSQ
  have HND := hid (fun W => need_any true 10 W)
  have HUX := hid (fun v (u : Int) p (W : World) (h : okF v = true) => unit171_any v (sqN x y) h hlt (.int .i64 u) p W)
  have HE := hid (fun (g : FuncId) (cap : Array Value) W => each164_any (fun a _ => .ok (unitF a (sqN x y))) g cap x y x y W)
  have HER := hid (show eachR (fun a _ => .ok (unitF a (sqN x y))) x y x y = .ok (unitF x (sqN x y), unitF y (sqN x y)) by unfold eachR; rw [hx, hy]; rfl)
  rw [HER.out] at HE
  generalize unitF x (sqN x y) = ux at *
  generalize unitF y (sqN x y) = uy at *
  obtain ⟨hi, hhi⟩ : ∃ v, sqN x y / 18446744073709551616 = v := ⟨_, rfl⟩
  obtain ⟨lo, hlo⟩ : ∃ v, sqN x y % 18446744073709551616 = v := ⟨_, rfl⟩
  have HV := hid (show wideV (sqN x y) = .agg #[.int .u64 (hi : Int), .int .u64 (lo : Int)] by rw [wideV, hhi, hlo])
  have hne : ¬ ((hi : Int) = 0 ∧ (lo : Int) = 0) := by omega
  have HNE := hid hne
  rw [hhi, hlo] at HUX
  have HQ := hid (show ∀ W, Below w.heap.size w W → W.cell? ⟨p, 0, none⟩ = some (.int .i64 x) ∧ W.cell? ⟨p, 1, none⟩ = some (.int .i64 y) from fun W h => ⟨bcs h c0, bcs h c1⟩)
  obtain ⟨W0, hW0⟩ : ∃ W0, w.alloc (.cells #[.int .i64 0, .int .i64 0] 28) = W0 := ⟨_, rfl⟩
  have hB := (Below.refl w.heap.size w).alloc (Nat.le_refl _) (.cells #[.int .i64 0, .int .i64 0] 28)
  have hP0 := heap_alloc_new w (.cells #[.int .i64 0, .int .i64 0] 28)
  have hz0 : W0.heap.size = w.heap.size + 1 := by rw [← hW0]; simp
  rw [hW0] at hB hP0
  have HB := hid hB
  have HP0 := hid hP0
  have HZ0 := hid hz0
  have HW0 := hid hW0
  clear hW0 hB hP0 hz0
  have HOK := hid (And.intro hx hy)
  clear hhi hlo hlt hx hy h0 hne c0 c1
  go_enter Tryz.func170, Tryz.ntmps170
  go_upto_region 1 with fail
  rw [HW0.out]
  clear HW0
  obtain ⟨c0, c1⟩ := HQ.out _ HB.out
  go_wp2_with fail
  refine (HSQ.out _).mono ?_
  rintro e w1 ⟨he, hb1⟩
  obtain rfl : e = .returned (.agg #[.int .u64 (hi : Int), .int .u64 (lo : Int)]) := by rw [← HV.out]; exact he
  have hb2 := btrans HB.out (by have := HZ0.out; omega) hb1
  have HS1 := hid (show w.heap.size + 1 ≤ w1.heap.size by have := hb1.size; have := HZ0.out; omega)
  have HP0 := hid ((hb1.block w.heap.size (by have := HZ0.out; omega)).trans HP0.out)
  have HB2 := hid (hb2.alloc hb2.size (.cells #[.int .u64 (hi : Int), .int .u64 (lo : Int)] 149))
  have HN := hid (cell_new' w1 #[.int .u64 (hi : Int), .int .u64 (lo : Int)] 149)
  have HP1 := hid (show (w1.alloc (.cells #[.int .u64 (hi : Int), .int .u64 (lo : Int)] 149)).heap[w.heap.size]? = some (.cells #[.int .i64 0, .int .i64 0] 28 (0, 0)) by
    rw [Below.heap_alloc _ _ _ (by have := HS1.out; omega)]; exact HP0.out)
  have HSZ := hid (show (w1.alloc (.cells #[.int .u64 (hi : Int), .int .u64 (lo : Int)] 149)).heap.size = w1.heap.size + 1 by simp)
  have HS2 := hid (show w.heap.size < w1.heap.size by have := HS1.out; omega)
  clear hb1 hb2 c0 c1 he HSQ HV
  go_upto_region 2 with fail
  generalize w1.alloc (.cells #[.int .u64 (hi : Int), .int .u64 (lo : Int)] 149) = W2 at *
  have n0 := HN.out 0 _ rfl
  have n1 := HN.out 1 _ rfl
  have n0' : W2.cell? ⟨w1.heap.size, 0, none⟩ = some (.int .u64 (hi : Int)) := n0
  have n1' : W2.cell? ⟨w1.heap.size, 1, none⟩ = some (.int .u64 (lo : Int)) := n1
  clear n0 n1
  have HNN := hid (And.intro n0' n1')
  have HE2 := hid (HE.out 171 #[.pointer (some ⟨w1.heap.size, 0, none⟩)] W2 (enters_of Tryz.func171 (by kernel_rfl) rfl) (fun a u ha _ _ W hW => HUX.out a u _ W ha (bcs hW n0') (bcs hW n1')))
  unfold outS at HE2
  rw [show errS (.ok (ux, uy)) = 0 from rfl, show (valS (.ok (ux, uy))).1 = ux from rfl, show (valS (.ok (ux, uy))).2 = uy from rfl] at HE2
  clear HE HUX HER
  have hc : (hi = 0 ∧ ¬ lo = 0) ∨ (¬ hi = 0 ∧ 0 ≤ lo) := by have := HNE.out; omega
  rcases hc with ⟨hcase, hc2⟩ | ⟨hcase, hc2⟩
  all_goals
    go_wp2_with fail
    clear hcase hc2 n0' n1'
    refine (HND.out _).mono ?_
    rintro e w3 ⟨he, rfl⟩
    obtain rfl : e = .returned (.tuple #[]) := he
    obtain ⟨c0, c1⟩ := HQ.out _ HB2.out
    go_wp2_with fail
    refine HE2.out.mono ?_
    rintro e w4 ⟨rfl, hb4⟩
    have HB4 := hid (HB2.out.trans (hb4.mono HB2.out.size))
    have HP4 := hid ((hb4.block w.heap.size (by have := HSZ.out; have := HS2.out; omega)).trans HP1.out)
    clear hb4 c0 c1 HE2 HQ
    obtain ⟨g0, g1, f0, f1⟩ := cells2 (carryA HP4.out (.cells #[.int .i64 ux, .int .i64 uy] 28))
    have HP5 := hid (carryA HP4.out (.cells #[.int .i64 ux, .int .i64 uy] 28))
    have HB5 := hid (HB4.out.alloc HB4.out.size (.cells #[.int .i64 ux, .int .i64 uy] 28))
    have HN5 := hid (cell_new' w4 #[.int .i64 ux, .int .i64 uy] 28)
    go_upto_region 4 with fail
    generalize w4.alloc (.cells #[.int .i64 ux, .int .i64 uy] 28) = W5 at *
    have n5 : W5.cell? ⟨w4.heap.size, 0, none⟩ = some (.int .i64 ux) := HN5.out 0 _ rfl
    have n6 : W5.cell? ⟨w4.heap.size, 1, none⟩ = some (.int .i64 uy) := HN5.out 1 _ rfl
    go_wp2_with fail
    have hp := put2_same (.int .i64 ux) (.int .i64 uy) HP5.out
    have hb9 := (HB5.out.setCell (p := ⟨w.heap.size, 0, none⟩) (Nat.le_refl _) (.int .i64 ux)).setCell (p := ⟨w.heap.size, 1, none⟩) (Nat.le_refl _) (.int .i64 uy)
    generalize (W5.setCell ⟨w.heap.size, 0, none⟩ (.int .i64 ux)).setCell ⟨w.heap.size, 1, none⟩ (.int .i64 uy) = W9 at *
    refine bodyPost_ret (results_c1 rfl _ _ _ ⟨w.heap.size, 0, none⟩ _ rfl (load28 W9 w.heap.size (.int .i64 ux) (.int .i64 uy) (by simp [World.cell?, hp]) (by simp [World.cell?, hp]))) rfl ⟨rfl, hb9⟩
set_option maxRecDepth 100000 in
theorem unit138_any (x y : Int) (hx : okF x = true) (hy : okF y = true) (h0 : 0 < sqN x y) (w : World) :
    Calls Tryz.prog 138 #[.agg #[.int .i64 x, .int .i64 y]] w fun e w' => e = .returned (.tuple #[.agg #[.int .i64 (unitF x (sqN x y)), .int .i64 (unitF y (sqN x y))], .int .i64 0]) ∧ Below w.heap.size w w' := by
  obtain ⟨W1, hW1⟩ : ∃ W1, (w.alloc (.cells #[.int .i64 x, .int .i64 y] 28)).alloc (.cells #[.int .i64 0, .int .i64 0] 28) = W1 := ⟨_, rfl⟩
  have hz : W1.heap.size = w.heap.size + 2 := by rw [← hW1]; simp
  have hb1 : Below w.heap.size w W1 := by rw [← hW1]; exact ((Below.refl _ w).alloc (Nat.le_refl _) _).alloc (by simp) _
  have p0 : W1.heap[w.heap.size]? = some (.cells #[.int .i64 x, .int .i64 y] 28 (0, 0)) := by
    rw [← hW1, Below.heap_alloc _ _ _ (by simp)]; exact heap_alloc_new w _
  have p1 : W1.heap[w.heap.size + 1]? = some (.cells #[.int .i64 0, .int .i64 0] 28 (0, 0)) := by
    rw [← hW1]
    simpa using heap_alloc_new (w.alloc (.cells #[.int .i64 x, .int .i64 y] 28)) (.cells #[.int .i64 0, .int .i64 0] 28)
  have HT := hid (triedS_any 170 #[.pointer (some ⟨w.heap.size, 0, none⟩)] (.ok (unitF x (sqN x y), unitF y (sqN x y))) W1 (enters_of Tryz.func170 (by kernel_rfl) rfl) (fun W h => unit170_any x y hx hy h0 _ W (bcs h (by simp [World.cell?, p0])) (bcs h (by simp [World.cell?, p0]))))
  generalize unitF x (sqN x y) = ux at *
  generalize unitF y (sqN x y) = uy at *
  rw [show errS (.ok (ux, uy)) = 0 from rfl, show (valS (.ok (ux, uy))).1 = ux from rfl, show (valS (.ok (ux, uy))).2 = uy from rfl] at HT
  have hm := run_makeFunc
  have HB := hid hb1
  have HW := hid hW1
  have HP := hid p1
  clear hW1 hb1 p0 p1 hx hy h0
  go_enter Tryz.func138, Tryz.ntmps138
  go_upto_region 1 with fail
  rw [HW.out]
  clear HW
  go_wp2_with fail
  refine HT.out.mono ?_
  rintro e w1 ⟨rfl, hb⟩
  have HP1 := hid ((hb.block (w.heap.size + 1) (by omega)).trans HP.out)
  obtain ⟨g0, g1, f0, f1⟩ := cells2 HP1.out
  have HB1 := hid (btrans HB.out (by omega) hb)
  clear hb HT HB HP hz
  go_wp2_with fail
  have hp := put2_same (.int .i64 ux) (.int .i64 uy) HP1.out
  have hb9 := (HB1.out.setCell (p := ⟨w.heap.size + 1, 0, none⟩) (by simp) (.int .i64 ux)).setCell (p := ⟨w.heap.size + 1, 1, none⟩) (by simp) (.int .i64 uy)
  generalize (w1.setCell ⟨w.heap.size + 1, 0, none⟩ (.int .i64 ux)).setCell ⟨w.heap.size + 1, 1, none⟩ (.int .i64 uy) = W9 at *
  refine bodyPost_ret (results_w2 rfl _ _ _ ⟨w.heap.size + 1, 0, none⟩ _ rfl (load28 W9 (w.heap.size + 1) (.int .i64 ux) (.int .i64 uy) (by simp [World.cell?, hp]) (by simp [World.cell?, hp]))) rfl ⟨rfl, hb9⟩
end Go.Proofs.YtolnhicngepnnaaGreat
