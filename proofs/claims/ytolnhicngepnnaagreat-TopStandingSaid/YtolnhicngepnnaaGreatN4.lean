/- skip.Next, and the hope of a game that is over. -/
import Derived.Test.YtolnhicngepnnaaGreatN1
import Derived.Laws.EntriesVeiled
import Derived.Deep.RegionHeld3
namespace Go.Proofs.YtolnhicngepnnaaGreat
open Go.RowKit

theorem results_c2 {fn : Func} {p u : Tmp} {ty : TypeId} (h : fn.results = #[.cell p ty, .tmp u]) (tmps : Array Value) (P : Program) (w : World) (ad : Addr) (x : Value) (hp : tmps.getD p undef = .pointer (some ad)) (hl : (loadVar ty ad).run P w = .ok x w) :
    (results fn tmps).run P w = .ok (.tuple #[x, tmps.getD u undef]) w := by
  have e : (asAddr (tmps[p]?.getD undef)).run P w = .ok ad w := by
    rw [show tmps[p]?.getD undef = tmps.getD p undef by simp, hp]; simp [go_sem]
  simp only [results, h]
  simp [Sem.run_bind, Result.andThen, e, hl]
set_option maxRecDepth 100000 in
set_option maxHeartbeats 2000000 in
theorem next14_ok (e l h p : Int) (he : 1 ≤ e ∧ e ≤ 12) (hl : -96 ≤ l ∧ l ≤ 96) (hh : h = 0 ∨ h = 1) (hp : -8 ≤ p ∧ p ≤ 8) (hn : -96 ≤ leadN l h p ∧ leadN l h p ≤ 96) (w : World) :
    Calls Tryz.prog 14 #[stV e l h, .int .i64 p] w fun o w' => o = .returned (.tuple #[stV (e - 1) (leadN l h p) (hamN h p), .int .i64 0]) ∧ Below w.heap.size w w' := by
  have H1 := hid (fun W => checkState_ok e l h (by omega) hl hh W)
  have H2 := hid (fun W => within34_any p (-8) 8 W)
  rw [show inB p (-8) 8 = true by simp [inB]; omega] at H2
  have H3 := hid (fun W => next35_ok e l h p (by omega) hl hh hp hn W)
  have he0 : ¬ e = 0 := by omega
  generalize leadN l h p = lq at *
  generalize hamN h p = hq at *
  obtain ⟨W1, hW1⟩ : ∃ W1, (w.alloc (.cells #[.int .i64 e, .int .i64 l, .int .i64 h] 52)).alloc (.cells #[.int .i64 0, .int .i64 0, .int .i64 0] 52) = W1 := ⟨_, rfl⟩
  have hz : W1.heap.size = w.heap.size + 2 := by rw [← hW1]; simp
  have hb1 : Below w.heap.size w W1 := by rw [← hW1]; exact ((Below.refl _ w).alloc (Nat.le_refl _) _).alloc (by simp) _
  have p0 : W1.heap[w.heap.size]? = some (.cells #[.int .i64 e, .int .i64 l, .int .i64 h] 52 (0, 0)) := by
    rw [← hW1, Below.heap_alloc _ _ _ (by simp)]; exact heap_alloc_new w _
  have p1 : W1.heap[w.heap.size + 1]? = some (.cells #[.int .i64 0, .int .i64 0, .int .i64 0] 52 (0, 0)) := by
    rw [← hW1]
    simpa using heap_alloc_new (w.alloc (.cells #[.int .i64 e, .int .i64 l, .int .i64 h] 52)) (.cells #[.int .i64 0, .int .i64 0, .int .i64 0] 52)
  have HB := hid hb1
  have HW := hid hW1
  have HP := hid (show ∀ U, Below W1.heap.size W1 U → (U.cell? ⟨w.heap.size, 0, none⟩ = some (.int .i64 e) ∧ U.cell? ⟨w.heap.size, 1, none⟩ = some (.int .i64 l) ∧ U.cell? ⟨w.heap.size, 2, none⟩ = some (.int .i64 h)) ∧ U.heap[w.heap.size + 1]? = some (.cells #[.int .i64 0, .int .i64 0, .int .i64 0] 52 (0, 0)) from fun U hb => by
    have h0 := (hb.block _ (by omega)).trans p0
    exact ⟨⟨by simp [World.cell?, h0], by simp [World.cell?, h0], by simp [World.cell?, h0]⟩, (hb.block _ (by omega)).trans p1⟩)
  clear hb1 hW1 p0 p1 he hl hh hp hn
  go_enter Tryz.func14, Tryz.ntmps14
  go_wp2_with fail
  rw [HW.out]
  refine (H1.out _).mono ?_
  rintro o w2 ⟨rfl, hb2⟩
  have HB2 := hid hb2
  clear hb2
  obtain ⟨⟨c0, c1, c2⟩, -⟩ := HP.out _ HB2.out
  go_wp2_with fail
  refine (H2.out _).mono ?_
  rintro o w3 ⟨rfl, rfl⟩
  go_wp2_with fail
  refine (H3.out _).mono ?_
  rintro o w4 ⟨rfl, hb4⟩
  have HB4 := hid (HB2.out.trans (hb4.mono HB2.out.size))
  have h1 := (HP.out _ HB4.out).2
  have hb4' := btrans HB.out (by omega) HB4.out
  have HB5 := hid hb4'
  have H5 := hid h1
  clear c0 c1 c2 hb4 hb4' HW H1 H2 H3 HB HB2
  have r0 : w4.cell? ⟨w.heap.size + 1, 0, none⟩ = some (.int .i64 0) := by simp [World.cell?, h1]
  have r1 : w4.cell? ⟨w.heap.size + 1, 1, none⟩ = some (.int .i64 0) := by simp [World.cell?, h1]
  have r2 : w4.cell? ⟨w.heap.size + 1, 2, none⟩ = some (.int .i64 0) := by simp [World.cell?, h1]
  have e0 : w4.frozen? ⟨w.heap.size + 1, 0, none⟩ = false := by simp [World.frozen?, h1]
  have e1' : w4.frozen? ⟨w.heap.size + 1, 1, none⟩ = false := by simp [World.frozen?, h1]
  have e2' : w4.frozen? ⟨w.heap.size + 1, 2, none⟩ = false := by simp [World.frozen?, h1]
  clear h1
  go_wp2_with fail
  have hp := put3_same (.int .i64 (e - 1)) (.int .i64 lq) (.int .i64 hq) H5.out
  have hb9 := (((HB5.out.setCell (p := ⟨w.heap.size + 1, 0, none⟩) (by simp) (.int .i64 (e - 1))).setCell (p := ⟨w.heap.size + 1, 1, none⟩) (by simp) (.int .i64 lq)).setCell (p := ⟨w.heap.size + 1, 2, none⟩) (by simp) (.int .i64 hq))
  generalize (((w4.setCell ⟨w.heap.size + 1, 0, none⟩ (.int .i64 (e - 1))).setCell ⟨w.heap.size + 1, 1, none⟩ (.int .i64 lq)).setCell ⟨w.heap.size + 1, 2, none⟩ (.int .i64 hq)) = W9 at *
  refine bodyPost_ret (results_c2 rfl _ _ _ ⟨w.heap.size + 1, 0, none⟩ _ rfl (load52 W9 (w.heap.size + 1) (.int .i64 (e - 1)) (.int .i64 lq) (.int .i64 hq) (by simp [World.cell?, hp]) (by simp [World.cell?, hp]) (by simp [World.cell?, hp]))) rfl ⟨rfl, hb9⟩
theorem put2_same' {w : World} {b : Nat} {t : TypeId} {a0 a1 : Value} (u v : Value) (h : w.heap[b]? = some (.cells #[a0, a1] t (0, 0))) : ((w.setCell ⟨b, 0, none⟩ u).setCell ⟨b, 1, none⟩ v).heap[b]? = some (.cells #[u, v] t (0, 0)) := put2_same u v h
/-- A hope without a doubt. -/
def sureV (b : Bool) : Value := if b then .agg #[.int .i64 65536, .int .i64 65536] else .agg #[.int .i64 0, .int .i64 0]
set_option maxRecDepth 100000 in
theorem sure74_any (b : Bool) (w : World) : Calls Tryz.prog 74 #[.bool b] w fun o w' => o = .returned (sureV b) ∧ Below w.heap.size w w' := by
  have hb1 := (Below.refl w.heap.size w).alloc (Nat.le_refl _) (.cells #[.int .i64 0, .int .i64 0] 64)
  have p0 := heap_alloc_new w (.cells #[.int .i64 0, .int .i64 0] 64)
  obtain ⟨W1, hW1⟩ : ∃ W1, w.alloc (.cells #[.int .i64 0, .int .i64 0] 64) = W1 := ⟨_, rfl⟩
  rw [hW1] at hb1 p0
  have HW := hid hW1
  have HB := hid hb1
  have HP := hid p0
  have r0 : W1.cell? ⟨w.heap.size, 0, none⟩ = some (.int .i64 0) := by simp [World.cell?, p0]
  have r1 : W1.cell? ⟨w.heap.size, 1, none⟩ = some (.int .i64 0) := by simp [World.cell?, p0]
  have e0 : W1.frozen? ⟨w.heap.size, 0, none⟩ = false := by simp [World.frozen?, p0]
  have e1 : W1.frozen? ⟨w.heap.size, 1, none⟩ = false := by simp [World.frozen?, p0]
  clear hW1 hb1 p0
  cases b with
  | true =>
    go_enter Tryz.func74, Tryz.ntmps74
    go_upto_region 2 with fail
    rw [HW.out]
    go_wp2_with fail
    have hp := put2_same (.int .i64 65536) (.int .i64 65536) HP.out
    have hb9 := (HB.out.setCell (p := ⟨w.heap.size, 0, none⟩) (by simp) (.int .i64 65536)).setCell (p := ⟨w.heap.size, 1, none⟩) (by simp) (.int .i64 65536)
    generalize ((W1.setCell ⟨w.heap.size, 0, none⟩ (.int .i64 65536)).setCell ⟨w.heap.size, 1, none⟩ (.int .i64 65536)) = W9 at *
    refine bodyPost_ret (results_c1 rfl _ _ _ ⟨w.heap.size, 0, none⟩ _ rfl (load64 W9 w.heap.size (.int .i64 65536) (.int .i64 65536) (by simp [World.cell?, hp]) (by simp [World.cell?, hp]))) rfl ⟨rfl, hb9⟩
  | false =>
    go_enter Tryz.func74, Tryz.ntmps74
    go_upto_region 3 with fail
    rw [HW.out]
    go_wp2_with fail
    have hp := put2_same (.int .i64 0) (.int .i64 0) HP.out
    have hb9 := (HB.out.setCell (p := ⟨w.heap.size, 0, none⟩) (by simp) (.int .i64 0)).setCell (p := ⟨w.heap.size, 1, none⟩) (by simp) (.int .i64 0)
    generalize ((W1.setCell ⟨w.heap.size, 0, none⟩ (.int .i64 0)).setCell ⟨w.heap.size, 1, none⟩ (.int .i64 0)) = W9 at *
    refine bodyPost_ret (results_c1 rfl _ _ _ ⟨w.heap.size, 0, none⟩ _ rfl (load64 W9 w.heap.size (.int .i64 0) (.int .i64 0) (by simp [World.cell?, hp]) (by simp [World.cell?, hp]))) rfl ⟨rfl, hb9⟩
set_option maxRecDepth 100000 in
set_option maxHeartbeats 2000000 in
theorem hope73_over (l h : Int) (hl : l ≠ 0) (x y : Value) (w : World) : Calls Tryz.prog 73 #[stV 0 l h, x, y] w fun o w' => o = .returned (sureV (decide (0 < l))) ∧ Below w.heap.size w w' := by
  have H1 := hid (fun W => sure74_any (decide (0 < l)) W)
  have HV := hid (show sureV (decide (0 < l)) = (if 0 < l then .agg #[.int .i64 65536, .int .i64 65536] else .agg #[.int .i64 0, .int .i64 0]) by unfold sureV; by_cases h : 0 < l <;> simp [h])
  obtain ⟨z, hz'⟩ : ∃ z : Int, (if 0 < l then 65536 else 0) = z := ⟨_, rfl⟩
  have HS := hid (show sureV (decide (0 < l)) = .agg #[.int .i64 z, .int .i64 z] by rw [HV.out, ← hz']; split <;> rfl)
  rw [HS.out] at H1
  rw [HS.out]
  clear HV HS hz'
  obtain ⟨bl, hbl⟩ : ∃ b, decide (0 < l) = b := ⟨_, rfl⟩
  rw [hbl] at H1
  obtain ⟨W1, hW1⟩ : ∃ W1, (w.alloc (.cells #[.int .i64 0, .int .i64 l, .int .i64 h] 52)).alloc (.cells #[.int .i64 0, .int .i64 0] 64) = W1 := ⟨_, rfl⟩
  have hz : W1.heap.size = w.heap.size + 2 := by rw [← hW1]; simp
  have hb1 : Below w.heap.size w W1 := by rw [← hW1]; exact ((Below.refl _ w).alloc (Nat.le_refl _) _).alloc (by simp) _
  have p0 : W1.heap[w.heap.size]? = some (.cells #[.int .i64 0, .int .i64 l, .int .i64 h] 52 (0, 0)) := by
    rw [← hW1, Below.heap_alloc _ _ _ (by simp)]; exact heap_alloc_new w _
  have p1 : W1.heap[w.heap.size + 1]? = some (.cells #[.int .i64 0, .int .i64 0] 64 (0, 0)) := by
    rw [← hW1]
    simpa using heap_alloc_new (w.alloc (.cells #[.int .i64 0, .int .i64 l, .int .i64 h] 52)) (.cells #[.int .i64 0, .int .i64 0] 64)
  have HB := hid hb1
  have HW := hid hW1
  have HP := hid p1
  have c0 : W1.cell? ⟨w.heap.size, 0, none⟩ = some (.int .i64 0) := by simp [World.cell?, p0]
  have c1 : W1.cell? ⟨w.heap.size, 1, none⟩ = some (.int .i64 l) := by simp [World.cell?, p0]
  clear hb1 hW1 p0 p1
  go_enter Tryz.func73, Tryz.ntmps73
  go_upto_region 1 with fail
  rw [HW.out]
  clear HW
  go_wp2_with fail
  refine (H1.out _).mono ?_
  rintro o w2 ⟨rfl, hb2⟩
  have h1 := (hb2.block (w.heap.size + 1) (by omega)).trans HP.out
  have HB2 := hid (btrans HB.out (by omega) hb2)
  have H2 := hid h1
  clear c0 c1 hb2 HB HP H1
  have r0 : w2.cell? ⟨w.heap.size + 1, 0, none⟩ = some (.int .i64 0) := by simp [World.cell?, h1]
  have r1 : w2.cell? ⟨w.heap.size + 1, 1, none⟩ = some (.int .i64 0) := by simp [World.cell?, h1]
  have e0 : w2.frozen? ⟨w.heap.size + 1, 0, none⟩ = false := by simp [World.frozen?, h1]
  have e1 : w2.frozen? ⟨w.heap.size + 1, 1, none⟩ = false := by simp [World.frozen?, h1]
  clear h1
  go_wp2_with fail
  have hp := put2_same (.int .i64 z) (.int .i64 z) H2.out
  have hb9 := (HB2.out.setCell (p := ⟨w.heap.size + 1, 0, none⟩) (by simp) (.int .i64 z)).setCell (p := ⟨w.heap.size + 1, 1, none⟩) (by simp) (.int .i64 z)
  generalize ((w2.setCell ⟨w.heap.size + 1, 0, none⟩ (.int .i64 z)).setCell ⟨w.heap.size + 1, 1, none⟩ (.int .i64 z)) = W9 at *
  refine bodyPost_ret (results_c1 rfl _ _ _ ⟨w.heap.size + 1, 0, none⟩ _ rfl (load64 W9 (w.heap.size + 1) (.int .i64 z) (.int .i64 z) (by simp [World.cell?, hp]) (by simp [World.cell?, hp]))) rfl ⟨rfl, hb9⟩
/-- What reckon gives: an object whose hope is the closure. -/
def RkObj (w : World) (B : Nat) : Prop := ∃ x y, w.cell? ⟨B, 3, none⟩ = some (.func (.func 73) #[] #[x, y])
set_option maxRecDepth 100000 in
set_option maxHeartbeats 2000000 in
theorem reckon37_any (d : Int) (v0 v1 : Value) (hv0 : ∃ a n c, v0 = .slice a n c) (hv1 : ∃ a n c, v1 = .slice a n c) (w : World) : Calls Tryz.prog 37 #[.agg #[.int .i64 d, v0, v1]] w fun o w' => (∃ B, o = .returned (.pointer (some ⟨B, 0, none⟩)) ∧ B < w'.heap.size ∧ RkObj w' B) ∧ Below w.heap.size w w' := by
  obtain ⟨a0, n0, c0, rfl⟩ := hv0
  obtain ⟨a1, n1, c1, rfl⟩ := hv1
  have hm := run_makeFunc
  have hmm := @run_makeMap Tryz.prog
  go_enter Tryz.func37, Tryz.ntmps37
  obtain ⟨W5, hW5⟩ : ∃ W5, ((((w.alloc (.cells #[.int .i64 d, .slice a0 n0 c0, .slice a1 n1 c1] 49)).alloc (.cells #[.int .i64 d, .slice a0 n0 c0, .slice a1 n1 c1, .nilFunc] 114)).alloc (.cells #[.pointer (some ⟨w.heap.size + 1, 0, none⟩)] 115)).alloc (.map #[] 0)).alloc (.cells #[.map (some (w.heap.size + 1 + 1 + 1))] 166) = W5 := ⟨_, rfl⟩
  have hz : W5.heap.size = w.heap.size + 5 := by rw [← hW5]; simp
  have hb5 : Below w.heap.size w W5 := by rw [← hW5]; exact (((((Below.refl _ w).alloc (Nat.le_refl _) _).alloc (by simp) _).alloc (by simp <;> omega) _).alloc (by simp <;> omega) _).alloc (by simp <;> omega) _
  have h1 : W5.heap[w.heap.size + 1]? = some (.cells #[.int .i64 d, .slice a0 n0 c0, .slice a1 n1 c1, .nilFunc] 114 (0, 0)) := by
    rw [← hW5, Below.heap_alloc _ _ _ (by simp <;> omega), Below.heap_alloc _ _ _ (by simp <;> omega), Below.heap_alloc _ _ _ (by simp)]
    simpa using heap_alloc_new (w.alloc (.cells #[.int .i64 d, .slice a0 n0 c0, .slice a1 n1 c1] 49)) (.cells #[.int .i64 d, .slice a0 n0 c0, .slice a1 n1 c1, .nilFunc] 114)
  have h2 : W5.heap[w.heap.size + 1 + 1]? = some (.cells #[.pointer (some ⟨w.heap.size + 1, 0, none⟩)] 115 (0, 0)) := by
    rw [← hW5, Below.heap_alloc _ _ _ (by simp <;> omega), Below.heap_alloc _ _ _ (by simp)]
    simpa using heap_alloc_new ((w.alloc (.cells #[.int .i64 d, .slice a0 n0 c0, .slice a1 n1 c1] 49)).alloc (.cells #[.int .i64 d, .slice a0 n0 c0, .slice a1 n1 c1, .nilFunc] 114)) (.cells #[.pointer (some ⟨w.heap.size + 1, 0, none⟩)] 115)
  have q0 : W5.cell? ⟨w.heap.size + 1 + 1, 0, none⟩ = some (.pointer (some ⟨w.heap.size + 1, 0, none⟩)) := by simp [World.cell?, h2]
  have q1 : W5.cell? ⟨w.heap.size + 1, 3, none⟩ = some .nilFunc := by simp [World.cell?, h1]
  have f1 : W5.frozen? ⟨w.heap.size + 1, 3, none⟩ = false := by simp [World.frozen?, h1]
  have q2 : W5.cell? ⟨w.heap.size + 1, 0, none⟩ = some (.int .i64 d) := by simp [World.cell?, h1]
  have HB := hid hb5
  have HZ := hid hz
  have H1 := hid h1
  have HW := hid hW5
  clear h1 h2 hb5 hz hW5
  go_upto_region 3 with fail
  rw [HW.out]
  go_wp2_with fail
  go_ret
  exact ⟨⟨w.heap.size + 1, rfl, by have := HZ.out; simp <;> omega, _, _, World.cell?_setCell_same _ _ _ q1⟩, HB.out.setCell (p := ⟨w.heap.size + 1, 3, none⟩) (by simp) _⟩
end Go.Proofs.YtolnhicngepnnaaGreat
