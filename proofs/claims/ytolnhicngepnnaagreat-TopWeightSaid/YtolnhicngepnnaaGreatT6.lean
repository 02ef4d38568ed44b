/- fixed.Check, fixed.Left of valid numbers. -/
import Derived.Test.YtolnhicngepnnaaGreatT5
namespace Go.Proofs.YtolnhicngepnnaaGreat
open Go.RowKit

attribute [local go_sem] assert_nil assert_misfit
set_option maxRecDepth 100000 in
theorem catchI_idle (p q : Addr) (w : World) :
    CallsD Tryz.prog 209 #[.pointer (some p), .pointer (some q)] .returning w fun e u' w' => e = .returned (.tuple #[]) ∧ u' = .returning ∧ Below w.heap.size w w' := by
  refine callsD_of_wpS Tryz.func209 rfl fun c₀ cs hu => ?_
  simp only [Tryz.ntmps209, List.size_toArray, List.length_cons, List.length_nil, Nat.reduceAdd, Nat.reduceSub, Array.replicate_succ, Array.replicate_zero, List.push_toArray, List.append_toArray, List.nil_append, List.cons_append]
  apply wpS_seq
  apply wpS_region
  simp [wpOpsS, go_sem, recoverD, hu, Exit.thenS]
  refine wpS_of_wp ?_
  go_wp2_with fail
  refine ⟨rfl, .returning, by cases c₀; simp_all, .tuple #[], results_none rfl _ _ _, rfl, rfl, (Below.refl _ _).alloc (Nat.le_refl _) _⟩
set_option maxRecDepth 100000 in
theorem triedI_ok (g : FuncId) (lb : Array Value) (v : Int) (w : World) (hcf : ∀ args w, (callFunc g args).run Tryz.prog w = .ok (.enter g args) w)
    (h : ∀ W, Below w.heap.size w W → Calls Tryz.prog g lb W fun e W' => e = .returned (.int .i64 v) ∧ Below W.heap.size W W') :
    Calls Tryz.prog 201 #[.func (.func g) #[] lb] w fun e w' => e = .returned (.tuple #[.int .i64 v, .int .i64 0]) ∧ Below w.heap.size w w' := by
  have hmf : ∀ (fn : Fn) (first cap : Array Value) (w : World), (Instr.makeFunc fn first cap).run Tryz.prog w = .ok (.func fn first cap) w := fun _ _ _ _ => rfl
  have H := hid h
  go_enter_defers Tryz.func201, Tryz.ntmps201
  go_wp2_with fail
  obtain ⟨W2, hW2⟩ : ∃ W2, (w.alloc (.cells #[.int .i64 0] 3)).alloc (.cells #[.int .i64 0] 33) = W2 := ⟨_, rfl⟩
  have hz2 : W2.heap.size = w.heap.size + 2 := by rw [← hW2]; simp
  have p2 : W2.heap[w.heap.size]? = some (.cells #[.int .i64 0] 3 (0, 0)) := by
    rw [← hW2, Below.heap_alloc _ _ _ (by simp)]; exact heap_alloc_new w _
  have q2 : W2.heap[w.heap.size + 1]? = some (.cells #[.int .i64 0] 33 (0, 0)) := by
    rw [← hW2]
    have := heap_alloc_new (w.alloc (.cells #[.int .i64 0] 3)) (.cells #[.int .i64 0] 33)
    simpa using this
  have hb2 : Below w.heap.size w W2 := by
    rw [← hW2]; exact ((Below.refl _ w).alloc (Nat.le_refl _) _).alloc (by simp) _
  rw [hW2]
  refine (H.out W2 hb2).mono ?_
  rintro e W3 ⟨rfl, hb3⟩
  have hz3 := hb3.size
  have p3 := (hb3.block w.heap.size (by omega)).trans p2
  have q3 := (hb3.block (w.heap.size + 1) (by omega)).trans q2
  have cp : W3.cell? ⟨w.heap.size, 0, none⟩ = some (.int .i64 0) := by simp [World.cell?, p3]
  have cq : W3.cell? ⟨w.heap.size + 1, 0, none⟩ = some (.int .i64 0) := by simp [World.cell?, q3]
  have fp : W3.frozen? ⟨w.heap.size, 0, none⟩ = false := by simp [World.frozen?, p3]
  have fq : W3.frozen? ⟨w.heap.size + 1, 0, none⟩ = false := by simp [World.frozen?, q3]
  have HB3 := hid (hb2.trans (hb3.mono (by omega)))
  clear hW2 H h p2 q2 hb2 hb3 p3 q3
  go_wp2_with fail
  refine leaves_cons (f := 209) (args := #[.pointer (some ⟨w.heap.size, 0, none⟩), .pointer (some ⟨w.heap.size + 1, 0, none⟩)]) (by simp) (by simp [go_sem]) ?_
  have h4 := two_set1 W3 w.heap.size (w.heap.size + 1) _ _ (.int .i64 v) (.int .i64 0) cp cq (by omega)
  have hb4 : Below w.heap.size w ((W3.setCell ⟨w.heap.size, 0, none⟩ (.int .i64 v)).setCell ⟨w.heap.size + 1, 0, none⟩ (.int .i64 0)) := (HB3.out.setCell (Nat.le_refl _) _).setCell (by simp) _
  refine (catchI_idle ⟨w.heap.size, 0, none⟩ ⟨w.heap.size + 1, 0, none⟩ _).mono ?_
  rintro e u' w'' ⟨rfl, rfl, h5⟩
  have c1 := bcs h5 h4.1
  have c2 := bcs h5 h4.2
  have hb5 := hb4.trans (h5.mono hb4.size)
  refine ⟨.tuple #[.int .i64 v, .int .i64 0], ?_, rfl, hb5⟩
  simp [results, Tryz.results201, go_sem, c1, c2]
set_option maxRecDepth 100000 in
theorem check202_ok (a : Int) (ha : okF a = true) (p : Nat) (w : World) (c0 : w.cell? ⟨p, 0, none⟩ = some (.int .i64 a)) :
    Calls Tryz.prog 202 #[.pointer (some ⟨p, 0, none⟩)] w fun e w' => e = .returned (.int .i64 0) ∧ Below w.heap.size w w' := by
  have HR := hid (fun W v hs => right_any v [a] W hs)
  have HRA := hid (show [a].all okF = true by simp [ha])
  have HSL := hid (new_SlI w [a] #[.int .i64 a] 22 rfl (by simp))
  have HBA := hid ((Below.refl w.heap.size w).alloc (Nat.le_refl _) (.cells #[.int .i64 a] 22))
  clear ha
  go_enter Tryz.func202, Tryz.ntmps202
  go_wp2_with fail
  refine (HR.out _ _ HSL.out).mono ?_
  rintro e W1 ⟨he, hb1⟩
  rw [HRA.out] at he
  obtain rfl : e = .returned (.tuple #[]) := he
  have HB2 := hid (btrans HBA.out (by simp) hb1)
  clear hb1 c0
  go_wp2_with fail
  go_ret
  exact ⟨rfl, HB2.out⟩
set_option maxRecDepth 100000 in
theorem check184_ok (a : Int) (ha : okF a = true) (w : World) : Calls Tryz.prog 184 #[.int .i64 a] w fun e w' => e = .returned (.int .i64 0) ∧ Below w.heap.size w w' := by
  have HT := hid (triedI_ok 202 #[.pointer (some ⟨w.heap.size, 0, none⟩)] 0 (w.alloc (.cells #[.int .i64 a] 22)) (enters_of Tryz.func202 (by kernel_rfl) rfl) (fun W h => check202_ok a ha _ W (bcs h (cell_new' _ _ _ 0 _ rfl))))
  have HB := hid ((Below.refl w.heap.size w).alloc (Nat.le_refl _) (.cells #[.int .i64 a] 22))
  have hm := run_makeFunc
  clear ha
  go_enter Tryz.func184, Tryz.ntmps184
  go_wp2_with fail
  refine HT.out.mono ?_
  rintro e w1 ⟨rfl, hb⟩
  have HB1 := hid (btrans HB.out (by simp) hb)
  clear hb
  go_wp2_with fail
  go_ret
  exact ⟨rfl, HB1.out⟩
set_option maxRecDepth 100000 in
set_option maxHeartbeats 1000000 in
theorem left157_ok (x y : Int) (hx : okF x = true) (hy : okF y = true) (w : World) : Calls Tryz.prog 157 #[.agg #[.int .i64 x, .int .i64 y]] w fun e w' => e = .returned (.agg #[.int .i64 (-y), .int .i64 x]) ∧ Below w.heap.size w w' := by
  have HX := hid (fun W => check184_ok x hx W)
  have HY := hid (fun W => check184_ok y hy W)
  have hy2 : -70368744177664 ≤ y ∧ y ≤ 70368744177664 := by simpa [okF] using hy
  have hw : IntKind.i64.wrap (-y) = -y := by rw [IntKind.wrap_i64]; omega
  obtain ⟨W1, hW1⟩ : ∃ W1, (w.alloc (.cells #[.int .i64 x, .int .i64 y] 28)).alloc (.cells #[.int .i64 0, .int .i64 0] 28) = W1 := ⟨_, rfl⟩
  have hz : W1.heap.size = w.heap.size + 2 := by rw [← hW1]; simp
  have hb1 : Below w.heap.size w W1 := by rw [← hW1]; exact ((Below.refl _ w).alloc (Nat.le_refl _) _).alloc (by simp) _
  have p0 : W1.heap[w.heap.size]? = some (.cells #[.int .i64 x, .int .i64 y] 28 (0, 0)) := by
    rw [← hW1, Below.heap_alloc _ _ _ (by simp)]; exact heap_alloc_new w _
  have p1 : W1.heap[w.heap.size + 1]? = some (.cells #[.int .i64 0, .int .i64 0] 28 (0, 0)) := by
    rw [← hW1]
    simpa using heap_alloc_new (w.alloc (.cells #[.int .i64 x, .int .i64 y] 28)) (.cells #[.int .i64 0, .int .i64 0] 28)
  have HQ := hid (show ∀ W, Below W1.heap.size W1 W → W.heap[w.heap.size]? = some (.cells #[.int .i64 x, .int .i64 y] 28 (0, 0)) ∧ W.heap[w.heap.size + 1]? = some (.cells #[.int .i64 0, .int .i64 0] 28 (0, 0)) from fun W h => ⟨(h.block _ (by omega)).trans p0, (h.block _ (by omega)).trans p1⟩)
  have HB := hid hb1
  have HW := hid hW1
  have HZ := hid hz
  clear hW1 hb1 p0 p1 hz hx hy hy2
  go_enter Tryz.func157, Tryz.ntmps157
  go_upto_region 1 with fail
  rw [HW.out]
  clear HW
  obtain ⟨c0, c1, -, -⟩ := cells2 (HQ.out _ (Below.refl _ _)).1
  go_wp2_with fail
  refine (HX.out _).mono ?_
  rintro e w2 ⟨rfl, hb2⟩
  have HX2 := hid hb2
  clear hb2 c0 c1
  obtain ⟨c0, c1, -, -⟩ := cells2 (HQ.out _ HX2.out).1
  go_wp2_with fail
  refine (HY.out _).mono ?_
  rintro e w3 ⟨rfl, hb3⟩
  have HX3 := hid (HX2.out.trans (hb3.mono HX2.out.size))
  clear hb3 c0 c1 HX2
  obtain ⟨c0, c1, -, -⟩ := cells2 (HQ.out _ HX3.out).1
  obtain ⟨k0, k1, l0, l1⟩ := cells2 (HQ.out _ HX3.out).2
  have HB3 := hid (btrans HB.out (by have := HZ.out; omega) HX3.out)
  have HP := hid (HQ.out _ HX3.out).2
  go_wp2_with fail
  have hp := put2_same (.int .i64 (-y)) (.int .i64 x) HP.out
  have hb9 := (HB3.out.setCell (p := ⟨w.heap.size + 1, 0, none⟩) (by simp) (.int .i64 (-y))).setCell (p := ⟨w.heap.size + 1, 1, none⟩) (by simp) (.int .i64 x)
  generalize (w3.setCell ⟨w.heap.size + 1, 0, none⟩ (.int .i64 (-y))).setCell ⟨w.heap.size + 1, 1, none⟩ (.int .i64 x) = W9 at *
  refine bodyPost_ret (results_c1 rfl _ _ _ ⟨w.heap.size + 1, 0, none⟩ _ rfl (load28 W9 (w.heap.size + 1) (.int .i64 (-y)) (.int .i64 x) (by simp [World.cell?, hp]) (by simp [World.cell?, hp]))) rfl ⟨rfl, hb9⟩
end Go.Proofs.YtolnhicngepnnaaGreat
