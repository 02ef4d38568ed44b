/- ice.Bend; fixed.Left; glide.must of a spot. -/
import Derived.Test.YtolnhicngepnnaaGreatT4
import Derived.Test.YtolnhicngepnnaaGreatT2
namespace Go.Proofs.YtolnhicngepnnaaGreat
open Go.RowKit

/-- How ice bends. -/
def bendN (b po : Nat) : Nat := nearN (65536 * (b * (2000 - po))) 2000000
theorem bendN_le (b po : Nat) (hb : b ≤ 1000) : bendN b po ≤ 65536 :=
  nearN_le (by omega) (Nat.mul_le_mul (Nat.le_refl _) (by have := Nat.mul_le_mul hb (Nat.sub_le 2000 po); omega))
set_option maxRecDepth 100000 in
theorem bend155_ok (cx cy sd W H px py : Int) (pv qv : Value) (pl ql : List Int) (fl kn a b : Nat) (c : Int) (pe po : Nat) (w : World) (hpv : SlI w pv pl) (hqv : SlI w qv ql) (hR : rightR cx cy sd W H pl ql fl kn a b c [(px, py)] = true)
    (hpe : grR pl (px - cx) (py - cy) sd W H = (pe : Int)) (hpo : grR ql (px - cx) (py - cy) sd W H = (po : Int)) (_hpe2 : pe ≤ 1000) (hpo2 : po ≤ 1000) :
    Calls Tryz.prog 155 #[iceV cx cy sd W H pv qv, grainV fl kn a b c, .agg #[.int .i64 px, .int .i64 py]] w fun e w' => e = .returned (.tuple #[.int .i64 (bendN b po : Nat), .int .i64 0]) ∧ Below w.heap.size w w' := by
  have hr2 := hR
  simp only [rightR, iceOk, grainOk, placedR, Bool.and_eq_true, inB, List.any_cons, List.any_nil, Bool.or_false, Bool.not_not, decide_eq_true_eq, beq_iff_eq] at hr2
  obtain ⟨⟨hc, hs, hw, hh, hpl, hql, -, -⟩, ⟨⟨-, hkn⟩, hfl, ha, hbb, -⟩, hp⟩ := hr2
  have HS := hid (fun U hb => grains65_any cx cy sd W H px py pv qv pl ql U hs hw hh hc hp (SlI.below hpv hb) (SlI.below hqv hb) hpl hql)
  rw [hpe, hpo] at HS
  have hb1000 : b ≤ 1000 := by omega
  have hpr : b * (2000 - po) ≤ 2000000 := by have := Nat.mul_le_mul hb1000 (Nat.sub_le 2000 po); omega
  have HN := hid (fun U => scaleN_any 65536 (b * (2000 - po)) 2000000 (by omega) (by omega) (by omega) (by omega) (by omega) (by have : nearN (65536 * (b * (2000 - po))) 2000000 ≤ 65536 := nearN_le (by omega) (Nat.mul_le_mul (Nat.le_refl _) hpr); omega) U)
  rw [show nearN (65536 * (b * (2000 - po))) 2000000 = bendN b po from rfl, show ((b * (2000 - po) : Nat) : Int) = (b : Int) * (2000 - (po : Int)) by rw [Int.natCast_mul, Int.ofNat_sub (by omega)]; rfl] at HN
  have hw1 : IntKind.i64.wrap (2000 - (po : Int)) = 2000 - (po : Int) := by rw [IntKind.wrap_i64]; omega
  have hw2 : IntKind.i64.wrap ((b : Int) * (2000 - (po : Int))) = (b : Int) * (2000 - (po : Int)) := by rw [IntKind.wrap_i64]; have h : ((b * (2000 - po) : Nat) : Int) = (b : Int) * (2000 - (po : Int)) := by { rw [Int.natCast_mul, Int.ofNat_sub (by omega)]; rfl }; omega
  have HR := hid (fun U v h1 h2 h3 => right36_any cx cy sd W H pv qv pl ql fl kn a b c v [(px, py)] U h1 h2 h3)
  rw [hR] at HR
  have HSL := hid (And.intro hpv hqv)
  obtain ⟨pa, pc, rfl, -, -⟩ := hpv.open
  obtain ⟨qa, qc, rfl, -, -⟩ := hqv.open
  obtain ⟨W1, hW1⟩ : ∃ W1, ((w.alloc (.cells #[.int .i64 cx, .int .i64 cy, .int .i64 sd, .int .i64 W, .int .i64 H, .slice pa pl.length pc, .slice qa ql.length qc] 31)).alloc (.cells #[.int .i64 fl, .int .i64 kn, .int .i64 a, .int .i64 b, .int .i64 c] 24)).alloc (.cells #[.int .i64 px, .int .i64 py] 28) = W1 := ⟨_, rfl⟩
  have hz : W1.heap.size = w.heap.size + 3 := by rw [← hW1]; simp
  have hb1 : Below w.heap.size w W1 := by rw [← hW1]; exact (((Below.refl _ w).alloc (Nat.le_refl _) _).alloc (by simp) _).alloc (by simp <;> omega) _
  have b0 : W1.heap[w.heap.size]? = some (.cells #[.int .i64 cx, .int .i64 cy, .int .i64 sd, .int .i64 W, .int .i64 H, .slice pa pl.length pc, .slice qa ql.length qc] 31 (0, 0)) := by
    rw [← hW1, Below.heap_alloc _ _ _ (by simp <;> omega), Below.heap_alloc _ _ _ (by simp)]; exact heap_alloc_new w _
  have b1 : W1.heap[w.heap.size + 1]? = some (.cells #[.int .i64 fl, .int .i64 kn, .int .i64 a, .int .i64 b, .int .i64 c] 24 (0, 0)) := by
    rw [← hW1, Below.heap_alloc _ _ _ (by simp)]
    simpa using heap_alloc_new (w.alloc (.cells #[.int .i64 cx, .int .i64 cy, .int .i64 sd, .int .i64 W, .int .i64 H, .slice pa pl.length pc, .slice qa ql.length qc] 31)) (.cells #[.int .i64 fl, .int .i64 kn, .int .i64 a, .int .i64 b, .int .i64 c] 24)
  have b2 : W1.heap[w.heap.size + 1 + 1]? = some (.cells #[.int .i64 px, .int .i64 py] 28 (0, 0)) := by
    rw [← hW1]
    simpa using heap_alloc_new ((w.alloc (.cells #[.int .i64 cx, .int .i64 cy, .int .i64 sd, .int .i64 W, .int .i64 H, .slice pa pl.length pc, .slice qa ql.length qc] 31)).alloc (.cells #[.int .i64 fl, .int .i64 kn, .int .i64 a, .int .i64 b, .int .i64 c] 24)) (.cells #[.int .i64 px, .int .i64 py] 28)
  have HC := hid (show ∀ U, Below W1.heap.size W1 U → U.heap[w.heap.size]? = some (.cells #[.int .i64 cx, .int .i64 cy, .int .i64 sd, .int .i64 W, .int .i64 H, .slice pa pl.length pc, .slice qa ql.length qc] 31 (0, 0)) ∧ U.heap[w.heap.size + 1]? = some (.cells #[.int .i64 fl, .int .i64 kn, .int .i64 a, .int .i64 b, .int .i64 c] 24 (0, 0)) ∧ U.heap[w.heap.size + 1 + 1]? = some (.cells #[.int .i64 px, .int .i64 py] 28 (0, 0)) from fun U hb => ⟨(hb.block _ (by omega)).trans b0, (hb.block _ (by omega)).trans b1, (hb.block _ (by omega)).trans b2⟩)
  have HB := hid hb1
  have HSP := hid (new_SlP W1 px py 28)
  have HW := hid hW1
  clear hs hw hh hc hp hpv hqv hpl hql hpe hpo hb1 b1 b0 b2 hW1 hR hkn hfl ha hpo2 hbb hb1000 hpr
  generalize bendN b po = res at *
  go_enter Tryz.func155, Tryz.ntmps155
  go_wp2_with fail
  rw [HW.out]
  refine (HR.out _ _ (SlI.below HSL.out.1 (HB.out.alloc HB.out.size _)) (SlI.below HSL.out.2 (HB.out.alloc HB.out.size _)) (by have := HSP.out; rwa [hz] at this)).mono ?_
  rintro e W2 ⟨rfl, hb2⟩
  have hb2' : Below W1.heap.size W1 W2 := btrans ((Below.refl _ W1).alloc (Nat.le_refl _) _) (by simp) hb2
  have hC := HC.out _ hb2'
  have HB2 := hid (btrans HB.out (by omega) hb2')
  obtain ⟨h0, h1, h2⟩ := hC
  have q0 : W2.cell? ⟨w.heap.size, 0, none⟩ = some (.int .i64 cx) := by simp [World.cell?, h0]
  have q1 : W2.cell? ⟨w.heap.size, 1, none⟩ = some (.int .i64 cy) := by simp [World.cell?, h0]
  have q2 : W2.cell? ⟨w.heap.size, 2, none⟩ = some (.int .i64 sd) := by simp [World.cell?, h0]
  have q3 : W2.cell? ⟨w.heap.size, 3, none⟩ = some (.int .i64 W) := by simp [World.cell?, h0]
  have q4 : W2.cell? ⟨w.heap.size, 4, none⟩ = some (.int .i64 H) := by simp [World.cell?, h0]
  have q5 : W2.cell? ⟨w.heap.size, 5, none⟩ = some (.slice pa pl.length pc) := by simp [World.cell?, h0]
  have q6 : W2.cell? ⟨w.heap.size, 6, none⟩ = some (.slice qa ql.length qc) := by simp [World.cell?, h0]
  have r0 : W2.cell? ⟨w.heap.size + 1, 0, none⟩ = some (.int .i64 (fl : Int)) := by simp [World.cell?, h1]
  have r1 : W2.cell? ⟨w.heap.size + 1, 1, none⟩ = some (.int .i64 (kn : Int)) := by simp [World.cell?, h1]
  have r2 : W2.cell? ⟨w.heap.size + 1, 2, none⟩ = some (.int .i64 (a : Int)) := by simp [World.cell?, h1]
  have r3 : W2.cell? ⟨w.heap.size + 1, 3, none⟩ = some (.int .i64 b) := by simp [World.cell?, h1]
  have r4 : W2.cell? ⟨w.heap.size + 1, 4, none⟩ = some (.int .i64 c) := by simp [World.cell?, h1]
  have t0 : W2.cell? ⟨w.heap.size + 1 + 1, 0, none⟩ = some (.int .i64 px) := by simp [World.cell?, h2]
  have t1 : W2.cell? ⟨w.heap.size + 1 + 1, 1, none⟩ = some (.int .i64 py) := by simp [World.cell?, h2]
  clear h0 h1 h2 HC HB hb2 hb2' HW HR HSP
  go_wp2_with fail
  refine (HS.out _ HB2.out).mono ?_
  rintro e W4 ⟨rfl, hb4⟩
  have k3 := bcs hb4 r3
  have HB4 := hid (HB2.out.trans (hb4.mono HB2.out.size))
  clear q0 q1 q2 q3 q4 q5 q6 r0 r1 r2 r3 r4 t0 t1 hb4 HS HB2
  go_wp2_with fail
  refine (HN.out _).mono ?_
  rintro e W5 ⟨rfl, hb5⟩
  go_wp2_with fail
  go_ret2
  exact ⟨rfl, HB4.out.trans (hb5.mono HB4.out.size)⟩
theorem must156_ok (x y : Int) (w : World) : Calls Tryz.prog 156 #[.agg #[.int .i64 x, .int .i64 y], .int .i64 0] w fun e w' => e = .returned (.agg #[.int .i64 x, .int .i64 y]) ∧ Below w.heap.size w w' := by
  obtain ⟨W1, hW1⟩ : ∃ W1, (w.alloc (.cells #[.int .i64 x, .int .i64 y] 28)).alloc (.cells #[.int .i64 0, .int .i64 0] 28) = W1 := ⟨_, rfl⟩
  have hz : W1.heap.size = w.heap.size + 2 := by rw [← hW1]; simp
  have hb1 : Below w.heap.size w W1 := by rw [← hW1]; exact ((Below.refl _ w).alloc (Nat.le_refl _) _).alloc (by simp) _
  have p0 : W1.heap[w.heap.size]? = some (.cells #[.int .i64 x, .int .i64 y] 28 (0, 0)) := by
    rw [← hW1, Below.heap_alloc _ _ _ (by simp)]; exact heap_alloc_new w _
  have p1 : W1.heap[w.heap.size + 1]? = some (.cells #[.int .i64 0, .int .i64 0] 28 (0, 0)) := by
    rw [← hW1]
    simpa using heap_alloc_new (w.alloc (.cells #[.int .i64 x, .int .i64 y] 28)) (.cells #[.int .i64 0, .int .i64 0] 28)
  have HB := hid hb1
  have HW := hid hW1
  have HP := hid p1
  obtain ⟨g0, g1, f0, f1⟩ := cells2 p0
  obtain ⟨k0, k1, l0, l1⟩ := cells2 p1
  clear hW1 hb1 p0 p1 hz
  go_enter Tryz.func156, Tryz.ntmps156
  go_upto_region 1 with fail
  rw [HW.out]
  clear HW
  go_wp2_with fail
  have hp := put2_same (.int .i64 x) (.int .i64 y) HP.out
  have hb9 := (HB.out.setCell (p := ⟨w.heap.size + 1, 0, none⟩) (by simp) (.int .i64 x)).setCell (p := ⟨w.heap.size + 1, 1, none⟩) (by simp) (.int .i64 y)
  generalize (W1.setCell ⟨w.heap.size + 1, 0, none⟩ (.int .i64 x)).setCell ⟨w.heap.size + 1, 1, none⟩ (.int .i64 y) = W9 at *
  refine bodyPost_ret (results_c1 rfl _ _ _ ⟨w.heap.size + 1, 0, none⟩ _ rfl (load28 W9 (w.heap.size + 1) (.int .i64 x) (.int .i64 y) (by simp [World.cell?, hp]) (by simp [World.cell?, hp]))) rfl ⟨rfl, hb9⟩
end Go.Proofs.YtolnhicngepnnaaGreat
/- fixed.Check, fixed.Left of valid numbers. -/
namespace Go.Proofs.YtolnhicngepnnaaGreat
open Go.RowKit

attribute [local go_sem] assert_nil assert_misfit
set_option maxRecDepth 100000 in
theorem catchI_idle (p q : Addr) (w : World) :
    CallsD Tryz.prog 209 #[.pointer (some p), .pointer (some q)] .returning w fun e u' w' => e = .returned (.tuple #[]) ∧ u' = .returning ∧ Below w.heap.size w w' := by
  refine callsD_of_wpS Tryz.func209 rfl fun c₀ cs hu => ?_
  simp only [Tryz.ntmps209, List.size_toArray, List.length_cons, List.length_nil, Nat.reduceAdd, Nat.reduceSub, Array.replicate_succ, Array.replicate_zero, List.push_toArray, List.append_toArray, List.nil_append, List.cons_append]
  apply wpS_seq
  apply wpS_region
  simp [wpOpsS, go_sem, recoverD, hu, Exit.thenS]
  refine wpS_of_wp ?_
  go_wp2_with fail
  refine ⟨rfl, .returning, by cases c₀; simp_all, .tuple #[], results_none rfl _ _ _, rfl, rfl, (Below.refl _ _).alloc (Nat.le_refl _) _⟩
set_option maxRecDepth 100000 in
theorem triedI_ok (g : FuncId) (lb : Array Value) (v : Int) (w : World) (hcf : ∀ args w, (callFunc g args).run Tryz.prog w = .ok (.enter g args) w)
    (h : ∀ W, Below w.heap.size w W → Calls Tryz.prog g lb W fun e W' => e = .returned (.int .i64 v) ∧ Below W.heap.size W W') :
    Calls Tryz.prog 201 #[.func (.func g) #[] lb] w fun e w' => e = .returned (.tuple #[.int .i64 v, .int .i64 0]) ∧ Below w.heap.size w w' := by
  have hmf : ∀ (fn : Fn) (first cap : Array Value) (w : World), (Instr.makeFunc fn first cap).run Tryz.prog w = .ok (.func fn first cap) w := fun _ _ _ _ => rfl
  have H := hid h
  go_enter_defers Tryz.func201, Tryz.ntmps201
  go_wp2_with fail
  obtain ⟨W2, hW2⟩ : ∃ W2, (w.alloc (.cells #[.int .i64 0] 3)).alloc (.cells #[.int .i64 0] 33) = W2 := ⟨_, rfl⟩
  have hz2 : W2.heap.size = w.heap.size + 2 := by rw [← hW2]; simp
  have p2 : W2.heap[w.heap.size]? = some (.cells #[.int .i64 0] 3 (0, 0)) := by
    rw [← hW2, Below.heap_alloc _ _ _ (by simp)]; exact heap_alloc_new w _
  have q2 : W2.heap[w.heap.size + 1]? = some (.cells #[.int .i64 0] 33 (0, 0)) := by
    rw [← hW2]
    have := heap_alloc_new (w.alloc (.cells #[.int .i64 0] 3)) (.cells #[.int .i64 0] 33)
    simpa using this
  have hb2 : Below w.heap.size w W2 := by
    rw [← hW2]; exact ((Below.refl _ w).alloc (Nat.le_refl _) _).alloc (by simp) _
  rw [hW2]
  refine (H.out W2 hb2).mono ?_
  rintro e W3 ⟨rfl, hb3⟩
  have hz3 := hb3.size
  have p3 := (hb3.block w.heap.size (by omega)).trans p2
  have q3 := (hb3.block (w.heap.size + 1) (by omega)).trans q2
  have cp : W3.cell? ⟨w.heap.size, 0, none⟩ = some (.int .i64 0) := by simp [World.cell?, p3]
  have cq : W3.cell? ⟨w.heap.size + 1, 0, none⟩ = some (.int .i64 0) := by simp [World.cell?, q3]
  have fp : W3.frozen? ⟨w.heap.size, 0, none⟩ = false := by simp [World.frozen?, p3]
  have fq : W3.frozen? ⟨w.heap.size + 1, 0, none⟩ = false := by simp [World.frozen?, q3]
  have HB3 := hid (hb2.trans (hb3.mono (by omega)))
  clear hW2 H h p2 q2 hb2 hb3 p3 q3
  go_wp2_with fail
  refine leaves_cons (f := 209) (args := #[.pointer (some ⟨w.heap.size, 0, none⟩), .pointer (some ⟨w.heap.size + 1, 0, none⟩)]) (by simp) (by simp [go_sem]) ?_
  have h4 := two_set1 W3 w.heap.size (w.heap.size + 1) _ _ (.int .i64 v) (.int .i64 0) cp cq (by omega)
  have hb4 : Below w.heap.size w ((W3.setCell ⟨w.heap.size, 0, none⟩ (.int .i64 v)).setCell ⟨w.heap.size + 1, 0, none⟩ (.int .i64 0)) := (HB3.out.setCell (Nat.le_refl _) _).setCell (by simp) _
  refine (catchI_idle ⟨w.heap.size, 0, none⟩ ⟨w.heap.size + 1, 0, none⟩ _).mono ?_
  rintro e u' w'' ⟨rfl, rfl, h5⟩
  have c1 := bcs h5 h4.1
  have c2 := bcs h5 h4.2
  have hb5 := hb4.trans (h5.mono hb4.size)
  refine ⟨.tuple #[.int .i64 v, .int .i64 0], ?_, rfl, hb5⟩
  simp [results, Tryz.results201, go_sem, c1, c2]
set_option maxRecDepth 100000 in
theorem check202_ok (a : Int) (ha : okF a = true) (p : Nat) (w : World) (c0 : w.cell? ⟨p, 0, none⟩ = some (.int .i64 a)) :
    Calls Tryz.prog 202 #[.pointer (some ⟨p, 0, none⟩)] w fun e w' => e = .returned (.int .i64 0) ∧ Below w.heap.size w w' := by
  have HR := hid (fun W v hs => right_any v [a] W hs)
  have HRA := hid (show [a].all okF = true by simp [ha])
  have HSL := hid (new_SlI w [a] #[.int .i64 a] 22 rfl (by simp))
  have HBA := hid ((Below.refl w.heap.size w).alloc (Nat.le_refl _) (.cells #[.int .i64 a] 22))
  clear ha
  go_enter Tryz.func202, Tryz.ntmps202
  go_wp2_with fail
  refine (HR.out _ _ HSL.out).mono ?_
  rintro e W1 ⟨he, hb1⟩
  rw [HRA.out] at he
  obtain rfl : e = .returned (.tuple #[]) := he
  have HB2 := hid (btrans HBA.out (by simp) hb1)
  clear hb1 c0
  go_wp2_with fail
  go_ret
  exact ⟨rfl, HB2.out⟩
set_option maxRecDepth 100000 in
theorem check184_ok (a : Int) (ha : okF a = true) (w : World) : Calls Tryz.prog 184 #[.int .i64 a] w fun e w' => e = .returned (.int .i64 0) ∧ Below w.heap.size w w' := by
  have HT := hid (triedI_ok 202 #[.pointer (some ⟨w.heap.size, 0, none⟩)] 0 (w.alloc (.cells #[.int .i64 a] 22)) (enters_of Tryz.func202 (by kernel_rfl) rfl) (fun W h => check202_ok a ha _ W (bcs h (cell_new' _ _ _ 0 _ rfl))))
  have HB := hid ((Below.refl w.heap.size w).alloc (Nat.le_refl _) (.cells #[.int .i64 a] 22))
  have hm := run_makeFunc
  clear ha
  go_enter Tryz.func184, Tryz.ntmps184
  go_wp2_with fail
  refine HT.out.mono ?_
  rintro e w1 ⟨rfl, hb⟩
  have HB1 := hid (btrans HB.out (by simp) hb)
  clear hb
  go_wp2_with fail
  go_ret
  exact ⟨rfl, HB1.out⟩
set_option maxRecDepth 100000 in
set_option maxHeartbeats 1000000 in
theorem left157_ok (x y : Int) (hx : okF x = true) (hy : okF y = true) (w : World) : Calls Tryz.prog 157 #[.agg #[.int .i64 x, .int .i64 y]] w fun e w' => e = .returned (.agg #[.int .i64 (-y), .int .i64 x]) ∧ Below w.heap.size w w' := by
  have HX := hid (fun W => check184_ok x hx W)
  have HY := hid (fun W => check184_ok y hy W)
  have hy2 : -70368744177664 ≤ y ∧ y ≤ 70368744177664 := by simpa [okF] using hy
  have hw : IntKind.i64.wrap (-y) = -y := by rw [IntKind.wrap_i64]; omega
  obtain ⟨W1, hW1⟩ : ∃ W1, (w.alloc (.cells #[.int .i64 x, .int .i64 y] 28)).alloc (.cells #[.int .i64 0, .int .i64 0] 28) = W1 := ⟨_, rfl⟩
  have hz : W1.heap.size = w.heap.size + 2 := by rw [← hW1]; simp
  have hb1 : Below w.heap.size w W1 := by rw [← hW1]; exact ((Below.refl _ w).alloc (Nat.le_refl _) _).alloc (by simp) _
  have p0 : W1.heap[w.heap.size]? = some (.cells #[.int .i64 x, .int .i64 y] 28 (0, 0)) := by
    rw [← hW1, Below.heap_alloc _ _ _ (by simp)]; exact heap_alloc_new w _
  have p1 : W1.heap[w.heap.size + 1]? = some (.cells #[.int .i64 0, .int .i64 0] 28 (0, 0)) := by
    rw [← hW1]
    simpa using heap_alloc_new (w.alloc (.cells #[.int .i64 x, .int .i64 y] 28)) (.cells #[.int .i64 0, .int .i64 0] 28)
  have HQ := hid (show ∀ W, Below W1.heap.size W1 W → W.heap[w.heap.size]? = some (.cells #[.int .i64 x, .int .i64 y] 28 (0, 0)) ∧ W.heap[w.heap.size + 1]? = some (.cells #[.int .i64 0, .int .i64 0] 28 (0, 0)) from fun W h => ⟨(h.block _ (by omega)).trans p0, (h.block _ (by omega)).trans p1⟩)
  have HB := hid hb1
  have HW := hid hW1
  have HZ := hid hz
  clear hW1 hb1 p0 p1 hz hx hy hy2
  go_enter Tryz.func157, Tryz.ntmps157
  go_upto_region 1 with fail
  rw [HW.out]
  clear HW
  obtain ⟨c0, c1, -, -⟩ := cells2 (HQ.out _ (Below.refl _ _)).1
  go_wp2_with fail
  refine (HX.out _).mono ?_
  rintro e w2 ⟨rfl, hb2⟩
  have HX2 := hid hb2
  clear hb2 c0 c1
  obtain ⟨c0, c1, -, -⟩ := cells2 (HQ.out _ HX2.out).1
  go_wp2_with fail
  refine (HY.out _).mono ?_
  rintro e w3 ⟨rfl, hb3⟩
  have HX3 := hid (HX2.out.trans (hb3.mono HX2.out.size))
  clear hb3 c0 c1 HX2
  obtain ⟨c0, c1, -, -⟩ := cells2 (HQ.out _ HX3.out).1
  obtain ⟨k0, k1, l0, l1⟩ := cells2 (HQ.out _ HX3.out).2
  have HB3 := hid (btrans HB.out (by have := HZ.out; omega) HX3.out)
  have HP := hid (HQ.out _ HX3.out).2
  go_wp2_with fail
  have hp := put2_same (.int .i64 (-y)) (.int .i64 x) HP.out
  have hb9 := (HB3.out.setCell (p := ⟨w.heap.size + 1, 0, none⟩) (by simp) (.int .i64 (-y))).setCell (p := ⟨w.heap.size + 1, 1, none⟩) (by simp) (.int .i64 x)
  generalize (w3.setCell ⟨w.heap.size + 1, 0, none⟩ (.int .i64 (-y))).setCell ⟨w.heap.size + 1, 1, none⟩ (.int .i64 x) = W9 at *
  refine bodyPost_ret (results_c1 rfl _ _ _ ⟨w.heap.size + 1, 0, none⟩ _ rfl (load28 W9 (w.heap.size + 1) (.int .i64 (-y)) (.int .i64 x) (by simp [World.cell?, hp]) (by simp [World.cell?, hp]))) rfl ⟨rfl, hb9⟩
end Go.Proofs.YtolnhicngepnnaaGreat
