/- fixed.Times, cut towards 0. -/
import Derived.Test.YtolnhicngepnnaaGreatW6
import Derived.Test.YtolnhicngepnnaaGreatTA
import Derived.Laws.EntriesVeiled
namespace Go.Proofs.YtolnhicngepnnaaGreat
open Go.RowKit

attribute [local go_sem] assert_nil assert_misfit
set_option maxRecDepth 100000 in
theorem catchR_idle (p q : Addr) (w : World) :
    CallsD Tryz.prog 199 #[.pointer (some p), .pointer (some q)] .returning w fun e u' w' => e = .returned (.tuple #[]) ∧ u' = .returning ∧ Below w.heap.size w w' := by
  refine callsD_of_wpS Tryz.func199 rfl fun c₀ cs hu => ?_
  simp only [Tryz.ntmps199, List.size_toArray, List.length_cons, List.length_nil, Nat.reduceAdd, Nat.reduceSub, Array.replicate_succ, Array.replicate_zero, List.push_toArray, List.append_toArray, List.nil_append, List.cons_append]
  apply wpS_seq
  apply wpS_region
  simp [wpOpsS, go_sem, recoverD, hu, Exit.thenS]
  refine wpS_of_wp ?_
  go_wp2_with fail
  refine ⟨rfl, .returning, by cases c₀; simp_all, .tuple #[], results_none rfl _ _ _, rfl, rfl, (Below.refl _ _).alloc (Nat.le_refl _) _⟩
theorem two_set1 (w : World) (p q : Nat) (x y u v : Value) (hp : w.cell? ⟨p, 0, none⟩ = some x) (hq : w.cell? ⟨q, 0, none⟩ = some y) (hpq : p ≠ q) :
    ((w.setCell ⟨p, 0, none⟩ u).setCell ⟨q, 0, none⟩ v).cell? ⟨p, 0, none⟩ = some u ∧ ((w.setCell ⟨p, 0, none⟩ u).setCell ⟨q, 0, none⟩ v).cell? ⟨q, 0, none⟩ = some v := two_set0 w p q x y u v hp hq hpq
set_option maxRecDepth 100000 in
theorem triedR_ok (g : FuncId) (lb : Array Value) (f : FuncId) (w : World) (hcf : ∀ args w, (callFunc g args).run Tryz.prog w = .ok (.enter g args) w)
    (h : ∀ W, Below w.heap.size w W → Calls Tryz.prog g lb W fun e W' => e = .returned (.func (.func f) #[] #[]) ∧ Below W.heap.size W W') :
    Calls Tryz.prog 175 #[.func (.func g) #[] lb] w fun e w' => e = .returned (.tuple #[.func (.func f) #[] #[], .int .i64 0]) ∧ Below w.heap.size w w' := by
  have hmf : ∀ (fn : Fn) (first cap : Array Value) (w : World), (Instr.makeFunc fn first cap).run Tryz.prog w = .ok (.func fn first cap) w := fun _ _ _ _ => rfl
  have H := hid h
  go_enter_defers Tryz.func175, Tryz.ntmps175
  go_wp2_with fail
  obtain ⟨W2, hW2⟩ : ∃ W2, (w.alloc (.cells #[.nilFunc] 138)).alloc (.cells #[.int .i64 0] 33) = W2 := ⟨_, rfl⟩
  have hz2 : W2.heap.size = w.heap.size + 2 := by rw [← hW2]; simp
  have p2 : W2.heap[w.heap.size]? = some (.cells #[.nilFunc] 138 (0, 0)) := by
    rw [← hW2, Below.heap_alloc _ _ _ (by simp)]; exact heap_alloc_new w _
  have q2 : W2.heap[w.heap.size + 1]? = some (.cells #[.int .i64 0] 33 (0, 0)) := by
    rw [← hW2]
    have := heap_alloc_new (w.alloc (.cells #[.nilFunc] 138)) (.cells #[.int .i64 0] 33)
    simpa using this
  have hb2 : Below w.heap.size w W2 := by
    rw [← hW2]; exact ((Below.refl _ w).alloc (Nat.le_refl _) _).alloc (by simp) _
  rw [hW2]
  refine (H.out W2 hb2).mono ?_
  rintro e W3 ⟨rfl, hb3⟩
  have hz3 := hb3.size
  have p3 := (hb3.block w.heap.size (by omega)).trans p2
  have q3 := (hb3.block (w.heap.size + 1) (by omega)).trans q2
  have cp : W3.cell? ⟨w.heap.size, 0, none⟩ = some .nilFunc := by simp [World.cell?, p3]
  have cq : W3.cell? ⟨w.heap.size + 1, 0, none⟩ = some (.int .i64 0) := by simp [World.cell?, q3]
  have fp : W3.frozen? ⟨w.heap.size, 0, none⟩ = false := by simp [World.frozen?, p3]
  have fq : W3.frozen? ⟨w.heap.size + 1, 0, none⟩ = false := by simp [World.frozen?, q3]
  have HB3 := hid (hb2.trans (hb3.mono (by omega)))
  clear hW2 H h p2 q2 hb2 hb3 p3 q3
  go_wp2_with fail
  refine leaves_cons (f := 199) (args := #[.pointer (some ⟨w.heap.size, 0, none⟩), .pointer (some ⟨w.heap.size + 1, 0, none⟩)]) (by simp) (by simp [go_sem]) ?_
  have h4 := two_set1 W3 w.heap.size (w.heap.size + 1) _ _ (.func (.func f) #[] #[]) (.int .i64 0) cp cq (by omega)
  have hb4 : Below w.heap.size w ((W3.setCell ⟨w.heap.size, 0, none⟩ (.func (.func f) #[] #[])).setCell ⟨w.heap.size + 1, 0, none⟩ (.int .i64 0)) := (HB3.out.setCell (Nat.le_refl _) _).setCell (by simp) _
  refine (catchR_idle ⟨w.heap.size, 0, none⟩ ⟨w.heap.size + 1, 0, none⟩ _).mono ?_
  rintro e u' w'' ⟨rfl, rfl, h5⟩
  have c1 := bcs h5 h4.1
  have c2 := bcs h5 h4.2
  have hb5 := hb4.trans (h5.mono hb4.size)
  refine ⟨.tuple #[.func (.func f) #[] #[], .int .i64 0], ?_, rfl, hb5⟩
  simp [results, Tryz.results175, go_sem, c1, c2]
set_option maxRecDepth 100000 in
theorem times176_any (ax ay b how : Int) (f : FuncId) (hf : wayF how = some f) (hx : okF ax = true) (hy : okF ay = true) (hb : okF b = true) (pa pb ph : Nat) (w : World)
    (c0 : w.cell? ⟨pa, 0, none⟩ = some (.int .i64 ax)) (c1 : w.cell? ⟨pa, 1, none⟩ = some (.int .i64 ay)) (c2 : w.cell? ⟨pb, 0, none⟩ = some (.int .i64 b)) (c3 : w.cell? ⟨ph, 0, none⟩ = some (.int .i64 how)) :
    Calls Tryz.prog 176 #[.pointer (some ⟨pa, 0, none⟩), .pointer (some ⟨pb, 0, none⟩), .pointer (some ⟨ph, 0, none⟩)] w fun e w' => e = .returned (.func (.func f) #[] #[]) ∧ Below w.heap.size w w' := by
  have HWY := hid (fun W => ways_any how W)
  rw [hf] at HWY
  have HR := hid (fun W v hs => right_any v [ax, ay, b] W hs)
  have HRA := hid (show [ax, ay, b].all okF = true by simp [hx, hy, hb])
  have HSL := hid (new_SlI w [ax, ay, b] #[.int .i64 ax, .int .i64 ay, .int .i64 b] 22 rfl (by simp))
  have HC3 := hid c3
  have HBA := hid ((Below.refl w.heap.size w).alloc (Nat.le_refl _) (.cells #[.int .i64 ax, .int .i64 ay, .int .i64 b] 22))
  clear hx hy hb hf
  go_enter Tryz.func176, Tryz.ntmps176
  go_wp2_with fail
  refine (HR.out _ _ HSL.out).mono ?_
  rintro e W1 ⟨he, hb1⟩
  rw [HRA.out] at he
  obtain rfl : e = .returned (.tuple #[]) := he
  have hb2 := btrans HBA.out (by simp) hb1
  clear hb1 c0 c1 c2 c3
  have c3 := bcs hb2 HC3.out
  have HB2 := hid hb2
  clear hb2
  go_wp2_with fail
  refine (HWY.out _).mono ?_
  rintro e w2 ⟨rfl, rfl⟩
  go_wp2_with fail
  go_ret
  exact ⟨rfl, HB2.out⟩
set_option maxRecDepth 100000 in
theorem times177_any (f : FuncId) (hf : isWay f) (x b : Int) (hx : okF x = true) (hb : okF b = true) (hp : x.natAbs * b.natAbs < 18446744073709551616) (y : Value) (pb pf : Nat) (w : World)
    (c0 : w.cell? ⟨pb, 0, none⟩ = some (.int .i64 b)) (c1 : w.cell? ⟨pf, 0, none⟩ = some (.func (.func f) #[] #[])) :
    Calls Tryz.prog 177 #[.int .i64 x, y, .pointer (some ⟨pb, 0, none⟩), .pointer (some ⟨pf, 0, none⟩)] w fun e w' => EndsX (mulX f x b) e ∧ Below w.heap.size w w' := by
  have HM := hid (fun W => mul52_any f hf x b hx hb hp W)
  generalize mulX f x b = r at *
  clear hx hb hp hf
  go_enter Tryz.func177, Tryz.ntmps177
  go_wp2_with fail
  refine (HM.out _).mono ?_
  rintro e w1 ⟨he, hb1⟩
  have HB := hid hb1
  clear hb1
  cases r with
  | ok v =>
    obtain rfl := he
    go_wp2_with fail
    go_ret
    exact ⟨rfl, HB.out⟩
  | error c =>
    obtain rfl := he
    exact ⟨rfl, rfl, HB.out⟩
end Go.Proofs.YtolnhicngepnnaaGreat
