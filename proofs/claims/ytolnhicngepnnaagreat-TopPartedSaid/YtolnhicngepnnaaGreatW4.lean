/- fixed.tried at places. -/
import Derived.Test.YtolnhicngepnnaaGreatW3
import Derived.Defers
import Derived.Recover
namespace Go.Proofs.YtolnhicngepnnaaGreat
open Go.RowKit

attribute [local go_sem] assert_nil assert_misfit
set_option maxRecDepth 100000 in
theorem catchS_idle (p q : Addr) (w : World) :
    CallsD Tryz.prog 196 #[.pointer (some p), .pointer (some q)] .returning w fun e u' w' => e = .returned (.tuple #[]) ∧ u' = .returning ∧ Below w.heap.size w w' := by
  refine callsD_of_wpS Tryz.func196 rfl fun c₀ cs hu => ?_
  simp only [Tryz.ntmps196, List.size_toArray, List.length_cons, List.length_nil, Nat.reduceAdd, Nat.reduceSub, Array.replicate_succ, Array.replicate_zero, List.push_toArray, List.append_toArray, List.nil_append, List.cons_append]
  apply wpS_seq
  apply wpS_region
  simp [wpOpsS, go_sem, recoverD, hu, Exit.thenS]
  refine wpS_of_wp ?_
  go_wp2_with fail
  refine ⟨rfl, .returning, by cases c₀; simp_all, .tuple #[], results_none rfl _ _ _, rfl, rfl, (Below.refl _ _).alloc (Nat.le_refl _) _⟩
/-- Three cells of two blocks set. -/
theorem set21 {w : World} {p q : Nat} {x y z : Value} (u v t : Value) (hp : w.heap[p]? = some (.cells #[x, y] 28 (0, 0))) (hq : w.heap[q]? = some (.cells #[z] 33 (0, 0))) (hpq : p ≠ q) :
    (((w.setCell ⟨p, 0, none⟩ u).setCell ⟨p, 1, none⟩ v).setCell ⟨q, 0, none⟩ t).heap[p]? = some (.cells #[u, v] 28 (0, 0)) ∧ (((w.setCell ⟨p, 0, none⟩ u).setCell ⟨p, 1, none⟩ v).setCell ⟨q, 0, none⟩ t).heap[q]? = some (.cells #[t] 33 (0, 0)) := by
  constructor
  · rw [heap_setCell_other _ ⟨q, 0, none⟩ p _ hpq]
    exact put2_same u v hp
  · have h1 : ((w.setCell ⟨p, 0, none⟩ u).setCell ⟨p, 1, none⟩ v).heap[q]? = some (.cells #[z] 33 (0, 0)) := by
      rw [heap_setCell_other _ ⟨p, 1, none⟩ q _ (fun e => hpq e.symm), heap_setCell_other _ ⟨p, 0, none⟩ q _ (fun e => hpq e.symm)]; exact hq
    have h2 := heap_setCell_same _ q 0 _ _ t h1
    rw [h2]; simp
set_option maxRecDepth 100000 in
/-- The closure where a misfit has been raised. -/
theorem catchS_misfit (p q : Nat) (c : Int) (x y z : Value) (w : World) (hp : w.heap[p]? = some (.cells #[x, y] 28 (0, 0))) (hq : w.heap[q]? = some (.cells #[z] 33 (0, 0))) (hpq : p ≠ q) :
    CallsD Tryz.prog 196 #[.pointer (some ⟨p, 0, none⟩), .pointer (some ⟨q, 0, none⟩)] (.panicking (misfit c)) w fun e u' w' => e = .returned (.tuple #[]) ∧ u' = .panicking [{ v := .iface 187 (.agg #[.int .i64 c]), recovered := true }] ∧
      (w'.heap[p]? = some (.cells #[.int .i64 0, .int .i64 0] 28 (0, 0)) ∧ w'.heap[q]? = some (.cells #[.int .i64 c] 33 (0, 0))) ∧ ∀ B, B ≤ p → B ≤ q → Below B w w' := by
  refine callsD_of_wpS Tryz.func196 rfl fun c₀ cs hu => ?_
  simp only [Tryz.ntmps196, List.size_toArray, List.length_cons, List.length_nil, Nat.reduceAdd, Nat.reduceSub, Array.replicate_succ, Array.replicate_zero, List.push_toArray, List.append_toArray, List.nil_append, List.cons_append]
  apply wpS_seq
  apply wpS_region
  simp [wpOpsS, go_sem, recoverD, hu, Exit.thenS, misfit]
  refine wpS_of_wp ?_
  have hpl : p < w.heap.size := (Array.getElem?_eq_some_iff.1 hp).1
  have hql : q < w.heap.size := (Array.getElem?_eq_some_iff.1 hq).1
  obtain ⟨g0, g1, f0, f1⟩ := cells2 hp
  have g2 : w.cell? ⟨q, 0, none⟩ = some z := by simp [World.cell?, hq]
  have f2 : w.frozen? ⟨q, 0, none⟩ = false := by simp [World.frozen?, hq]
  have HPQ := hid (And.intro hp hq)
  have hpn : p ≠ w.heap.size := by omega
  have hqn : q ≠ w.heap.size := by omega
  have hnp : w.heap.size ≠ p := by omega
  have hnq : w.heap.size ≠ q := by omega
  have hpn1 : p ≠ w.heap.size + 1 := by omega
  have hqn1 : q ≠ w.heap.size + 1 := by omega
  have hnp1 : w.heap.size + 1 ≠ p := by omega
  have hnq1 : w.heap.size + 1 ≠ q := by omega
  have hqp : q ≠ p := fun e => hpq e.symm
  clear hp hq
  go_upto_region 4 with fail
  go_region
  all_goals
    go_wp2_with fail
    have h3 := set21 (.int .i64 0) (.int .i64 0) (.int .i64 c) HPQ.out.1 HPQ.out.2 hpq
    have hold : ∀ (U : World) (o1 o2 : Obj) (k : Nat), k < U.heap.size → (((U.alloc o1).alloc o2).drew).heap[k]? = U.heap[k]? := fun U o1 o2 k hk => by
      show ((U.alloc o1).alloc o2).heap[k]? = _
      rw [Below.heap_alloc _ _ _ (by simp; omega), Below.heap_alloc _ _ _ hk]
    refine ⟨rfl, _, rfl, .tuple #[], results_none rfl _ _ _, rfl, rfl, ⟨?_, ?_⟩, fun B h1 h2 => ?_⟩
    · exact (hold _ _ _ p (by simp; exact hpl)).trans h3.1
    · exact (hold _ _ _ q (by simp; exact hql)).trans h3.2
    · repeat' (first | exact Below.refl _ _ | apply Below.drew | (refine Below.alloc ?_ (by simp; omega) _) | (refine Below.setCell ?_ (by assumption) _))
/-- How something tried at places ends. -/
def EndsS (r : Except Int (Int × Int)) (e : Ending) : Prop := match r with | .ok v => e = .returned (.agg #[.int .i64 v.1, .int .i64 v.2]) | .error c => e = .panicked (misfit c)
def valS (r : Except Int (Int × Int)) : Int × Int := match r with | .ok v => v | .error _ => (0, 0)
def errS (r : Except Int (Int × Int)) : Int := match r with | .ok _ => 0 | .error c => c
theorem load28 (w : World) (b : Nat) (x y : Value) (h0 : w.cell? ⟨b, 0, none⟩ = some x) (h1 : w.cell? ⟨b, 1, none⟩ = some y) : (loadVar 28 ⟨b, 0, none⟩).run Tryz.prog w = .ok (.agg #[x, y]) w := by
  simp [go_sem, h0, h1]
set_option maxRecDepth 100000 in
theorem triedS_any (g : FuncId) (lb : Array Value) (r : Except Int (Int × Int)) (w : World) (hcf : ∀ args w, (callFunc g args).run Tryz.prog w = .ok (.enter g args) w)
    (h : ∀ W, Below w.heap.size w W → Calls Tryz.prog g lb W fun e W' => EndsS r e ∧ Below W.heap.size W W') :
    Calls Tryz.prog 169 #[.func (.func g) #[] lb] w fun e w' => e = .returned (.tuple #[.agg #[.int .i64 (valS r).1, .int .i64 (valS r).2], .int .i64 (errS r)]) ∧ Below w.heap.size w w' := by
  have hmf : ∀ (fn : Fn) (first cap : Array Value) (w : World), (Instr.makeFunc fn first cap).run Tryz.prog w = .ok (.func fn first cap) w := fun _ _ _ _ => rfl
  have H := hid h
  go_enter_defers Tryz.func169, Tryz.ntmps169
  go_wp2_with fail
  obtain ⟨W2, hW2⟩ : ∃ W2, (w.alloc (.cells #[.int .i64 0, .int .i64 0] 28)).alloc (.cells #[.int .i64 0] 33) = W2 := ⟨_, rfl⟩
  have hz2 : W2.heap.size = w.heap.size + 2 := by rw [← hW2]; simp
  have p2 : W2.heap[w.heap.size]? = some (.cells #[.int .i64 0, .int .i64 0] 28 (0, 0)) := by
    rw [← hW2, Below.heap_alloc _ _ _ (by simp)]; exact heap_alloc_new w _
  have q2 : W2.heap[w.heap.size + 1]? = some (.cells #[.int .i64 0] 33 (0, 0)) := by
    rw [← hW2]
    have := heap_alloc_new (w.alloc (.cells #[.int .i64 0, .int .i64 0] 28)) (.cells #[.int .i64 0] 33)
    simpa using this
  have hb2 : Below w.heap.size w W2 := by
    rw [← hW2]; exact ((Below.refl _ w).alloc (Nat.le_refl _) _).alloc (by simp) _
  rw [hW2]
  refine (H.out W2 hb2).mono ?_
  rintro e W3 ⟨he, hb3⟩
  have hz3 := hb3.size
  have p3 := (hb3.block w.heap.size (by omega)).trans p2
  have q3 := (hb3.block (w.heap.size + 1) (by omega)).trans q2
  obtain ⟨cp, cp1, fp, fp1⟩ := cells2 p3
  have cq : W3.cell? ⟨w.heap.size + 1, 0, none⟩ = some (.int .i64 0) := by simp [World.cell?, q3]
  have fq : W3.frozen? ⟨w.heap.size + 1, 0, none⟩ = false := by simp [World.frozen?, q3]
  have HB3 := hid (hb2.trans (hb3.mono (by omega)))
  have PP := hid (And.intro p3 q3)
  clear hW2 H h p2 q2 hb2 hb3 p3 q3
  cases r with
  | ok v =>
    obtain ⟨v1, v2⟩ := v
    obtain rfl := he
    dsimp only
    go_wp2_with fail
    refine leaves_cons (f := 196) (args := #[.pointer (some ⟨w.heap.size, 0, none⟩), .pointer (some ⟨w.heap.size + 1, 0, none⟩)]) (by simp) (by simp [go_sem]) ?_
    have h4 := set21 (.int .i64 v1) (.int .i64 v2) (.int .i64 0) PP.out.1 PP.out.2 (by omega)
    have hb4 : Below w.heap.size w (((W3.setCell ⟨w.heap.size, 0, none⟩ (.int .i64 v1)).setCell ⟨w.heap.size, 1, none⟩ (.int .i64 v2)).setCell ⟨w.heap.size + 1, 0, none⟩ (.int .i64 0)) := ((HB3.out.setCell (p := ⟨w.heap.size, 0, none⟩) (Nat.le_refl _) _).setCell (p := ⟨w.heap.size, 1, none⟩) (Nat.le_refl _) _).setCell (p := ⟨w.heap.size + 1, 0, none⟩) (by simp) _
    refine (catchS_idle ⟨w.heap.size, 0, none⟩ ⟨w.heap.size + 1, 0, none⟩ _).mono ?_
    rintro e u' w'' ⟨rfl, rfl, h5⟩
    obtain ⟨k0, k1, -, -⟩ := cells2 h4.1
    have c1 := bcs h5 k0
    have c2 := bcs h5 k1
    have c3 := bcs h5 (show (((W3.setCell ⟨w.heap.size, 0, none⟩ (.int .i64 v1)).setCell ⟨w.heap.size, 1, none⟩ (.int .i64 v2)).setCell ⟨w.heap.size + 1, 0, none⟩ (.int .i64 0)).cell? ⟨w.heap.size + 1, 0, none⟩ = some (.int .i64 0) by simp [World.cell?, h4.2])
    have hb5 := hb4.trans (h5.mono hb4.size)
    refine ⟨.tuple #[.agg #[.int .i64 v1, .int .i64 v2], .int .i64 0], ?_, rfl, hb5⟩
    simp [results, Tryz.results169, go_sem, c1, c2, c3]
  | error c =>
    obtain rfl := he
    refine leaves_cons (f := 196) (args := #[.pointer (some ⟨w.heap.size, 0, none⟩), .pointer (some ⟨w.heap.size + 1, 0, none⟩)]) (by simp) (by simp [go_sem]) ?_
    refine (catchS_misfit w.heap.size (w.heap.size + 1) c _ _ _ W3 PP.out.1 PP.out.2 (by omega)).mono ?_
    rintro e u' w'' ⟨rfl, rfl, ⟨h1, h2⟩, h3⟩
    refine ⟨.tuple #[.agg #[.int .i64 0, .int .i64 0], .int .i64 c], ?_, rfl, HB3.out.trans (h3 _ (Nat.le_refl _) (by omega))⟩
    have k0 : w''.cell? ⟨w.heap.size, 0, none⟩ = some (.int .i64 0) := by simp [World.cell?, h1]
    have k1 : w''.cell? ⟨w.heap.size, 1, none⟩ = some (.int .i64 0) := by simp [World.cell?, h1]
    have k2 : w''.cell? ⟨w.heap.size + 1, 0, none⟩ = some (.int .i64 c) := by simp [World.cell?, h2]
    simp [results, Tryz.results169, go_sem, k0, k1, k2]
end Go.Proofs.YtolnhicngepnnaaGreat
