/- fixed.tried: the deferred closure that recovers, and the call. -/
import Derived.Test.YtolnhicngepnnaaGreatPA
import Derived.Tactics
import Derived.Tactics2
import Derived.Defers
import Derived.Recover
import Derived.Laws.Pointers
namespace Go.Proofs.YtolnhicngepnnaaGreat
open Go.RowKit

/-- The panic of a misfit. -/
abbrev misfit (c : Int) : List PanicEntry := [{ v := .iface 187 (.agg #[.int .i64 c]), recovered := false }]
theorem assert_nil (w : World) : (Instr.typeAssert .nilIface 20 187 true).run Tryz.prog w = .ok (.tuple #[.agg #[.int .i64 0], .bool false]) w := by kernel_rfl
theorem assert_misfit (c : Int) (w : World) : (Instr.typeAssert (.iface 187 (.agg #[.int .i64 c])) 20 187 true).run Tryz.prog w = .ok (.tuple #[.agg #[.int .i64 c], .bool true]) w := by kernel_rfl
attribute [local go_sem] assert_nil assert_misfit
set_option maxRecDepth 100000 in
/-- The closure where nothing panics. -/
theorem catch_idle (p q : Addr) (w : World) :
    CallsD Tryz.prog 92 #[.pointer (some p), .pointer (some q)] .returning w fun e u' w' => e = .returned (.tuple #[]) ∧ u' = .returning ∧ Below w.heap.size w w' := by
  refine callsD_of_wpS Tryz.func92 rfl fun c₀ cs hu => ?_
  simp only [Tryz.ntmps92, List.size_toArray, List.length_cons, List.length_nil, Nat.reduceAdd, Nat.reduceSub, Array.replicate_succ, Array.replicate_zero, List.push_toArray, List.append_toArray, List.nil_append, List.cons_append]
  apply wpS_seq
  apply wpS_region
  simp [wpOpsS, go_sem, recoverD, hu, Exit.thenS]
  refine wpS_of_wp ?_
  go_wp2_with fail
  refine ⟨rfl, .returning, by cases c₀; simp_all, .tuple #[], results_none rfl _ _ _, rfl, rfl, (Below.refl _ _).alloc (Nat.le_refl _) _⟩
theorem two_set0 (w : World) (p q : Nat) (x y u v : Value) (hp : w.cell? ⟨p, 0, none⟩ = some x) (hq : w.cell? ⟨q, 0, none⟩ = some y) (hpq : p ≠ q) :
    ((w.setCell ⟨p, 0, none⟩ u).setCell ⟨q, 0, none⟩ v).cell? ⟨p, 0, none⟩ = some u ∧ ((w.setCell ⟨p, 0, none⟩ u).setCell ⟨q, 0, none⟩ v).cell? ⟨q, 0, none⟩ = some v := by
  constructor
  · rw [World.cell?_of_block (a := ⟨p, 0, none⟩) (heap_setCell_other (w.setCell ⟨p, 0, none⟩ u) ⟨q, 0, none⟩ p v hpq)]
    exact World.cell?_setCell_same _ _ _ hp
  · exact World.cell?_setCell_same _ _ _ ((World.cell?_of_block (a := ⟨q, 0, none⟩) (heap_setCell_other w ⟨p, 0, none⟩ q u (fun e => hpq e.symm))).trans hq)
theorem two_set (w : World) (p q : Nat) (x y u v : Value) (o : Obj) (hp : w.cell? ⟨p, 0, none⟩ = some x) (hq : w.cell? ⟨q, 0, none⟩ = some y) (hpq : p ≠ q) :
    (((w.setCell ⟨p, 0, none⟩ u).setCell ⟨q, 0, none⟩ v).alloc o).cell? ⟨p, 0, none⟩ = some u ∧ (((w.setCell ⟨p, 0, none⟩ u).setCell ⟨q, 0, none⟩ v).alloc o).cell? ⟨q, 0, none⟩ = some v := by
  have hpl := World.block_lt_of_cell? w ⟨p, 0, none⟩ hp
  have hql := World.block_lt_of_cell? w ⟨q, 0, none⟩ hq
  simp only at hpl hql
  constructor
  · rw [World.cell?_of_block (a := ⟨p, 0, none⟩) (Below.heap_alloc _ o p (by simp; omega)), World.cell?_of_block (a := ⟨p, 0, none⟩) (heap_setCell_other (w.setCell ⟨p, 0, none⟩ u) ⟨q, 0, none⟩ p v hpq)]
    exact World.cell?_setCell_same _ _ _ hp
  · rw [World.cell?_of_block (a := ⟨q, 0, none⟩) (Below.heap_alloc _ o q (by simp; omega))]
    exact World.cell?_setCell_same _ _ _ ((World.cell?_of_block (a := ⟨q, 0, none⟩) (heap_setCell_other w ⟨p, 0, none⟩ q u (fun e => hpq e.symm))).trans hq)
set_option maxRecDepth 100000 in
/-- The closure where a misfit has been raised. -/
theorem catch_misfit (p q : Nat) (c x y : Int) (w : World) (hp : w.cell? ⟨p, 0, none⟩ = some (.int .i64 x)) (hq : w.cell? ⟨q, 0, none⟩ = some (.int .i64 y)) (fp : w.frozen? ⟨p, 0, none⟩ = false) (fq : w.frozen? ⟨q, 0, none⟩ = false) (hpq : p ≠ q) :
    CallsD Tryz.prog 92 #[.pointer (some ⟨p, 0, none⟩), .pointer (some ⟨q, 0, none⟩)] (.panicking (misfit c)) w fun e u' w' => e = .returned (.tuple #[]) ∧ u' = .panicking [{ v := .iface 187 (.agg #[.int .i64 c]), recovered := true }] ∧
      w'.cell? ⟨p, 0, none⟩ = some (.int .i64 0) ∧ w'.cell? ⟨q, 0, none⟩ = some (.int .i64 c) ∧ ∀ B, B ≤ p → B ≤ q → Below B w w' := by
  refine callsD_of_wpS Tryz.func92 rfl fun c₀ cs hu => ?_
  simp only [Tryz.ntmps92, List.size_toArray, List.length_cons, List.length_nil, Nat.reduceAdd, Nat.reduceSub, Array.replicate_succ, Array.replicate_zero, List.push_toArray, List.append_toArray, List.nil_append, List.cons_append]
  apply wpS_seq
  apply wpS_region
  simp [wpOpsS, go_sem, recoverD, hu, Exit.thenS, misfit]
  refine wpS_of_wp ?_
  have hpl := World.block_lt_of_cell? w ⟨p, 0, none⟩ hp
  have hql := World.block_lt_of_cell? w ⟨q, 0, none⟩ hq
  simp only at hpl hql
  have hpn : p ≠ w.heap.size := by omega
  have hqn : q ≠ w.heap.size := by omega
  have hnp : w.heap.size ≠ p := by omega
  have hnq : w.heap.size ≠ q := by omega
  have hqp : q ≠ p := fun e => hpq e.symm
  go_upto_region 4 with fail
  go_region
  all_goals
    go_wp2_with fail
    refine ⟨rfl, _, rfl, .tuple #[], results_none rfl _ _ _, rfl, rfl, ?_, ?_, fun B h1 h2 => ?_⟩
    · exact (two_set w p q _ _ _ _ _ hp hq hpq).1
    · exact (two_set w p q _ _ _ _ _ hp hq hpq).2
    · repeat' (first | exact Below.refl _ _ | apply Below.drew | (refine Below.alloc ?_ (by simp; omega) _) | (refine Below.setCell ?_ (by assumption) _))
/-- How something tried ends. -/
def EndsX (r : Except Int Int) (e : Ending) : Prop := match r with | .ok v => e = .returned (.int .i64 v) | .error c => e = .panicked (misfit c)
def valX (r : Except Int Int) : Int := match r with | .ok v => v | .error _ => 0
def errX (r : Except Int Int) : Int := match r with | .ok _ => 0 | .error c => c
set_option maxRecDepth 100000 in
theorem tried_any (g : FuncId) (lb : Array Value) (r : Except Int Int) (w : World) (hcf : ∀ args w, (callFunc g args).run Tryz.prog w = .ok (.enter g args) w)
    (h : ∀ W, Below w.heap.size w W → Calls Tryz.prog g lb W fun e W' => EndsX r e ∧ Below W.heap.size W W') :
    Calls Tryz.prog 50 #[.func (.func g) #[] lb] w fun e w' => e = .returned (.tuple #[.int .i64 (valX r), .int .i64 (errX r)]) ∧ Below w.heap.size w w' := by
  have hmf : ∀ (fn : Fn) (first cap : Array Value) (w : World), (Instr.makeFunc fn first cap).run Tryz.prog w = .ok (.func fn first cap) w := fun _ _ _ _ => rfl
  have H := hid h
  go_enter_defers Tryz.func50, Tryz.ntmps50
  go_wp2_with fail
  obtain ⟨W2, hW2⟩ : ∃ W2, (w.alloc (.cells #[.int .i64 0] 22)).alloc (.cells #[.int .i64 0] 33) = W2 := ⟨_, rfl⟩
  have hz2 : W2.heap.size = w.heap.size + 2 := by rw [← hW2]; simp
  have p2 : W2.heap[w.heap.size]? = some (.cells #[.int .i64 0] 22 (0, 0)) := by
    rw [← hW2, Below.heap_alloc _ _ _ (by simp)]; exact heap_alloc_new w _
  have q2 : W2.heap[w.heap.size + 1]? = some (.cells #[.int .i64 0] 33 (0, 0)) := by
    rw [← hW2]
    have := heap_alloc_new (w.alloc (.cells #[.int .i64 0] 22)) (.cells #[.int .i64 0] 33)
    simpa using this
  have hb2 : Below w.heap.size w W2 := by
    rw [← hW2]; exact ((Below.refl _ w).alloc (Nat.le_refl _) _).alloc (by simp) _
  rw [hW2]
  refine (H.out W2 hb2).mono ?_
  rintro e W3 ⟨he, hb3⟩
  have hz3 := hb3.size
  have p3 := (hb3.block w.heap.size (by omega)).trans p2
  have q3 := (hb3.block (w.heap.size + 1) (by omega)).trans q2
  have cp : W3.cell? ⟨w.heap.size, 0, none⟩ = some (.int .i64 0) := by simp [World.cell?, p3]
  have cq : W3.cell? ⟨w.heap.size + 1, 0, none⟩ = some (.int .i64 0) := by simp [World.cell?, q3]
  have fp : W3.frozen? ⟨w.heap.size, 0, none⟩ = false := by simp [World.frozen?, p3]
  have fq : W3.frozen? ⟨w.heap.size + 1, 0, none⟩ = false := by simp [World.frozen?, q3]
  have HB3 := hid (hb2.trans (hb3.mono (by omega)))
  have PP := hid (And.intro p3 q3)
  clear hW2 H h p2 q2 hb2 hb3 p3 q3
  cases r with
  | ok v =>
    obtain rfl := he
    go_wp2_with fail
    refine leaves_cons (f := 92) (args := #[.pointer (some ⟨w.heap.size, 0, none⟩), .pointer (some ⟨w.heap.size + 1, 0, none⟩)]) (by simp) (by simp [go_sem]) ?_
    have h4 := two_set0 W3 w.heap.size (w.heap.size + 1) _ _ (.int .i64 v) (.int .i64 0) cp cq (by omega)
    have hb4 : Below w.heap.size w ((W3.setCell ⟨w.heap.size, 0, none⟩ (.int .i64 v)).setCell ⟨w.heap.size + 1, 0, none⟩ (.int .i64 0)) := (HB3.out.setCell (Nat.le_refl _) _).setCell (by simp) _
    refine (catch_idle ⟨w.heap.size, 0, none⟩ ⟨w.heap.size + 1, 0, none⟩ _).mono ?_
    rintro e u' w'' ⟨rfl, rfl, h5⟩
    have c1 := bcs h5 h4.1
    have c2 := bcs h5 h4.2
    have hb5 := hb4.trans (h5.mono hb4.size)
    refine ⟨.tuple #[.int .i64 v, .int .i64 0], ?_, rfl, hb5⟩
    simp [results, Tryz.results50, go_sem, c1, c2]
  | error c =>
    obtain rfl := he
    refine leaves_cons (f := 92) (args := #[.pointer (some ⟨w.heap.size, 0, none⟩), .pointer (some ⟨w.heap.size + 1, 0, none⟩)]) (by simp) (by simp [go_sem]) ?_
    refine (catch_misfit w.heap.size (w.heap.size + 1) c 0 0 W3 cp cq fp fq (by omega)).mono ?_
    rintro e u' w'' ⟨rfl, rfl, h1, h2, h3⟩
    refine ⟨.tuple #[.int .i64 0, .int .i64 c], ?_, rfl, HB3.out.trans (h3 _ (Nat.le_refl _) (by omega))⟩
    simp [results, Tryz.results50, go_sem, h1, h2]
end Go.Proofs.YtolnhicngepnnaaGreat
