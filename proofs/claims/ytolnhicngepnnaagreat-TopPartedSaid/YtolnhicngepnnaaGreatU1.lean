/- glide.tried, contact.tried. -/
import Derived.Test.YtolnhicngepnnaaGreatT7
import Derived.Test.YtolnhicngepnnaaGreatRP
namespace Go.Proofs.YtolnhicngepnnaaGreat
open Go.RowKit

/-- What contact's must raises. -/
abbrev cmisfit (c : Int) : List PanicEntry := [{ v := .iface 130 (.agg #[.int .i64 c]), recovered := false }]
theorem assertN_g (w : World) : (Instr.typeAssert .nilIface 20 206 true).run Tryz.prog w = .ok (.tuple #[.agg #[.int .i64 0], .bool false]) w := by kernel_rfl
theorem assertM_g (c : Int) (w : World) : (Instr.typeAssert (.iface 206 (.agg #[.int .i64 c])) 20 206 true).run Tryz.prog w = .ok (.tuple #[.agg #[.int .i64 c], .bool true]) w := by kernel_rfl
attribute [local go_sem] assertN_g assertM_g
set_option maxRecDepth 100000 in
theorem catchI_g (p : Addr) (w : World) :
    CallsD Tryz.prog 110 #[.pointer (some p)] .returning w fun e u' w' => e = .returned (.tuple #[]) ∧ u' = .returning ∧ Below w.heap.size w w' := by
  refine callsD_of_wpS Tryz.func110 rfl fun c₀ cs hu => ?_
  simp only [Tryz.ntmps110, List.size_toArray, List.length_cons, List.length_nil, Nat.reduceAdd, Nat.reduceSub, Array.replicate_succ, Array.replicate_zero, List.push_toArray, List.append_toArray, List.nil_append, List.cons_append]
  apply wpS_seq
  apply wpS_region
  simp [wpOpsS, go_sem, recoverD, hu, Exit.thenS]
  refine wpS_of_wp ?_
  go_wp2_with fail
  refine ⟨rfl, .returning, by cases c₀; simp_all, .tuple #[], results_none rfl _ _ _, rfl, rfl, (Below.refl _ _).alloc (Nat.le_refl _) _⟩
set_option maxRecDepth 100000 in
theorem catchM_g (p : Nat) (c x : Int) (w : World) (hp : w.heap[p]? = some (.cells #[.int .i64 x] 33 (0, 0))) :
    CallsD Tryz.prog 110 #[.pointer (some ⟨p, 0, none⟩)] (.panicking (gmisfit c)) w fun e u' w' => e = .returned (.tuple #[]) ∧ u' = .panicking [{ v := .iface 206 (.agg #[.int .i64 c]), recovered := true }] ∧
      w'.heap[p]? = some (.cells #[.int .i64 c] 33 (0, 0)) ∧ Ch (fun k => k = p) w w' := by
  refine callsD_of_wpS Tryz.func110 rfl fun c₀ cs hu => ?_
  simp only [Tryz.ntmps110, List.size_toArray, List.length_cons, List.length_nil, Nat.reduceAdd, Nat.reduceSub, Array.replicate_succ, Array.replicate_zero, List.push_toArray, List.append_toArray, List.nil_append, List.cons_append]
  apply wpS_seq
  apply wpS_region
  simp [wpOpsS, go_sem, recoverD, hu, Exit.thenS, gmisfit]
  refine wpS_of_wp ?_
  have hpl : p < w.heap.size := (Array.getElem?_eq_some_iff.1 hp).1
  have g0 := cellN (i := 0) (v := .int .i64 x) hp rfl
  have f0 := frozN (i := 0) hp
  have hpn : p ≠ w.heap.size := by omega
  have hnp : w.heap.size ≠ p := by omega
  have HP := hid hp
  clear hp
  go_wp2_with fail
  refine ⟨rfl, _, rfl, .tuple #[], results_none rfl _ _ _, rfl, rfl, ?_, ?_⟩
  · have h1 := heap_setCell_same w p 0 _ _ (.int .i64 c) HP.out
    first
      | (rw [Below.heap_alloc _ _ _ (by simp; omega)]; rw [h1]; simp)
      | (have h2 := heap_setCell_same (w.alloc (.cells #[.int .i64 c] 206)) p 0 _ _ (.int .i64 c) (carryA HP.out _); rw [h2]; simp)
  · refine ⟨?_, fun k hk hne => ?_⟩
    · repeat' (first | exact Below.refl _ _ | (refine Below.alloc ?_ (Nat.zero_le _) _) | (refine Below.setCell ?_ (Nat.zero_le _) _))
    · first
        | (rw [Below.heap_alloc _ _ _ (by simp; omega), heap_setCell_other _ _ k _ hne])
        | (rw [heap_setCell_other _ _ k _ hne, Below.heap_alloc _ _ _ hk])
set_option maxRecDepth 100000 in
/-- A call that is tried: it ends, or raises a misfit. -/
theorem tried_g (g : FuncId) (lb : Array Value) (A : World → Prop) (B : Int → World → Prop) (w : World) (hcf : ∀ args w, (callFunc g args).run Tryz.prog w = .ok (.enter g args) w)
    (h : Calls Tryz.prog g lb (w.alloc (.cells #[.int .i64 0] 33)) fun e W' => W'.heap[w.heap.size]? = some (.cells #[.int .i64 0] 33 (0, 0)) ∧ ((e = .returned (.tuple #[]) ∧ A W') ∨ ∃ c, e = .panicked (gmisfit c) ∧ B c W')) :
    Calls Tryz.prog 63 #[.func (.func g) #[] lb] w fun e w' => ∃ c W', e = .returned (.int .i64 c) ∧ ((c = 0 ∧ A W') ∨ B c W') ∧ Ch (fun k => k = w.heap.size) W' w' := by
  have hmf : ∀ (fn : Fn) (first cap : Array Value) (w : World), (Instr.makeFunc fn first cap).run Tryz.prog w = .ok (.func fn first cap) w := fun _ _ _ _ => rfl
  have H := hid h
  clear h
  go_enter_defers Tryz.func63, Tryz.ntmps63
  go_wp2_with fail
  refine H.out.mono ?_
  rintro e W3 ⟨hp, hh⟩
  clear H
  rcases hh with ⟨rfl, hA⟩ | ⟨c, rfl, hB⟩
  · have HA := hid hA
    have HP := hid hp
    have g0 := cellN (i := 0) (v := .int .i64 0) hp rfl
    have f0 := frozN (i := 0) hp
    clear hA hp
    go_wp2_with fail
    refine leaves_cons (f := 110) (args := #[.pointer (some ⟨w.heap.size, 0, none⟩)]) (by simp) (by simp [go_sem]) ?_
    have h4 := heap_setCell_same W3 w.heap.size 0 _ _ (.int .i64 0) HP.out
    refine (catchI_g ⟨w.heap.size, 0, none⟩ _).mono ?_
    rintro e u' w'' ⟨rfl, rfl, h5⟩
    have h6 := carry h4 h5
    have c1 : w''.cell? ⟨w.heap.size, 0, none⟩ = some (.int .i64 0) := by simp [World.cell?, h6]
    refine ⟨.int .i64 0, ?_, 0, W3, rfl, .inl ⟨rfl, HA.out⟩, ?_, fun k hk hne => ?_⟩
    · simp [results, Tryz.results63, go_sem, c1]
    · exact ((Below.refl 0 W3).setCell (Nat.zero_le _) _).trans (h5.mono (Nat.zero_le _))
    · rw [h5.block k (by simp; exact hk), heap_setCell_other _ _ k _ hne]
  · refine leaves_cons (f := 110) (args := #[.pointer (some ⟨w.heap.size, 0, none⟩)]) (by simp) (by simp [go_sem]) ?_
    refine (catchM_g w.heap.size c 0 W3 hp).mono ?_
    rintro e u' w'' ⟨rfl, rfl, h1, h2⟩
    have c1 : w''.cell? ⟨w.heap.size, 0, none⟩ = some (.int .i64 c) := by simp [World.cell?, h1]
    refine ⟨.int .i64 c, ?_, c, W3, rfl, .inr hB, h2⟩
    simp [results, Tryz.results63, go_sem, c1]
theorem assertN_c (w : World) : (Instr.typeAssert .nilIface 20 130 true).run Tryz.prog w = .ok (.tuple #[.agg #[.int .i64 0], .bool false]) w := by kernel_rfl
theorem assertM_c (c : Int) (w : World) : (Instr.typeAssert (.iface 130 (.agg #[.int .i64 c])) 20 130 true).run Tryz.prog w = .ok (.tuple #[.agg #[.int .i64 c], .bool true]) w := by kernel_rfl
attribute [local go_sem] assertN_c assertM_c
set_option maxRecDepth 100000 in
theorem catchI_c (p : Addr) (w : World) :
    CallsD Tryz.prog 78 #[.pointer (some p)] .returning w fun e u' w' => e = .returned (.tuple #[]) ∧ u' = .returning ∧ Below w.heap.size w w' := by
  refine callsD_of_wpS Tryz.func78 rfl fun c₀ cs hu => ?_
  simp only [Tryz.ntmps78, List.size_toArray, List.length_cons, List.length_nil, Nat.reduceAdd, Nat.reduceSub, Array.replicate_succ, Array.replicate_zero, List.push_toArray, List.append_toArray, List.nil_append, List.cons_append]
  apply wpS_seq
  apply wpS_region
  simp [wpOpsS, go_sem, recoverD, hu, Exit.thenS]
  refine wpS_of_wp ?_
  go_wp2_with fail
  refine ⟨rfl, .returning, by cases c₀; simp_all, .tuple #[], results_none rfl _ _ _, rfl, rfl, (Below.refl _ _).alloc (Nat.le_refl _) _⟩
set_option maxRecDepth 100000 in
theorem catchM_c (p : Nat) (c x : Int) (w : World) (hp : w.heap[p]? = some (.cells #[.int .i64 x] 33 (0, 0))) :
    CallsD Tryz.prog 78 #[.pointer (some ⟨p, 0, none⟩)] (.panicking (cmisfit c)) w fun e u' w' => e = .returned (.tuple #[]) ∧ u' = .panicking [{ v := .iface 130 (.agg #[.int .i64 c]), recovered := true }] ∧
      w'.heap[p]? = some (.cells #[.int .i64 c] 33 (0, 0)) ∧ Ch (fun k => k = p) w w' := by
  refine callsD_of_wpS Tryz.func78 rfl fun c₀ cs hu => ?_
  simp only [Tryz.ntmps78, List.size_toArray, List.length_cons, List.length_nil, Nat.reduceAdd, Nat.reduceSub, Array.replicate_succ, Array.replicate_zero, List.push_toArray, List.append_toArray, List.nil_append, List.cons_append]
  apply wpS_seq
  apply wpS_region
  simp [wpOpsS, go_sem, recoverD, hu, Exit.thenS, cmisfit]
  refine wpS_of_wp ?_
  have hpl : p < w.heap.size := (Array.getElem?_eq_some_iff.1 hp).1
  have g0 := cellN (i := 0) (v := .int .i64 x) hp rfl
  have f0 := frozN (i := 0) hp
  have hpn : p ≠ w.heap.size := by omega
  have hnp : w.heap.size ≠ p := by omega
  have HP := hid hp
  clear hp
  go_wp2_with fail
  refine ⟨rfl, _, rfl, .tuple #[], results_none rfl _ _ _, rfl, rfl, ?_, ?_⟩
  · have h1 := heap_setCell_same w p 0 _ _ (.int .i64 c) HP.out
    first
      | (rw [Below.heap_alloc _ _ _ (by simp; omega)]; rw [h1]; simp)
      | (have h2 := heap_setCell_same (w.alloc (.cells #[.int .i64 c] 130)) p 0 _ _ (.int .i64 c) (carryA HP.out _); rw [h2]; simp)
  · refine ⟨?_, fun k hk hne => ?_⟩
    · repeat' (first | exact Below.refl _ _ | (refine Below.alloc ?_ (Nat.zero_le _) _) | (refine Below.setCell ?_ (Nat.zero_le _) _))
    · first
        | (rw [Below.heap_alloc _ _ _ (by simp; omega), heap_setCell_other _ _ k _ hne])
        | (rw [heap_setCell_other _ _ k _ hne, Below.heap_alloc _ _ _ hk])
set_option maxRecDepth 100000 in
/-- A call that is tried: it ends, or raises a misfit. -/
theorem tried_c (g : FuncId) (lb : Array Value) (A : World → Prop) (B : Int → World → Prop) (w : World) (hcf : ∀ args w, (callFunc g args).run Tryz.prog w = .ok (.enter g args) w)
    (h : Calls Tryz.prog g lb (w.alloc (.cells #[.int .i64 0] 33)) fun e W' => W'.heap[w.heap.size]? = some (.cells #[.int .i64 0] 33 (0, 0)) ∧ ((e = .returned (.tuple #[]) ∧ A W') ∨ ∃ c, e = .panicked (cmisfit c) ∧ B c W')) :
    Calls Tryz.prog 41 #[.func (.func g) #[] lb] w fun e w' => ∃ c W', e = .returned (.int .i64 c) ∧ ((c = 0 ∧ A W') ∨ B c W') ∧ Ch (fun k => k = w.heap.size) W' w' := by
  have hmf : ∀ (fn : Fn) (first cap : Array Value) (w : World), (Instr.makeFunc fn first cap).run Tryz.prog w = .ok (.func fn first cap) w := fun _ _ _ _ => rfl
  have H := hid h
  clear h
  go_enter_defers Tryz.func41, Tryz.ntmps41
  go_wp2_with fail
  refine H.out.mono ?_
  rintro e W3 ⟨hp, hh⟩
  clear H
  rcases hh with ⟨rfl, hA⟩ | ⟨c, rfl, hB⟩
  · have HA := hid hA
    have HP := hid hp
    have g0 := cellN (i := 0) (v := .int .i64 0) hp rfl
    have f0 := frozN (i := 0) hp
    clear hA hp
    go_wp2_with fail
    refine leaves_cons (f := 78) (args := #[.pointer (some ⟨w.heap.size, 0, none⟩)]) (by simp) (by simp [go_sem]) ?_
    have h4 := heap_setCell_same W3 w.heap.size 0 _ _ (.int .i64 0) HP.out
    refine (catchI_c ⟨w.heap.size, 0, none⟩ _).mono ?_
    rintro e u' w'' ⟨rfl, rfl, h5⟩
    have h6 := carry h4 h5
    have c1 : w''.cell? ⟨w.heap.size, 0, none⟩ = some (.int .i64 0) := by simp [World.cell?, h6]
    refine ⟨.int .i64 0, ?_, 0, W3, rfl, .inl ⟨rfl, HA.out⟩, ?_, fun k hk hne => ?_⟩
    · simp [results, Tryz.results41, go_sem, c1]
    · exact ((Below.refl 0 W3).setCell (Nat.zero_le _) _).trans (h5.mono (Nat.zero_le _))
    · rw [h5.block k (by simp; exact hk), heap_setCell_other _ _ k _ hne]
  · refine leaves_cons (f := 78) (args := #[.pointer (some ⟨w.heap.size, 0, none⟩)]) (by simp) (by simp [go_sem]) ?_
    refine (catchM_c w.heap.size c 0 W3 hp).mono ?_
    rintro e u' w'' ⟨rfl, rfl, h1, h2⟩
    have c1 : w''.cell? ⟨w.heap.size, 0, none⟩ = some (.int .i64 c) := by simp [World.cell?, h1]
    refine ⟨.int .i64 c, ?_, c, W3, rfl, .inr hB, h2⟩
    simp [results, Tryz.results41, go_sem, c1]
end Go.Proofs.YtolnhicngepnnaaGreat
