/- contact: bodies. -/
import Derived.Test.YtolnhicngepnnaaGreatU4
import Derived.Test.YtolnhicngepnnaaGreatU9
import Derived.Test.YtolnhicngepnnaaGreatF9
import Derived.Shelf.Spec.BitsCarry
namespace Go.Proofs.YtolnhicngepnnaaGreat
open Go.RowKit

/-- A stone of a scene. -/
structure BodyD where
  team : Int
  n : Int
  m : Mov
  out : Bool
  deriving DecidableEq
def BodyD.arr (b : BodyD) : Array Value := #[.int .i64 b.team, .int .i64 b.n, .int .i64 b.m.x, .int .i64 b.m.y, .int .i64 b.m.vx, .int .i64 b.m.vy, .int .i64 b.m.sp, .bool b.out]
def BodyD.v (b : BodyD) : Value := .agg b.arr
def restM (m : Mov) : Bool := decide (m.vx = 0) && decide (m.vy = 0)
def BodyD.valid (b : BodyD) : Bool := inB b.team 0 1 && (inB b.n 0 7 && b.m.ok)
def goneM (m : Mov) : Bool := decide (146145280 ≤ max m.x (-m.x)) || (decide (129368064 < m.y) || decide (m.y < -1977417728))
theorem within39_any (n a b : Int) (w : World) : Calls Tryz.prog 39 #[.int .i64 n, .int .i64 a, .int .i64 b] w fun e w' => e = .returned (.bool (inB n a b)) ∧ w' = w := by
  go_enter Tryz.func39, Tryz.ntmps39
  go_wp2
  all_goals (go_ret; exact ⟨ret_bool (by simp [inB, *]; try omega), rfl⟩)
set_option maxRecDepth 100000 in
theorem rests130_any (b : BodyD) (w : World) : Calls Tryz.prog 130 #[b.v] w fun e w' => e = .returned (.bool (restM b.m)) ∧ Below w.heap.size w w' := by
  obtain ⟨team, n, ⟨x, y, vx, vy, sp⟩, out⟩ := b
  have HB := hid ((Below.refl w.heap.size w).alloc (Nat.le_refl _) (.cells #[.int .i64 team, .int .i64 n, .int .i64 x, .int .i64 y, .int .i64 vx, .int .i64 vy, .int .i64 sp, .bool out] 174))
  have HR := hid (show restM ⟨x, y, vx, vy, sp⟩ = (decide (vx = 0) && decide (vy = 0)) from rfl)
  dsimp only
  generalize restM ⟨x, y, vx, vy, sp⟩ = r at *
  show Calls Tryz.prog 130 #[.agg #[.int .i64 team, .int .i64 n, .int .i64 x, .int .i64 y, .int .i64 vx, .int .i64 vy, .int .i64 sp, .bool out]] w _
  go_enter Tryz.func130, Tryz.ntmps130
  go_wp2_with fail
  all_goals
    go_ret
    exact ⟨ret_bool (by rw [HR.out]; simp [*]), (Below.refl _ _).alloc (Nat.le_refl _) _⟩
set_option maxRecDepth 100000 in
theorem valid129_any (b : BodyD) (w : World) : Calls Tryz.prog 129 #[b.v] w fun e w' => e = .returned (.bool b.valid) ∧ Below w.heap.size w w' := by
  obtain ⟨team, n, ⟨x, y, vx, vy, sp⟩, out⟩ := b
  have HR := hid (show BodyD.valid ⟨team, n, ⟨x, y, vx, vy, sp⟩, out⟩ = (inB team 0 1 && (inB n 0 7 && movOk x y vx vy sp)) from rfl)
  have H1 := hid (fun U => within39_any team 0 1 U)
  have H2 := hid (fun U => within39_any n 0 7 U)
  have H3 := hid (fun U => check61_any x y vx vy sp U)
  generalize BodyD.valid ⟨team, n, ⟨x, y, vx, vy, sp⟩, out⟩ = r at *
  generalize inB team 0 1 = b1 at *
  generalize inB n 0 7 = b2 at *
  generalize movOk x y vx vy sp = b3 at *
  obtain ⟨W1, hW1⟩ : ∃ W1, w.alloc (.cells #[.int .i64 team, .int .i64 n, .int .i64 x, .int .i64 y, .int .i64 vx, .int .i64 vy, .int .i64 sp, .bool out] 174) = W1 := ⟨_, rfl⟩
  have HB := hid (show Below w.heap.size w W1 by rw [← hW1]; exact (Below.refl _ w).alloc (Nat.le_refl _) _)
  have h0 : W1.heap[w.heap.size]? = some (.cells #[.int .i64 team, .int .i64 n, .int .i64 x, .int .i64 y, .int .i64 vx, .int .i64 vy, .int .i64 sp, .bool out] 174 (0, 0)) := by rw [← hW1]; exact heap_alloc_new w _
  have HW := hid hW1
  have q0 := cellN (i := 0) (v := .int .i64 team) h0 rfl
  have q1 := cellN (i := 1) (v := .int .i64 n) h0 rfl
  have q2 := cellN (i := 2) (v := .int .i64 x) h0 rfl
  have q3 := cellN (i := 3) (v := .int .i64 y) h0 rfl
  have q4 := cellN (i := 4) (v := .int .i64 vx) h0 rfl
  have q5 := cellN (i := 5) (v := .int .i64 vy) h0 rfl
  have q6 := cellN (i := 6) (v := .int .i64 sp) h0 rfl
  clear hW1 h0
  show Calls Tryz.prog 129 #[.agg #[.int .i64 team, .int .i64 n, .int .i64 x, .int .i64 y, .int .i64 vx, .int .i64 vy, .int .i64 sp, .bool out]] w _
  go_enter Tryz.func129, Tryz.ntmps129
  go_upto_region 1 with fail
  rw [HW.out]
  clear HW
  go_wp2_with fail
  refine (H1.out _).mono ?_
  rintro e w2 ⟨rfl, rfl⟩
  cases b1 with
  | false =>
    go_wp2_with fail
    go_ret
    exact ⟨by rw [HR.out]; rfl, HB.out⟩
  | true =>
  go_wp2_with fail
  refine (H2.out _).mono ?_
  rintro e w2 ⟨rfl, rfl⟩
  cases b2 with
  | false =>
    go_wp2_with fail
    go_ret
    exact ⟨by rw [HR.out]; rfl, HB.out⟩
  | true =>
  go_wp2_with fail
  refine (H3.out _).mono ?_
  rintro e w2 ⟨rfl, hb⟩
  have HB2 := hid (HB.out.trans (hb.mono HB.out.size))
  clear hb
  cases b3
  all_goals
    go_wp2_with fail
    go_ret
    exact ⟨by rw [HR.out]; rfl, HB2.out⟩
set_option maxRecDepth 100000 in
theorem gone83_any (b : BodyD) (w : World) (hx : -6553600000 ≤ b.m.x ∧ b.m.x ≤ 6553600000) : Calls Tryz.prog 83 #[b.v] w fun e w' => e = .returned (.bool (goneM b.m)) ∧ Below w.heap.size w w' := by
  obtain ⟨team, n, ⟨x, y, vx, vy, sp⟩, out⟩ := b
  dsimp only at hx
  have hw : IntKind.i64.wrap (-x) = -x := by rw [IntKind.wrap_i64]; omega
  have HB := hid ((Below.refl w.heap.size w).alloc (Nat.le_refl _) (.cells #[.int .i64 team, .int .i64 n, .int .i64 x, .int .i64 y, .int .i64 vx, .int .i64 vy, .int .i64 sp, .bool out] 174))
  have HR := hid (show goneM ⟨x, y, vx, vy, sp⟩ = (decide (146145280 ≤ max x (-x)) || (decide (129368064 < y) || decide (y < -1977417728))) from rfl)
  dsimp only
  generalize goneM ⟨x, y, vx, vy, sp⟩ = r at *
  have h0 := heap_alloc_new w (.cells #[.int .i64 team, .int .i64 n, .int .i64 x, .int .i64 y, .int .i64 vx, .int .i64 vy, .int .i64 sp, .bool out] 174)
  obtain ⟨W1, hW1⟩ : ∃ W1, w.alloc (.cells #[.int .i64 team, .int .i64 n, .int .i64 x, .int .i64 y, .int .i64 vx, .int .i64 vy, .int .i64 sp, .bool out] 174) = W1 := ⟨_, rfl⟩
  rw [hW1] at h0
  have HW := hid hW1
  have q2 := cellN (i := 2) (v := .int .i64 x) h0 rfl
  have q3 := cellN (i := 3) (v := .int .i64 y) h0 rfl
  clear hW1 h0
  show Calls Tryz.prog 83 #[.agg #[.int .i64 team, .int .i64 n, .int .i64 x, .int .i64 y, .int .i64 vx, .int .i64 vy, .int .i64 sp, .bool out]] w _
  go_enter Tryz.func83, Tryz.ntmps83
  go_upto_region 1 with fail
  rw [HW.out] at HB ⊢
  clear HW
  have HRX := hid (show ∀ mx, max x (-x) = mx → r = (decide (146145280 ≤ mx) || (decide (129368064 < y) || decide (y < -1977417728))) from fun mx h => by rw [HR.out, h])
  clear HR hx
  by_cases hlt : x < -x
  · have HM := hid (HRX.out (-x) (Int.max_eq_right (by omega)))
    clear HRX
    by_cases h1 : 146145280 ≤ -x
    · rw [decide_eq_true h1] at HM
      go_wp2_with fail
      go_ret
      exact ⟨by rw [HM.out]; rfl, HB.out⟩
    · rw [decide_eq_false h1] at HM
      by_cases h2 : 129368064 < y
      · rw [decide_eq_true h2] at HM
        go_wp2_with fail
        go_ret
        exact ⟨by rw [HM.out]; rfl, HB.out⟩
      · rw [decide_eq_false h2] at HM
        go_wp2_with fail
        go_ret
        exact ⟨by rw [HM.out]; rfl, HB.out⟩
  · have HM := hid (HRX.out x (Int.max_eq_left (by omega)))
    clear HRX
    by_cases h1 : 146145280 ≤ x
    · rw [decide_eq_true h1] at HM
      go_wp2_with fail
      go_ret
      exact ⟨by rw [HM.out]; rfl, HB.out⟩
    · rw [decide_eq_false h1] at HM
      by_cases h2 : 129368064 < y
      · rw [decide_eq_true h2] at HM
        go_wp2_with fail
        go_ret
        exact ⟨by rw [HM.out]; rfl, HB.out⟩
      · rw [decide_eq_false h2] at HM
        go_wp2_with fail
        go_ret
        exact ⟨by rw [HM.out]; rfl, HB.out⟩
theorem must131_ok (x : Int) (w : World) : Calls Tryz.prog 131 #[.int .i64 x, .int .i64 0] w fun e w' => e = .returned (.int .i64 x) ∧ w' = w := by
  go_enter Tryz.func131, Tryz.ntmps131
  go_wp2_with fail
  go_ret
  exact ⟨rfl, rfl⟩
theorem must139_ok (x : Int) (w : World) : Calls Tryz.prog 139 #[.int .i64 x, .int .i64 0] w fun e w' => e = .returned (.int .i64 x) ∧ w' = w := by
  go_enter Tryz.func139, Tryz.ntmps139
  go_wp2_with fail
  go_ret
  exact ⟨rfl, rfl⟩
end Go.Proofs.YtolnhicngepnnaaGreat
/- contact: must, touches; fixed.Within of 290 mm. -/
namespace Go.Proofs.YtolnhicngepnnaaGreat
open Go.RowKit

theorem must137_ok (x y : Int) (w : World) : Calls Tryz.prog 137 #[.agg #[.int .i64 x, .int .i64 y], .int .i64 0] w fun e w' => e = .returned (.agg #[.int .i64 x, .int .i64 y]) ∧ Below w.heap.size w w' := by
  obtain ⟨W1, hW1⟩ : ∃ W1, (w.alloc (.cells #[.int .i64 x, .int .i64 y] 28)).alloc (.cells #[.int .i64 0, .int .i64 0] 28) = W1 := ⟨_, rfl⟩
  have hz : W1.heap.size = w.heap.size + 2 := by rw [← hW1]; simp
  have hb1 : Below w.heap.size w W1 := by rw [← hW1]; exact ((Below.refl _ w).alloc (Nat.le_refl _) _).alloc (by simp) _
  have p0 : W1.heap[w.heap.size]? = some (.cells #[.int .i64 x, .int .i64 y] 28 (0, 0)) := by
    rw [← hW1, Below.heap_alloc _ _ _ (by simp)]; exact heap_alloc_new w _
  have p1 : W1.heap[w.heap.size + 1]? = some (.cells #[.int .i64 0, .int .i64 0] 28 (0, 0)) := by
    rw [← hW1]
    simpa using heap_alloc_new (w.alloc (.cells #[.int .i64 x, .int .i64 y] 28)) (.cells #[.int .i64 0, .int .i64 0] 28)
  have HB := hid hb1
  have HW := hid hW1
  have HP := hid p1
  obtain ⟨g0, g1, f0, f1⟩ := cells2 p0
  obtain ⟨k0, k1, l0, l1⟩ := cells2 p1
  clear hW1 hb1 p0 p1 hz
  go_enter Tryz.func137, Tryz.ntmps137
  go_upto_region 1 with fail
  rw [HW.out]
  clear HW
  go_wp2_with fail
  have hp := put2_same (.int .i64 x) (.int .i64 y) HP.out
  have hb9 := (HB.out.setCell (p := ⟨w.heap.size + 1, 0, none⟩) (by simp) (.int .i64 x)).setCell (p := ⟨w.heap.size + 1, 1, none⟩) (by simp) (.int .i64 y)
  generalize (W1.setCell ⟨w.heap.size + 1, 0, none⟩ (.int .i64 x)).setCell ⟨w.heap.size + 1, 1, none⟩ (.int .i64 y) = W9 at *
  refine bodyPost_ret (results_c1 rfl _ _ _ ⟨w.heap.size + 1, 0, none⟩ _ rfl (load28 W9 (w.heap.size + 1) (.int .i64 x) (.int .i64 y) (by simp [World.cell?, hp]) (by simp [World.cell?, hp]))) rfl ⟨rfl, hb9⟩
theorem mkic (c : Int) (w : World) : (Instr.makeInterface 130 (.agg #[.int .i64 c])).run Tryz.prog w = .ok (.iface 130 (.agg #[.int .i64 c])) w := by kernel_rfl
theorem results_c1m {fn : Func} {p : Tmp} (h : fn.results = #[.cell p 39]) (tmps : Array Value) (w : World) (b : Nat) (m : Mov) (hp : tmps.getD p undef = .pointer (some ⟨b, 0, none⟩)) (hl : w.heap[b]? = some (.cells m.arr 39 (0, 0))) :
    (results fn tmps).run Tryz.prog w = .ok m.v w := by
  exact results_c1 h _ _ _ _ _ hp (load39 w b _ _ _ _ _ 39 hl)
/-- How must of something that moves ends. -/
theorem must133_ok (m : Mov) (w : World) : Calls Tryz.prog 133 #[m.v, .int .i64 0] w fun e w' => e = .returned m.v ∧ Below w.heap.size w w' := by
  obtain ⟨x, y, vx, vy, sp⟩ := m
  obtain ⟨W1, hW1⟩ : ∃ W1, (w.alloc (.cells #[.int .i64 x, .int .i64 y, .int .i64 vx, .int .i64 vy, .int .i64 sp] 39)).alloc (.cells #[.int .i64 0, .int .i64 0, .int .i64 0, .int .i64 0, .int .i64 0] 39) = W1 := ⟨_, rfl⟩
  have hb1 : Below w.heap.size w W1 := by rw [← hW1]; exact ((Below.refl _ w).alloc (Nat.le_refl _) _).alloc (by simp) _
  have p0 : W1.heap[w.heap.size]? = some (.cells #[.int .i64 x, .int .i64 y, .int .i64 vx, .int .i64 vy, .int .i64 sp] 39 (0, 0)) := by
    rw [← hW1, Below.heap_alloc _ _ _ (by simp)]; exact heap_alloc_new w _
  have p1 : W1.heap[w.heap.size + 1]? = some (.cells #[.int .i64 0, .int .i64 0, .int .i64 0, .int .i64 0, .int .i64 0] 39 (0, 0)) := by
    rw [← hW1]
    simpa using heap_alloc_new (w.alloc (.cells #[.int .i64 x, .int .i64 y, .int .i64 vx, .int .i64 vy, .int .i64 sp] 39)) (.cells #[.int .i64 0, .int .i64 0, .int .i64 0, .int .i64 0, .int .i64 0] 39)
  have HB := hid hb1
  have HW := hid hW1
  have HP := hid p1
  have g0 := cellN (i := 0) (v := .int .i64 x) p0 rfl
  have g1 := cellN (i := 1) (v := .int .i64 y) p0 rfl
  have g2 := cellN (i := 2) (v := .int .i64 vx) p0 rfl
  have g3 := cellN (i := 3) (v := .int .i64 vy) p0 rfl
  have g4 := cellN (i := 4) (v := .int .i64 sp) p0 rfl
  have k0 := cellN (i := 0) (v := .int .i64 0) p1 rfl
  have k1 := cellN (i := 1) (v := .int .i64 0) p1 rfl
  have k2 := cellN (i := 2) (v := .int .i64 0) p1 rfl
  have k3 := cellN (i := 3) (v := .int .i64 0) p1 rfl
  have k4 := cellN (i := 4) (v := .int .i64 0) p1 rfl
  have l0 := frozN (i := 0) p1
  have l1 := frozN (i := 1) p1
  have l2 := frozN (i := 2) p1
  have l3 := frozN (i := 3) p1
  have l4 := frozN (i := 4) p1
  clear hW1 hb1 p0 p1
  show Calls Tryz.prog 133 #[.agg #[.int .i64 x, .int .i64 y, .int .i64 vx, .int .i64 vy, .int .i64 sp], .int .i64 0] w _
  go_enter Tryz.func133, Tryz.ntmps133
  go_upto_region 1 with fail
  rw [HW.out]
  clear HW
  go_wp2_with fail
  have hp := put5 (.int .i64 x) (.int .i64 y) (.int .i64 vx) (.int .i64 vy) (.int .i64 sp) HP.out
  have hb9 := put5_below (.int .i64 x) (.int .i64 y) (.int .i64 vx) (.int .i64 vy) (.int .i64 sp) HB.out (b := w.heap.size + 1) (by omega)
  generalize ((((W1.setCell ⟨w.heap.size + 1, 0, none⟩ (.int .i64 x)).setCell ⟨w.heap.size + 1, 1, none⟩ (.int .i64 y)).setCell ⟨w.heap.size + 1, 2, none⟩ (.int .i64 vx)).setCell ⟨w.heap.size + 1, 3, none⟩ (.int .i64 vy)).setCell ⟨w.heap.size + 1, 4, none⟩ (.int .i64 sp) = W9 at *
  exact bodyPost_ret (results_c1m rfl _ W9 (w.heap.size + 1) ⟨x, y, vx, vy, sp⟩ rfl hp) rfl ⟨rfl, hb9⟩
set_option maxRecDepth 100000 in
theorem must133_err (v0 v1 v2 v3 v4 : Value) (c : Int) (hc : c ≠ 0) (w : World) : Calls Tryz.prog 133 #[.agg #[v0, v1, v2, v3, v4], .int .i64 c] w fun e w' => e = .panicked (cmisfit c) ∧ Below w.heap.size w w' := by
  have hm := mkic c
  have hB : Below w.heap.size w ((w.alloc (.cells #[v0, v1, v2, v3, v4] 39)).alloc (.cells #[.int .i64 0, .int .i64 0, .int .i64 0, .int .i64 0, .int .i64 0] 39)) := ((Below.refl _ w).alloc (Nat.le_refl _) _).alloc (by simp) _
  have HB := hid hB
  clear hB
  go_enter Tryz.func133, Tryz.ntmps133
  go_wp2_with fail
  exact ⟨rfl, rfl, HB.out⟩
theorem assertN_b (w : World) : (Instr.typeAssert .nilIface 20 187 true).run Tryz.prog w = .ok (.tuple #[.agg #[.int .i64 0], .bool false]) w := by kernel_rfl
attribute [local go_sem] assertN_b
set_option maxRecDepth 100000 in
theorem catchI_b (p q : Addr) (w : World) :
    CallsD Tryz.prog 195 #[.pointer (some p), .pointer (some q)] .returning w fun e u' w' => e = .returned (.tuple #[]) ∧ u' = .returning ∧ Below w.heap.size w w' := by
  refine callsD_of_wpS Tryz.func195 rfl fun c₀ cs hu => ?_
  simp only [Tryz.ntmps195, List.size_toArray, List.length_cons, List.length_nil, Nat.reduceAdd, Nat.reduceSub, Array.replicate_succ, Array.replicate_zero, List.push_toArray, List.append_toArray, List.nil_append, List.cons_append]
  apply wpS_seq
  apply wpS_region
  simp [wpOpsS, go_sem, recoverD, hu, Exit.thenS]
  refine wpS_of_wp ?_
  go_wp2_with fail
  refine ⟨rfl, .returning, by cases c₀; simp_all, .tuple #[], results_none rfl _ _ _, rfl, rfl, (Below.refl _ _).alloc (Nat.le_refl _) _⟩
set_option maxRecDepth 100000 in
theorem tried166_ok (g : FuncId) (lb : Array Value) (r : Bool) (w : World) (hcf : ∀ args w, (callFunc g args).run Tryz.prog w = .ok (.enter g args) w)
    (h : ∀ W, Below w.heap.size w W → Calls Tryz.prog g lb W fun e W' => e = .returned (.bool r) ∧ Below W.heap.size W W') :
    Calls Tryz.prog 166 #[.func (.func g) #[] lb] w fun e w' => e = .returned (.tuple #[.bool r, .int .i64 0]) ∧ Below w.heap.size w w' := by
  have hmf : ∀ (fn : Fn) (first cap : Array Value) (w : World), (Instr.makeFunc fn first cap).run Tryz.prog w = .ok (.func fn first cap) w := fun _ _ _ _ => rfl
  have H := hid h
  go_enter_defers Tryz.func166, Tryz.ntmps166
  go_wp2_with fail
  obtain ⟨W2, hW2⟩ : ∃ W2, (w.alloc (.cells #[.bool false] 4)).alloc (.cells #[.int .i64 0] 33) = W2 := ⟨_, rfl⟩
  have hz2 : W2.heap.size = w.heap.size + 2 := by rw [← hW2]; simp
  have p2 : W2.heap[w.heap.size]? = some (.cells #[.bool false] 4 (0, 0)) := by
    rw [← hW2, Below.heap_alloc _ _ _ (by simp)]; exact heap_alloc_new w _
  have q2 : W2.heap[w.heap.size + 1]? = some (.cells #[.int .i64 0] 33 (0, 0)) := by
    rw [← hW2]
    have := heap_alloc_new (w.alloc (.cells #[.bool false] 4)) (.cells #[.int .i64 0] 33)
    simpa using this
  have hb2 : Below w.heap.size w W2 := by
    rw [← hW2]; exact ((Below.refl _ w).alloc (Nat.le_refl _) _).alloc (by simp) _
  rw [hW2]
  refine (H.out W2 hb2).mono ?_
  rintro e W3 ⟨rfl, hb3⟩
  have hz3 := hb3.size
  have p3 := (hb3.block w.heap.size (by omega)).trans p2
  have q3 := (hb3.block (w.heap.size + 1) (by omega)).trans q2
  have cp : W3.cell? ⟨w.heap.size, 0, none⟩ = some (.bool false) := by simp [World.cell?, p3]
  have cq : W3.cell? ⟨w.heap.size + 1, 0, none⟩ = some (.int .i64 0) := by simp [World.cell?, q3]
  have fp : W3.frozen? ⟨w.heap.size, 0, none⟩ = false := by simp [World.frozen?, p3]
  have fq : W3.frozen? ⟨w.heap.size + 1, 0, none⟩ = false := by simp [World.frozen?, q3]
  have HB3 := hid (hb2.trans (hb3.mono (by omega)))
  clear hW2 H h p2 q2 hb2 hb3 p3 q3
  go_wp2_with fail
  refine leaves_cons (f := 195) (args := #[.pointer (some ⟨w.heap.size, 0, none⟩), .pointer (some ⟨w.heap.size + 1, 0, none⟩)]) (by simp) (by simp [go_sem]) ?_
  have h4 := two_set0 W3 w.heap.size (w.heap.size + 1) _ _ (.bool r) (.int .i64 0) cp cq (by omega)
  have hb4 : Below w.heap.size w ((W3.setCell ⟨w.heap.size, 0, none⟩ (.bool r)).setCell ⟨w.heap.size + 1, 0, none⟩ (.int .i64 0)) := (HB3.out.setCell (Nat.le_refl _) _).setCell (by simp) _
  refine (catchI_b ⟨w.heap.size, 0, none⟩ ⟨w.heap.size + 1, 0, none⟩ _).mono ?_
  rintro e u' w'' ⟨rfl, rfl, h5⟩
  have c1 := bcs h5 h4.1
  have c2 := bcs h5 h4.2
  have hb5 := hb4.trans (h5.mono hb4.size)
  refine ⟨.tuple #[.bool r, .int .i64 0], ?_, rfl, hb5⟩
  simp [results, Tryz.results166, go_sem, c1, c2]
set_option maxRecDepth 100000 in
set_option maxHeartbeats 4000000 in
theorem within167_any (x y : Int) (hx : okF x = true) (hy : okF y = true) (p q : Nat) (w : World) (c0 : w.cell? ⟨p, 0, none⟩ = some (.int .i64 x)) (c1 : w.cell? ⟨p, 1, none⟩ = some (.int .i64 y)) (cq : w.cell? ⟨q, 0, none⟩ = some (.int .i64 19005440)) :
    Calls Tryz.prog 167 #[.pointer (some ⟨p, 0, none⟩), .pointer (some ⟨q, 0, none⟩)] w fun e w' => e = .returned (.bool (decide (sqN x y ≤ 361206749593600))) ∧ Below w.heap.size w w' := by
  have hlt := sqN_lt hx hy
  have HSQ := hid (fun W => square42_any x y W)
  rw [hx, hy, show x.natAbs * x.natAbs + y.natAbs * y.natAbs = sqN x y from rfl] at HSQ
  have HSZ := hid (fun W => size_any 19005440 (by omega) (by omega) W)
  have HPR := hid (fun W => product_any 19005440 19005440 (by omega) (by omega) W)
  have HRT := hid (fun W (h : SlI W (.slice (some ⟨W.heap.size - 1, 0, none⟩) 1 1) [19005440]) => right_any _ [19005440] W h)
  have HCM := hid (fun W => compareW_any (sqN x y) (19005440 * 19005440) W)
  have hne : decide (sqN x y ≤ 361206749593600) = decide (cmpN (sqN x y) (19005440 * 19005440) ≤ 0) := by
    unfold cmpN
    by_cases h : sqN x y ≤ 361206749593600
    · rw [decide_eq_true h]; symm; rw [decide_eq_true_eq]; split <;> (try split) <;> omega
    · rw [decide_eq_false h]; symm; rw [decide_eq_false_iff_not]; split <;> (try split) <;> omega
  rw [hne]
  obtain ⟨cm, hcm⟩ : ∃ v, cmpN (sqN x y) (19005440 * 19005440) = v := ⟨_, rfl⟩
  rw [hcm] at HCM ⊢
  obtain ⟨near, hnear⟩ : ∃ b, decide (cm ≤ 0) = b := ⟨_, rfl⟩
  rw [hnear]
  rw [show wideV (sqN x y) = .agg #[.int .u64 ((sqN x y / 18446744073709551616 : Nat) : Int), .int .u64 ((sqN x y % 18446744073709551616 : Nat) : Int)] from rfl] at HCM
  obtain ⟨hi, hhi⟩ : ∃ v, sqN x y / 18446744073709551616 = v := ⟨_, rfl⟩
  obtain ⟨lo, hlo⟩ : ∃ v, sqN x y % 18446744073709551616 = v := ⟨_, rfl⟩
  have HV := hid (show wideV (sqN x y) = .agg #[.int .u64 (hi : Int), .int .u64 (lo : Int)] by rw [wideV, hhi, hlo])
  rw [hhi, hlo] at HCM
  obtain ⟨pr, hpr⟩ : ∃ v, wideV (19005440 * 19005440) = v := ⟨_, rfl⟩
  rw [hpr] at HCM HPR
  have HQ := hid (show ∀ W, Below w.heap.size w W → W.cell? ⟨q, 0, none⟩ = some (.int .i64 19005440) from fun W h => bcs h cq)
  clear hhi hlo hlt hx hy hne hcm hpr
  go_enter Tryz.func167, Tryz.ntmps167
  go_upto_region 1 with fail
  go_wp2_with fail
  refine (HSQ.out _).mono ?_
  rintro e w1 ⟨he, hb1⟩
  obtain rfl : e = .returned (.agg #[.int .u64 (hi : Int), .int .u64 (lo : Int)]) := by rw [← HV.out]; exact he
  have cq1 := bcs hb1 cq
  have HB1 := hid (hb1.alloc hb1.size (.cells #[.int .u64 (hi : Int), .int .u64 (lo : Int)] 149))
  have HN := hid (cell_new' w1 #[.int .u64 (hi : Int), .int .u64 (lo : Int)] 149)
  have HZ1 := hid (show w1.heap.size < (w1.alloc (.cells #[.int .u64 (hi : Int), .int .u64 (lo : Int)] 149)).heap.size by simp)
  clear he hb1 c0 c1 HSQ HV cq cq1
  go_upto_region 2 with fail
  generalize w1.alloc (.cells #[.int .u64 (hi : Int), .int .u64 (lo : Int)] 149) = W2 at *
  have n0 : W2.cell? ⟨w1.heap.size, 0, none⟩ = some (.int .u64 (hi : Int)) := HN.out 0 _ rfl
  have n1 : W2.cell? ⟨w1.heap.size, 1, none⟩ = some (.int .u64 (lo : Int)) := HN.out 1 _ rfl
  generalize w1.heap.size = s0 at *
  have cq2 := HQ.out _ HB1.out
  have hsl : SlI (W2.alloc (.cells #[.int .i64 19005440] 22)) (.slice (some ⟨(W2.alloc (.cells #[.int .i64 19005440] 22)).heap.size - 1, 0, none⟩) 1 1) [19005440] := by
    have := new_SlI W2 [19005440] #[.int .i64 19005440] 22 rfl (by simp)
    simpa using this
  have HR2 := hid (HRT.out (W2.alloc (.cells #[.int .i64 19005440] 22)) hsl)
  rw [show (W2.alloc (.cells #[.int .i64 19005440] 22)).heap.size - 1 = W2.heap.size by simp, show ([19005440] : List Int).all okF = true by simp [okF]] at HR2
  clear HRT hsl
  have HBA := hid (HB1.out.alloc HB1.out.size (.cells #[.int .i64 19005440] 22))
  have HQA := hid (bcs ((Below.refl _ W2).alloc (Nat.le_refl _) (.cells #[.int .i64 19005440] 22)) n0)
  have HQB := hid (bcs ((Below.refl _ W2).alloc (Nat.le_refl _) (.cells #[.int .i64 19005440] 22)) n1)
  go_wp2_with fail
  refine HR2.out.mono ?_
  rintro e w2 ⟨he, hb2⟩
  obtain rfl : e = .returned (.tuple #[]) := he
  have HB2 := hid (btrans HBA.out (Nat.le_refl _) hb2)
  have n0 := bcs hb2 HQA.out
  have n1 := bcs hb2 HQB.out
  have cq3 := HQ.out _ HB2.out
  have HS := hid (show ∀ W, Below w2.heap.size w2 W → (W.cell? ⟨q, 0, none⟩ = some (.int .i64 19005440)) ∧ W.cell? ⟨s0, 0, none⟩ = some (.int .u64 (hi : Int)) ∧ W.cell? ⟨s0, 1, none⟩ = some (.int .u64 (lo : Int)) from fun W h => ⟨bcs h cq3, bcs h n0, bcs h n1⟩)
  clear hb2 n0 n1 cq3 cq2 HQA HQB HBA HR2 HB1 HN HZ1 HQ
  go_upto_region 3 with fail
  refine wp_region_held_drew (S := (fun W => (W.cell? ⟨q, 0, none⟩ = some (.int .i64 19005440)) ∧ W.cell? ⟨s0, 0, none⟩ = some (.int .u64 (hi : Int)) ∧ W.cell? ⟨s0, 1, none⟩ = some (.int .u64 (lo : Int)))) (by kernel_rfl) (HS.out _ (Below.drew (Below.refl _ _))) (fun hH => ?_)
  refine wpAnyH_take (i := 0) (oi := { dst := some 9, op := Go.Op.load 22 (Go.Operand.tmp 1), type := 22, pos := "fixed.go:326", after := #[], guard := none }) (v := (.int .i64 19005440)) rfl (by kernel_rfl) (by kernel_rfl) (by kernel_rfl) (fun _ _ _ h => h) (Or.inl ⟨by rfl, ?_⟩) hH ?_
  · intro w hSw
    (try dsimp only at hSw)
    go_simp
  (try simp only [Act.put, List.setIfInBounds_toArray, List.set_cons_zero, List.set_cons_succ])
  refine wpAnyH_take (i := 1) (oi := { dst := some 10, op := Go.Op.binOp Go.BinOp.geq 22 (Go.Operand.tmp 9) (Go.Operand.const (Go.Value.int Go.IntKind.i64 0)) 22, type := 4, pos := "fixed.go:326", after := #[{ on := 0, ground := Go.Ground.data }], guard := none }) (v := (.bool true)) rfl (by kernel_rfl) (by kernel_rfl) (by kernel_rfl) (fun _ _ _ h => h) (Or.inl ⟨by rfl, ?_⟩) hH ?_
  · intro w hSw
    (try dsimp only at hSw)
    go_simp
  (try simp only [Act.put, List.setIfInBounds_toArray, List.set_cons_zero, List.set_cons_succ])
  refine wpAnyH_take (i := 2) (oi := { dst := some 11, op := Go.Op.move (Go.Operand.tmp 10), type := 4, pos := "fixed.go:326", after := #[{ on := 1, ground := Go.Ground.data }], guard := none }) (v := (.bool true)) rfl (by kernel_rfl) (by kernel_rfl) (by kernel_rfl) (fun _ _ _ h => h) (Or.inl ⟨by rfl, ?_⟩) hH ?_
  · intro w hSw
    (try dsimp only at hSw)
    go_simp
  (try simp only [Act.put, List.setIfInBounds_toArray, List.set_cons_zero, List.set_cons_succ])
  refine wpAnyH_take (i := 3) (oi := { dst := some 12, op := Go.Op.load 149 (Go.Operand.tmp 3), type := 149, pos := "fixed.go:326", after := #[{ on := 2, ground := Go.Ground.guard }], guard := some (2, true) }) (v := (.agg #[.int .u64 (hi : Int), .int .u64 (lo : Int)])) rfl (by kernel_rfl) (by kernel_rfl) (by kernel_rfl) (fun _ _ _ h => h) (Or.inl ⟨by rfl, ?_⟩) hH ?_
  · intro w hSw
    (try dsimp only at hSw)
    go_simp
  (try simp only [Act.put, List.setIfInBounds_toArray, List.set_cons_zero, List.set_cons_succ])
  refine wpAnyH_take (i := 4) (oi := { dst := some 13, op := Go.Op.load 22 (Go.Operand.tmp 1), type := 22, pos := "fixed.go:326", after := #[{ on := 2, ground := Go.Ground.guard }], guard := some (2, true) }) (v := (.int .i64 19005440)) rfl (by kernel_rfl) (by kernel_rfl) (by kernel_rfl) (fun _ _ _ h => h) (Or.inl ⟨by rfl, ?_⟩) hH ?_
  · intro w hSw
    (try dsimp only at hSw)
    go_simp
  (try simp only [Act.put, List.setIfInBounds_toArray, List.set_cons_zero, List.set_cons_succ])
  refine wpAnyH_take (i := 6) (oi := { dst := some 15, op := Go.Op.load 22 (Go.Operand.tmp 1), type := 22, pos := "fixed.go:326", after := #[{ on := 2, ground := Go.Ground.guard }], guard := some (2, true) }) (v := (.int .i64 19005440)) rfl (by kernel_rfl) (by kernel_rfl) (by kernel_rfl) (fun _ _ _ h => h) (Or.inl ⟨by rfl, ?_⟩) hH ?_
  · intro w hSw
    (try dsimp only at hSw)
    go_simp
  (try simp only [Act.put, List.setIfInBounds_toArray, List.set_cons_zero, List.set_cons_succ])
  refine wpAnyH_ready (rs := [5]) (by kernel_rfl) (by simp) ?_
  refine AllReadyH.cons rfl (fun K hK => ?_) AllReadyH.nil
  (try dsimp only at hH)
  go_simp
  refine (HSZ.out _).mono ?_
  rintro e w5 ⟨rfl, rfl⟩
  refine hK.out _ _ (HS.out _ (Below.drew (Below.refl _ _))) (fun hH1 => ?_)
  clear hK K
  (try simp only [Act.put, List.setIfInBounds_toArray, List.set_cons_zero, List.set_cons_succ])
  refine wpAnyH_ready (rs := [7]) (by kernel_rfl) (by simp) ?_
  refine AllReadyH.cons rfl (fun K hK => ?_) AllReadyH.nil
  (try dsimp only at hH1)
  go_simp
  refine (HSZ.out _).mono ?_
  rintro e w6 ⟨rfl, rfl⟩
  refine hK.out _ _ (HS.out _ (Below.drew (Below.refl _ _))) (fun hH2 => ?_)
  clear hK K
  (try simp only [Act.put, List.setIfInBounds_toArray, List.set_cons_zero, List.set_cons_succ])
  refine wpAnyH_ready (rs := [8]) (by kernel_rfl) (by simp) ?_
  refine AllReadyH.cons rfl (fun K hK => ?_) AllReadyH.nil
  (try dsimp only at hH2)
  go_simp
  refine (HPR.out _).mono ?_
  rintro e w7 ⟨rfl, hb1⟩
  refine hK.out _ _ (HS.out _ (btrans (Below.drew (Below.refl _ _)) (Nat.le_refl _) hb1)) (fun hH3 => ?_)
  clear hK K
  (try simp only [Act.put, List.setIfInBounds_toArray, List.set_cons_zero, List.set_cons_succ])
  refine wpAnyH_ready (rs := [9]) (by kernel_rfl) (by simp) ?_
  refine AllReadyH.cons rfl (fun K hK => ?_) AllReadyH.nil
  (try dsimp only at hH3)
  go_simp
  refine (HCM.out _).mono ?_
  rintro e w8 ⟨rfl, hb2⟩
  refine hK.out _ _ (HS.out _ (btrans (btrans (Below.drew (Below.refl _ _)) (Nat.le_refl _) hb1) (Nat.le_refl _) hb2)) (fun hH4 => ?_)
  clear hK K
  (try simp only [Act.put, List.setIfInBounds_toArray, List.set_cons_zero, List.set_cons_succ])
  refine wpAnyH_take (i := 10) (oi := { dst := some 19, op := Go.Op.binOp Go.BinOp.leq 3 (Go.Operand.tmp 18) (Go.Operand.const (Go.Value.int Go.IntKind.i64 0)) 3, type := 4, pos := "fixed.go:326", after := #[{ on := 9, ground := Go.Ground.data }, { on := 2, ground := Go.Ground.guard }], guard := some (2, true) }) (v := (.bool near)) rfl (by kernel_rfl) (by kernel_rfl) (by kernel_rfl) (fun _ _ _ h => h) (Or.inl ⟨by rfl, ?_⟩) hH4 ?_
  · intro w hSw
    (try dsimp only at hSw)
    go_simp
  (try simp only [Act.put, List.setIfInBounds_toArray, List.set_cons_zero, List.set_cons_succ])
  refine wpAnyH_take (i := 11) (oi := { dst := some 20, op := Go.Op.pick (Go.Operand.tmp 11) (Go.Operand.tmp 19) (Go.Operand.const (Go.Value.bool false)), type := 4, pos := "fixed.go:326", after := #[{ on := 2, ground := Go.Ground.data }, { on := 10, ground := Go.Ground.data }], guard := none }) (v := (.bool near)) rfl (by kernel_rfl) (by kernel_rfl) (by kernel_rfl) (fun _ _ _ h => h) (Or.inl ⟨by rfl, ?_⟩) hH4 ?_
  · intro w hSw
    (try dsimp only at hSw)
    go_simp
  (try simp only [Act.put, List.setIfInBounds_toArray, List.set_cons_zero, List.set_cons_succ])
  refine wpAnyH_take (i := 12) (oi := { dst := some 2, op := Go.Op.assign (Go.Operand.tmp 20), type := 4, pos := "fixed.go:326", after := #[{ on := 11, ground := Go.Ground.data }, { on := 9, ground := Go.Ground.chain }, { on := 0, ground := Go.Ground.phase }, { on := 1, ground := Go.Ground.phase }, { on := 2, ground := Go.Ground.phase }, { on := 3, ground := Go.Ground.phase }, { on := 4, ground := Go.Ground.phase }, { on := 5, ground := Go.Ground.phase }, { on := 6, ground := Go.Ground.phase }, { on := 7, ground := Go.Ground.phase }, { on := 8, ground := Go.Ground.phase }, { on := 9, ground := Go.Ground.phase }, { on := 10, ground := Go.Ground.phase }, { on := 11, ground := Go.Ground.phase }], guard := none }) (v := (.bool near)) rfl (by kernel_rfl) (by kernel_rfl) (by kernel_rfl) (fun _ _ _ h => h) (Or.inl ⟨by rfl, ?_⟩) hH4 ?_
  · intro w hSw
    (try dsimp only at hSw)
    go_simp
  (try simp only [Act.put, List.setIfInBounds_toArray, List.set_cons_zero, List.set_cons_succ])
  refine wpAnyH_done (by kernel_rfl) ?_ _
  all_goals go_wp2_with fail
  go_ret
  exact ⟨rfl, HB2.out.trans ((btrans (btrans (Below.drew (Below.refl _ _)) (Nat.le_refl _) hb1) (Nat.le_refl _) hb2).mono HB2.out.size)⟩
theorem within136_any (x y : Int) (hx : okF x = true) (hy : okF y = true) (w : World) :
    Calls Tryz.prog 136 #[.agg #[.int .i64 x, .int .i64 y], .int .i64 19005440] w fun e w' => e = .returned (.tuple #[.bool (decide (sqN x y ≤ 361206749593600)), .int .i64 0]) ∧ Below w.heap.size w w' := by
  obtain ⟨W1, hW1⟩ : ∃ W1, (w.alloc (.cells #[.int .i64 x, .int .i64 y] 28)).alloc (.cells #[.int .i64 19005440] 22) = W1 := ⟨_, rfl⟩
  have hz : W1.heap.size = w.heap.size + 2 := by rw [← hW1]; simp
  have hb1 : Below w.heap.size w W1 := by rw [← hW1]; exact ((Below.refl _ w).alloc (Nat.le_refl _) _).alloc (by simp) _
  have p0 : W1.heap[w.heap.size]? = some (.cells #[.int .i64 x, .int .i64 y] 28 (0, 0)) := by
    rw [← hW1, Below.heap_alloc _ _ _ (by simp)]; exact heap_alloc_new w _
  have p1 : W1.heap[w.heap.size + 1]? = some (.cells #[.int .i64 19005440] 22 (0, 0)) := by
    rw [← hW1]
    simpa using heap_alloc_new (w.alloc (.cells #[.int .i64 x, .int .i64 y] 28)) (.cells #[.int .i64 19005440] 22)
  have HT := hid (tried166_ok 167 #[.pointer (some ⟨w.heap.size, 0, none⟩), .pointer (some ⟨w.heap.size + 1, 0, none⟩)] (decide (sqN x y ≤ 361206749593600)) W1 (enters_of Tryz.func167 (by kernel_rfl) rfl)
    (fun W h => within167_any x y hx hy _ _ W (bcs h (cellN p0 rfl)) (bcs h (cellN p0 rfl)) (bcs h (cellN p1 rfl))))
  generalize decide (sqN x y ≤ 361206749593600) = near at *
  have hm := run_makeFunc
  have HB := hid hb1
  have HW := hid hW1
  have HZ := hid hz
  clear hW1 hb1 p0 p1 hx hy hz
  go_enter Tryz.func136, Tryz.ntmps136
  go_upto_region 1 with fail
  rw [HW.out]
  clear HW
  go_wp2_with fail
  refine HT.out.mono ?_
  rintro e w1 ⟨rfl, hb⟩
  have HB1 := hid (btrans HB.out (by have := HZ.out; omega) hb)
  clear hb HT HB HZ
  go_wp2_with fail
  go_ret2
  exact ⟨rfl, HB1.out⟩
/-- Do two bodies touch? -/
def touchB (a b : BodyD) : Bool := !a.out && (!b.out && (decide (sqN (b.m.x - a.m.x) (b.m.y - a.m.y) ≤ 361206749593600) && !(decide (b.m.x - a.m.x = 0) && decide (b.m.y - a.m.y = 0))))
set_option maxRecDepth 100000 in
set_option maxHeartbeats 4000000 in
theorem touches81_any (a b : BodyD) (ha : spotOk a.m.x a.m.y = true) (hb : spotOk b.m.x b.m.y = true) (w : World) :
    Calls Tryz.prog 81 #[a.v, b.v] w fun e w' => e = .returned (.bool (touchB a b)) ∧ Below w.heap.size w w' := by
  obtain ⟨at', an, ⟨ax, ay, avx, avy, asp⟩, ao⟩ := a
  obtain ⟨bt, bn, ⟨bx, by1, bvx, bvy, bsp⟩, bo⟩ := b
  dsimp only at ha hb
  have A := spotOk_b ha
  have B := spotOk_b hb
  have HM := hid (fun W => minus_ok (ax := bx) (ay := by1) (bx := ax) (by' := ay) (okF_of (by omega) (by omega)) (okF_of (by omega) (by omega)) (okF_of (by omega) (by omega)) (okF_of (by omega) (by omega)) (okF_of (by omega) (by omega)) (okF_of (by omega) (by omega)) W)
  have HT := hid (fun W => within136_any (bx - ax) (by1 - ay) (okF_of (by omega) (by omega)) (okF_of (by omega) (by omega)) W)
  have HR := hid (show touchB ⟨at', an, ⟨ax, ay, avx, avy, asp⟩, ao⟩ ⟨bt, bn, ⟨bx, by1, bvx, bvy, bsp⟩, bo⟩ = (!ao && (!bo && (decide (sqN (bx - ax) (by1 - ay) ≤ 361206749593600) && !(decide (bx - ax = 0) && decide (by1 - ay = 0))))) from rfl)
  generalize touchB ⟨at', an, ⟨ax, ay, avx, avy, asp⟩, ao⟩ ⟨bt, bn, ⟨bx, by1, bvx, bvy, bsp⟩, bo⟩ = r at *
  generalize decide (sqN (bx - ax) (by1 - ay) ≤ 361206749593600) = near at *
  generalize bx - ax = dx at *
  generalize by1 - ay = dy at *
  clear A B ha hb
  obtain ⟨W1, hW1⟩ : ∃ W1, (w.alloc (.cells #[.int .i64 at', .int .i64 an, .int .i64 ax, .int .i64 ay, .int .i64 avx, .int .i64 avy, .int .i64 asp, .bool ao] 174)).alloc (.cells #[.int .i64 bt, .int .i64 bn, .int .i64 bx, .int .i64 by1, .int .i64 bvx, .int .i64 bvy, .int .i64 bsp, .bool bo] 174) = W1 := ⟨_, rfl⟩
  have hb1 : Below w.heap.size w W1 := by rw [← hW1]; exact ((Below.refl _ w).alloc (Nat.le_refl _) _).alloc (by simp) _
  have hz : W1.heap.size = w.heap.size + 2 := by rw [← hW1]; simp
  have p0 : W1.heap[w.heap.size]? = some (.cells #[.int .i64 at', .int .i64 an, .int .i64 ax, .int .i64 ay, .int .i64 avx, .int .i64 avy, .int .i64 asp, .bool ao] 174 (0, 0)) := by
    rw [← hW1, Below.heap_alloc _ _ _ (by simp)]; exact heap_alloc_new w _
  have p1 : W1.heap[w.heap.size + 1]? = some (.cells #[.int .i64 bt, .int .i64 bn, .int .i64 bx, .int .i64 by1, .int .i64 bvx, .int .i64 bvy, .int .i64 bsp, .bool bo] 174 (0, 0)) := by
    rw [← hW1]
    simpa using heap_alloc_new (w.alloc (.cells #[.int .i64 at', .int .i64 an, .int .i64 ax, .int .i64 ay, .int .i64 avx, .int .i64 avy, .int .i64 asp, .bool ao] 174)) (.cells #[.int .i64 bt, .int .i64 bn, .int .i64 bx, .int .i64 by1, .int .i64 bvx, .int .i64 bvy, .int .i64 bsp, .bool bo] 174)
  have HW := hid hW1
  have HB := hid hb1
  have HZ := hid hz
  have q2 := cellN (i := 2) (v := .int .i64 ax) p0 rfl
  have q3 := cellN (i := 3) (v := .int .i64 ay) p0 rfl
  have r2 := cellN (i := 2) (v := .int .i64 bx) p1 rfl
  have r3 := cellN (i := 3) (v := .int .i64 by1) p1 rfl
  have HQ := hid (show ∀ W, Below (w.heap.size + 2) W1 W → W.cell? ⟨w.heap.size, 7, none⟩ = some (.bool ao) ∧ W.cell? ⟨w.heap.size + 1, 7, none⟩ = some (.bool bo) from fun W h => by
    rw [← HZ.out] at h
    exact ⟨bcs h (cellN p0 rfl), bcs h (cellN p1 rfl)⟩)
  clear hW1 hb1 hz p0 p1
  show Calls Tryz.prog 81 #[.agg #[.int .i64 at', .int .i64 an, .int .i64 ax, .int .i64 ay, .int .i64 avx, .int .i64 avy, .int .i64 asp, .bool ao], .agg #[.int .i64 bt, .int .i64 bn, .int .i64 bx, .int .i64 by1, .int .i64 bvx, .int .i64 bvy, .int .i64 bsp, .bool bo]] w _
  go_enter Tryz.func81, Tryz.ntmps81
  go_upto_region 1 with fail
  rw [HW.out]
  clear HW
  go_wp2_with fail
  refine (HM.out _).mono ?_
  rintro e w1 ⟨rfl, hb⟩
  have HB1 := hid (btrans HB.out (by have := HZ.out; omega) hb)
  have HX1 := hid (show Below (w.heap.size + 2) W1 w1 by rw [← HZ.out]; exact hb)
  have HY1 := hid (show w.heap.size + 2 ≤ w1.heap.size by have := hb.size; have := HZ.out; omega)
  clear hb HM HB q2 q3 r2 r3
  have HB2 := hid (HB1.out.alloc HB1.out.size (.cells #[.int .i64 dx, .int .i64 dy] 28))
  have HX2 := hid (HX1.out.alloc HY1.out (.cells #[.int .i64 dx, .int .i64 dy] 28))
  have HN := hid (cell_new' w1 #[.int .i64 dx, .int .i64 dy] 28)
  go_upto_region 2 with fail
  generalize w1.alloc (.cells #[.int .i64 dx, .int .i64 dy] 28) = W2 at *
  have n0 : W2.cell? ⟨w1.heap.size, 0, none⟩ = some (.int .i64 dx) := HN.out 0 _ rfl
  have n1 : W2.cell? ⟨w1.heap.size, 1, none⟩ = some (.int .i64 dy) := HN.out 1 _ rfl
  clear HB1 HX1 HN
  generalize w1.heap.size = s0 at *
  go_wp2_with fail
  refine (HT.out _).mono ?_
  rintro e w2 ⟨rfl, hb⟩
  have HB3 := hid (HB2.out.trans (hb.mono HB2.out.size))
  have hx3 := HX2.out.trans (hb.mono (by have := HX2.out.size; have := HZ.out; omega))
  have c0 := bcs hb n0
  have c1 := bcs hb n1
  obtain ⟨d0, d1⟩ := HQ.out _ hx3
  have e0 : w2.cell? ⟨w.heap.size, 7, none⟩ = some (.bool ao) := d0
  have e1 : w2.cell? ⟨w.heap.size + 1, 7, none⟩ = some (.bool bo) := d1
  clear hb n0 n1 hx3 d0 d1 HQ HX2 HB2 HT HY1
  cases ao with
  | true =>
    go_wp2_with fail
    go_ret
    exact ⟨by rw [HR.out]; rfl, HB3.out⟩
  | false =>
  cases bo with
  | true =>
    go_wp2_with fail
    go_ret
    exact ⟨by rw [HR.out]; rfl, HB3.out⟩
  | false =>
  cases near with
  | false =>
    go_wp2_with fail
    go_ret
    exact ⟨by rw [HR.out]; rfl, HB3.out⟩
  | true =>
  by_cases hdx : dx = 0
  · by_cases hdy : dy = 0
    · subst hdx hdy
      go_wp2_with fail
      go_ret
      exact ⟨by rw [HR.out]; rfl, HB3.out⟩
    · subst hdx
      have hr : r = true := by rw [HR.out]; simp [hdy]
      have hq : (dy == 0) = false := by simp [hdy]
      subst hr
      go_wp2_with fail
      go_ret
      exact ⟨rfl, HB3.out⟩
  · have hr : r = true := by rw [HR.out]; simp [hdx]
    have hq : (dx == 0) = false := by simp [hdx]
    subst hr
    go_wp2_with fail
    go_ret
    exact ⟨rfl, HB3.out⟩
end Go.Proofs.YtolnhicngepnnaaGreat
/- fixed.wide.minus. -/
namespace Go.Proofs.YtolnhicngepnnaaGreat
open Go.RowKit

theorem run_sub64' (x y b : Nat) (hb : b ≤ 1) (w : World) :
    (callFunc 198 #[.int .u64 x, .int .u64 y, .int .u64 b]).run Tryz.prog w =
      .ok (.value (.tuple #[.int .u64 (((x + 18446744073709551616 - y - b) % 18446744073709551616 : Nat) : Int), .int .u64 ((if x < y + b then 1 else 0 : Nat) : Int)])) w := by
  rw [run_callFunc_extern Tryz.func198 (by kernel_rfl) (by kernel_rfl) (by kernel_rfl) (e := sub64Entry) (by kernel_rfl), Go.Proofs.run_sub64 x y b hb]
  rfl
set_option maxRecDepth 100000 in
theorem minus174_any (x y : Nat) (hs : x < 340282366920938463463374607431768211456) (hxy : y ≤ x) (w : World) : Calls Tryz.prog 174 #[wideV x, wideV y] w fun e w' => e = .returned (wideV (x - y)) ∧ Below w.heap.size w w' := by
  obtain ⟨a, ha⟩ : ∃ a, x / 18446744073709551616 = a := ⟨_, rfl⟩
  obtain ⟨b, hb⟩ : ∃ b, x % 18446744073709551616 = b := ⟨_, rfl⟩
  obtain ⟨c, hc⟩ : ∃ c, y / 18446744073709551616 = c := ⟨_, rfl⟩
  obtain ⟨d, hd⟩ : ∃ d, y % 18446744073709551616 = d := ⟨_, rfl⟩
  have hA := run_sub64' b d 0 (by omega)
  obtain ⟨k, hk⟩ : ∃ k, (if b < d + 0 then 1 else 0 : Nat) = k := ⟨_, rfl⟩
  have hk1 : (k = 1 ∧ b < d) ∨ (k = 0 ∧ d ≤ b) := by
    rw [← hk]; by_cases h : b < d + 0
    · rw [if_pos h]; omega
    · rw [if_neg h]; omega
  have hB := run_sub64' a c k (by omega)
  obtain ⟨lo, hlo⟩ : ∃ lo, (b + 18446744073709551616 - d - 0) % 18446744073709551616 = lo := ⟨_, rfl⟩
  obtain ⟨hi, hhi⟩ : ∃ hi, (a + 18446744073709551616 - c - k) % 18446744073709551616 = hi := ⟨_, rfl⟩
  obtain ⟨k2, hk2⟩ : ∃ k2, (if a < c + k then 1 else 0 : Nat) = k2 := ⟨_, rfl⟩
  rw [hk, hlo, show ((0 : Nat) : Int) = 0 from rfl] at hA
  rw [hhi, hk2] at hB
  have HV := hid (show wideV (x - y) = .agg #[.int .u64 (hi : Int), .int .u64 (lo : Int)] by
    have h1 : (x - y) / 18446744073709551616 = hi := by
      rcases hk1 with ⟨rfl, h⟩ | ⟨rfl, h⟩ <;> omega
    have h2 : (x - y) % 18446744073709551616 = lo := by
      rcases hk1 with ⟨rfl, h⟩ | ⟨rfl, h⟩ <;> omega
    rw [wideV, h1, h2])
  rw [show wideV x = .agg #[.int .u64 (a : Int), .int .u64 (b : Int)] by rw [wideV, ha, hb], show wideV y = .agg #[.int .u64 (c : Int), .int .u64 (d : Int)] by rw [wideV, hc, hd]]
  clear ha hb hc hd hk hlo hhi hk2 hk1 hs hxy
  go_enter Tryz.func174, Tryz.ntmps174
  go_wp2_with fail
  have hp : (((w.alloc (.cells #[.int .u64 (a : Int), .int .u64 (b : Int)] 149)).alloc (.cells #[.int .u64 (c : Int), .int .u64 (d : Int)] 149)).alloc (.cells #[.int .u64 (hi : Int), .int .u64 (lo : Int)] 149)).heap[w.heap.size + 1 + 1]? = some (.cells #[.int .u64 (hi : Int), .int .u64 (lo : Int)] 149 (0, 0)) := by
    have := heap_alloc_new ((w.alloc (.cells #[.int .u64 (a : Int), .int .u64 (b : Int)] 149)).alloc (.cells #[.int .u64 (c : Int), .int .u64 (d : Int)] 149)) (.cells #[.int .u64 (hi : Int), .int .u64 (lo : Int)] 149)
    simpa using this
  have hb : Below w.heap.size w (((w.alloc (.cells #[.int .u64 (a : Int), .int .u64 (b : Int)] 149)).alloc (.cells #[.int .u64 (c : Int), .int .u64 (d : Int)] 149)).alloc (.cells #[.int .u64 (hi : Int), .int .u64 (lo : Int)] 149)) :=
    (((Below.refl _ w).alloc (Nat.le_refl _) _).alloc (by simp) _).alloc (by simp; omega) _
  generalize ((w.alloc (.cells #[.int .u64 (a : Int), .int .u64 (b : Int)] 149)).alloc (.cells #[.int .u64 (c : Int), .int .u64 (d : Int)] 149)).alloc (.cells #[.int .u64 (hi : Int), .int .u64 (lo : Int)] 149) = W at *
  refine bodyPost_ret (results_c1 rfl _ _ _ ⟨w.heap.size + 1 + 1, 0, none⟩ _ rfl (load85 W (w.heap.size + 1 + 1) (.int .u64 (hi : Int)) (.int .u64 (lo : Int)) (by simp [World.cell?, hp]) (by simp [World.cell?, hp]))) rfl ⟨by rw [HV.out], hb⟩
end Go.Proofs.YtolnhicngepnnaaGreat
