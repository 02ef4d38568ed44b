/- fixed.each, Plus, Minus. -/
import Derived.Test.YtolnhicngepnnaaGreatW5
namespace Go.Proofs.YtolnhicngepnnaaGreat
open Go.RowKit

/-- What a function with a spot and an error returns. -/
abbrev outS (r : Except Int (Int × Int)) : Ending := .returned (.tuple #[.agg #[.int .i64 (valS r).1, .int .i64 (valS r).2], .int .i64 (errS r)])
theorem results_w2 {fn : Func} {p u : Tmp} {ty : TypeId} (h : fn.results = #[.cell p ty, .tmp u]) (tmps : Array Value) (P : Program) (w : World) (ad : Addr) (x : Value) (hp : tmps.getD p undef = .pointer (some ad)) (hl : (loadVar ty ad).run P w = .ok x w) :
    (results fn tmps).run P w = .ok (.tuple #[x, tmps.getD u undef]) w := by
  have e : (asAddr (tmps[p]?.getD undef)).run P w = .ok ad w := by
    rw [show tmps[p]?.getD undef = tmps.getD p undef by simp, hp]; simp [go_sem]
  simp only [results, h]
  simp [Sem.run_bind, Result.andThen, e, hl]
set_option maxRecDepth 100000 in
theorem each164_any (F : Int → Int → Except Int Int) (g : FuncId) (cap : Array Value) (ax ay bx by' : Int) (w : World) (hcf : ∀ args w, (callFunc g args).run Tryz.prog w = .ok (.enter g args) w)
    (hg : ∀ x y, okF x = true → okF y = true → (x = ax ∨ x = ay) → ∀ W, Below w.heap.size w W → Calls Tryz.prog g (#[.int .i64 x, .int .i64 y] ++ cap) W fun e W' => EndsX (F x y) e ∧ Below W.heap.size W W') :
    Calls Tryz.prog 164 #[.agg #[.int .i64 ax, .int .i64 ay], .agg #[.int .i64 bx, .int .i64 by'], .func (.func g) #[] cap] w fun e w' => e = outS (eachR F ax ay bx by') ∧ Below w.heap.size w w' := by
  obtain ⟨W0, hW0⟩ : ∃ W0, ((w.alloc (.cells #[.int .i64 ax, .int .i64 ay] 28)).alloc (.cells #[.int .i64 bx, .int .i64 by'] 28)).alloc (.cells #[.func (.func g) #[] cap] 221) = W0 := ⟨_, rfl⟩
  have hz0 : W0.heap.size = w.heap.size + 3 := by rw [← hW0]; simp
  have hb0 : Below w.heap.size w W0 := by rw [← hW0]; exact (((Below.refl _ w).alloc (Nat.le_refl _) _).alloc (by simp) _).alloc (by simp <;> omega) _
  have p0 : W0.heap[w.heap.size]? = some (.cells #[.int .i64 ax, .int .i64 ay] 28 (0, 0)) := by
    rw [← hW0, Below.heap_alloc _ _ _ (by simp <;> omega), Below.heap_alloc _ _ _ (by simp)]; exact heap_alloc_new w _
  have p1 : W0.heap[w.heap.size + 1]? = some (.cells #[.int .i64 bx, .int .i64 by'] 28 (0, 0)) := by
    rw [← hW0, Below.heap_alloc _ _ _ (by simp)]
    simpa using heap_alloc_new (w.alloc (.cells #[.int .i64 ax, .int .i64 ay] 28)) (.cells #[.int .i64 bx, .int .i64 by'] 28)
  have p2 : W0.heap[w.heap.size + 1 + 1]? = some (.cells #[.func (.func g) #[] cap] 221 (0, 0)) := by
    rw [← hW0]
    simpa using heap_alloc_new ((w.alloc (.cells #[.int .i64 ax, .int .i64 ay] 28)).alloc (.cells #[.int .i64 bx, .int .i64 by'] 28)) (.cells #[.func (.func g) #[] cap] 221)
  obtain ⟨W1, hW1⟩ : ∃ W1, W0.alloc (.cells #[.int .i64 0, .int .i64 0] 28) = W1 := ⟨_, rfl⟩
  have hz : W1.heap.size = w.heap.size + 4 := by rw [← hW1]; simp; omega
  have hb01 : Below W0.heap.size W0 W1 := by rw [← hW1]; exact (Below.refl _ _).alloc (Nat.le_refl _) _
  have hb1 : Below w.heap.size w W1 := btrans hb0 (by omega) hb01
  have p3 : W1.heap[w.heap.size + 3]? = some (.cells #[.int .i64 0, .int .i64 0] 28 (0, 0)) := by
    rw [← hW1, ← hz0]; exact heap_alloc_new W0 _
  have HT := hid (triedS_any 194 #[.pointer (some ⟨w.heap.size, 0, none⟩), .pointer (some ⟨w.heap.size + 1, 0, none⟩), .pointer (some ⟨w.heap.size + 1 + 1, 0, none⟩)] (eachR F ax ay bx by') W1 (enters_of Tryz.func194 (by kernel_rfl) rfl) (fun W h =>
    have hh := hb01.trans (h.mono hb01.size)
    each194_any F g cap ax ay bx by' _ _ _ W hcf (fun x y hx hy hk U hU => hg x y hx hy hk U (hb1.trans (btrans (h.mono hb1.size) (by have := h.size; omega) hU))) ⟨bcs hh (by simp [World.cell?, p0]), bcs hh (by simp [World.cell?, p0]), bcs hh (by simp [World.cell?, p1]), bcs hh (by simp [World.cell?, p1]), bcs hh (by simp [World.cell?, p2])⟩))
  have HB := hid hb1
  have HW := hid (show (((w.alloc (.cells #[.int .i64 ax, .int .i64 ay] 28)).alloc (.cells #[.int .i64 bx, .int .i64 by'] 28)).alloc (.cells #[.func (.func g) #[] cap] 221)).alloc (.cells #[.int .i64 0, .int .i64 0] 28) = W1 by rw [hW0]; exact hW1)
  have HP := hid p3
  have hm := run_makeFunc
  clear hW0 hW1 hb0 hb1 p0 p1 p2 p3 hg hcf hz0 hb01 hz W0
  generalize eachR F ax ay bx by' = r at *
  obtain ⟨x, hx⟩ : ∃ x, (valS r).1 = x := ⟨_, rfl⟩
  obtain ⟨y, hy⟩ : ∃ y, (valS r).2 = y := ⟨_, rfl⟩
  obtain ⟨c, hc⟩ : ∃ c, errS r = c := ⟨_, rfl⟩
  rw [hx, hy, hc] at HT
  show Calls Tryz.prog 164 _ w fun e w' => e = .returned (.tuple #[.agg #[.int .i64 (valS r).1, .int .i64 (valS r).2], .int .i64 (errS r)]) ∧ _
  rw [hx, hy, hc]
  clear hx hy hc
  go_enter Tryz.func164, Tryz.ntmps164
  go_wp2_with fail
  rw [HW.out]
  clear HW
  refine HT.out.mono ?_
  rintro e w1 ⟨rfl, hb⟩
  have HP1 := hid ((hb.block (w.heap.size + 3) (Array.getElem?_eq_some_iff.1 HP.out).1).trans HP.out)
  obtain ⟨g0, g1, f0, f1⟩ := cells2 HP1.out
  have HB1 := hid (btrans HB.out (Nat.le_refl _) hb)
  clear hb HT HB HP
  go_wp2_with fail
  have hp := put2_same (.int .i64 x) (.int .i64 y) HP1.out
  have hb9 := (HB1.out.setCell (p := ⟨w.heap.size + 3, 0, none⟩) (by simp) (.int .i64 x)).setCell (p := ⟨w.heap.size + 3, 1, none⟩) (by simp) (.int .i64 y)
  generalize (w1.setCell ⟨w.heap.size + 3, 0, none⟩ (.int .i64 x)).setCell ⟨w.heap.size + 3, 1, none⟩ (.int .i64 y) = W9 at *
  refine bodyPost_ret (results_w2 rfl _ _ _ ⟨w.heap.size + 3, 0, none⟩ _ rfl (load28 W9 (w.heap.size + 3) (.int .i64 x) (.int .i64 y) (by simp [World.cell?, hp]) (by simp [World.cell?, hp]))) rfl ⟨rfl, hb9⟩
theorem plus142_any (ax ay bx by' : Int) (w : World) : Calls Tryz.prog 142 #[.agg #[.int .i64 ax, .int .i64 ay], .agg #[.int .i64 bx, .int .i64 by']] w fun e w' => e = outS (eachR addR ax ay bx by') ∧ Below w.heap.size w w' := by
  obtain ⟨W1, hW1⟩ : ∃ W1, ((w.alloc (.cells #[.int .i64 ax, .int .i64 ay] 28)).alloc (.cells #[.int .i64 bx, .int .i64 by'] 28)).alloc (.cells #[.int .i64 0, .int .i64 0] 28) = W1 := ⟨_, rfl⟩
  have hz : W1.heap.size = w.heap.size + 3 := by rw [← hW1]; simp
  have hb1 : Below w.heap.size w W1 := by rw [← hW1]; exact (((Below.refl _ w).alloc (Nat.le_refl _) _).alloc (by simp) _).alloc (by simp <;> omega) _
  have p0 : W1.heap[w.heap.size]? = some (.cells #[.int .i64 ax, .int .i64 ay] 28 (0, 0)) := by
    rw [← hW1, Below.heap_alloc _ _ _ (by simp <;> omega), Below.heap_alloc _ _ _ (by simp)]; exact heap_alloc_new w _
  have p1 : W1.heap[w.heap.size + 1]? = some (.cells #[.int .i64 bx, .int .i64 by'] 28 (0, 0)) := by
    rw [← hW1, Below.heap_alloc _ _ _ (by simp)]
    simpa using heap_alloc_new (w.alloc (.cells #[.int .i64 ax, .int .i64 ay] 28)) (.cells #[.int .i64 bx, .int .i64 by'] 28)
  have p2 : W1.heap[w.heap.size + 1 + 1]? = some (.cells #[.int .i64 0, .int .i64 0] 28 (0, 0)) := by
    rw [← hW1]
    simpa using heap_alloc_new ((w.alloc (.cells #[.int .i64 ax, .int .i64 ay] 28)).alloc (.cells #[.int .i64 bx, .int .i64 by'] 28)) (.cells #[.int .i64 0, .int .i64 0] 28)
  have HT := hid (each164_any addR 178 #[] ax ay bx by' W1 (enters_of Tryz.func178 (by kernel_rfl) rfl) (fun x y _ _ _ W _ => add_any x y W))
  obtain ⟨c0, c1, -, -⟩ := cells2 p0
  obtain ⟨c2, c3, -, -⟩ := cells2 p1
  have HB := hid hb1
  have HP := hid p2
  have HW := hid hW1
  clear hW1 hb1 p0 p1 p2 hz
  generalize eachR addR ax ay bx by' = r at *
  obtain ⟨x, hx⟩ : ∃ x, (valS r).1 = x := ⟨_, rfl⟩
  obtain ⟨y, hy⟩ : ∃ y, (valS r).2 = y := ⟨_, rfl⟩
  obtain ⟨c, hc⟩ : ∃ c, errS r = c := ⟨_, rfl⟩
  unfold outS at HT ⊢
  rw [hx, hy, hc] at HT
  rw [hx, hy, hc]
  clear hx hy hc
  go_enter Tryz.func142, Tryz.ntmps142
  go_upto_region 1 with fail
  rw [HW.out]
  clear HW
  go_wp2_with fail
  refine HT.out.mono ?_
  rintro e w1 ⟨rfl, hb⟩
  have HP1 := hid ((hb.block (w.heap.size + 1 + 1) (Array.getElem?_eq_some_iff.1 HP.out).1).trans HP.out)
  obtain ⟨g0, g1, f0, f1⟩ := cells2 HP1.out
  have HB1 := hid (btrans HB.out (Nat.le_refl _) hb)
  clear hb HT HB HP c0 c1 c2 c3
  go_wp2_with fail
  have hp := put2_same (.int .i64 x) (.int .i64 y) HP1.out
  have hb9 := (HB1.out.setCell (p := ⟨w.heap.size + 1 + 1, 0, none⟩) (by simp; omega) (.int .i64 x)).setCell (p := ⟨w.heap.size + 1 + 1, 1, none⟩) (by simp; omega) (.int .i64 y)
  generalize (w1.setCell ⟨w.heap.size + 1 + 1, 0, none⟩ (.int .i64 x)).setCell ⟨w.heap.size + 1 + 1, 1, none⟩ (.int .i64 y) = W9 at *
  refine bodyPost_ret (results_w2 rfl _ _ _ ⟨w.heap.size + 1 + 1, 0, none⟩ _ rfl (load28 W9 (w.heap.size + 1 + 1) (.int .i64 x) (.int .i64 y) (by simp [World.cell?, hp]) (by simp [World.cell?, hp]))) rfl ⟨rfl, hb9⟩
theorem minus135_any (ax ay bx by' : Int) (w : World) : Calls Tryz.prog 135 #[.agg #[.int .i64 ax, .int .i64 ay], .agg #[.int .i64 bx, .int .i64 by']] w fun e w' => e = outS (eachR subR ax ay bx by') ∧ Below w.heap.size w w' := by
  obtain ⟨W1, hW1⟩ : ∃ W1, ((w.alloc (.cells #[.int .i64 ax, .int .i64 ay] 28)).alloc (.cells #[.int .i64 bx, .int .i64 by'] 28)).alloc (.cells #[.int .i64 0, .int .i64 0] 28) = W1 := ⟨_, rfl⟩
  have hz : W1.heap.size = w.heap.size + 3 := by rw [← hW1]; simp
  have hb1 : Below w.heap.size w W1 := by rw [← hW1]; exact (((Below.refl _ w).alloc (Nat.le_refl _) _).alloc (by simp) _).alloc (by simp <;> omega) _
  have p0 : W1.heap[w.heap.size]? = some (.cells #[.int .i64 ax, .int .i64 ay] 28 (0, 0)) := by
    rw [← hW1, Below.heap_alloc _ _ _ (by simp <;> omega), Below.heap_alloc _ _ _ (by simp)]; exact heap_alloc_new w _
  have p1 : W1.heap[w.heap.size + 1]? = some (.cells #[.int .i64 bx, .int .i64 by'] 28 (0, 0)) := by
    rw [← hW1, Below.heap_alloc _ _ _ (by simp)]
    simpa using heap_alloc_new (w.alloc (.cells #[.int .i64 ax, .int .i64 ay] 28)) (.cells #[.int .i64 bx, .int .i64 by'] 28)
  have p2 : W1.heap[w.heap.size + 1 + 1]? = some (.cells #[.int .i64 0, .int .i64 0] 28 (0, 0)) := by
    rw [← hW1]
    simpa using heap_alloc_new ((w.alloc (.cells #[.int .i64 ax, .int .i64 ay] 28)).alloc (.cells #[.int .i64 bx, .int .i64 by'] 28)) (.cells #[.int .i64 0, .int .i64 0] 28)
  have HT := hid (each164_any subR 165 #[] ax ay bx by' W1 (enters_of Tryz.func165 (by kernel_rfl) rfl) (fun x y _ _ _ W _ => sub_any x y W))
  obtain ⟨c0, c1, -, -⟩ := cells2 p0
  obtain ⟨c2, c3, -, -⟩ := cells2 p1
  have HB := hid hb1
  have HP := hid p2
  have HW := hid hW1
  clear hW1 hb1 p0 p1 p2 hz
  generalize eachR subR ax ay bx by' = r at *
  obtain ⟨x, hx⟩ : ∃ x, (valS r).1 = x := ⟨_, rfl⟩
  obtain ⟨y, hy⟩ : ∃ y, (valS r).2 = y := ⟨_, rfl⟩
  obtain ⟨c, hc⟩ : ∃ c, errS r = c := ⟨_, rfl⟩
  unfold outS at HT ⊢
  rw [hx, hy, hc] at HT
  rw [hx, hy, hc]
  clear hx hy hc
  go_enter Tryz.func135, Tryz.ntmps135
  go_upto_region 1 with fail
  rw [HW.out]
  clear HW
  go_wp2_with fail
  refine HT.out.mono ?_
  rintro e w1 ⟨rfl, hb⟩
  have HP1 := hid ((hb.block (w.heap.size + 1 + 1) (Array.getElem?_eq_some_iff.1 HP.out).1).trans HP.out)
  obtain ⟨g0, g1, f0, f1⟩ := cells2 HP1.out
  have HB1 := hid (btrans HB.out (Nat.le_refl _) hb)
  clear hb HT HB HP c0 c1 c2 c3
  go_wp2_with fail
  have hp := put2_same (.int .i64 x) (.int .i64 y) HP1.out
  have hb9 := (HB1.out.setCell (p := ⟨w.heap.size + 1 + 1, 0, none⟩) (by simp; omega) (.int .i64 x)).setCell (p := ⟨w.heap.size + 1 + 1, 1, none⟩) (by simp; omega) (.int .i64 y)
  generalize (w1.setCell ⟨w.heap.size + 1 + 1, 0, none⟩ (.int .i64 x)).setCell ⟨w.heap.size + 1 + 1, 1, none⟩ (.int .i64 y) = W9 at *
  refine bodyPost_ret (results_w2 rfl _ _ _ ⟨w.heap.size + 1 + 1, 0, none⟩ _ rfl (load28 W9 (w.heap.size + 1 + 1) (.int .i64 x) (.int .i64 y) (by simp [World.cell?, hp]) (by simp [World.cell?, hp]))) rfl ⟨rfl, hb9⟩
end Go.Proofs.YtolnhicngepnnaaGreat
