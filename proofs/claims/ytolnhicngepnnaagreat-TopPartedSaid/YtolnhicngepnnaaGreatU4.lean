/- A tick over valid ice. -/
import Derived.Test.YtolnhicngepnnaaGreatU3
namespace Go.Proofs.YtolnhicngepnnaaGreat
open Go.RowKit

/-- Ice, as data. -/
structure IceD where
  cx : Int
  cy : Int
  sd : Int
  W : Int
  H : Int
  pl : List Int
  ql : List Int
/-- Grain, as data. -/
structure GrainD where
  fl : Int
  kn : Int
  a : Int
  b : Int
  c : Int
def IceD.ok (i : IceD) : Bool := iceOk i.cx i.cy i.sd i.W i.H i.pl i.ql
def GrainD.ok (g : GrainD) : Bool := grainOk g.fl g.kn g.a g.b g.c
def IceD.v (i : IceD) (pv qv : Value) : Value := iceV i.cx i.cy i.sd i.W i.H pv qv
def GrainD.v (g : GrainD) : Value := grainV g.fl g.kn g.a g.b g.c
def shV (i : IceD) (g : GrainD) (pv qv : Value) : Value := sheetV i.cx i.cy i.sd i.W i.H pv qv g.fl g.kn g.a g.b g.c
/-- The cells of ice are read here. -/
def IceAt (w : World) (i : IceD) (pv qv : Value) : Prop := SlI w pv i.pl ∧ SlI w qv i.ql
theorem IceAt.below {w w' : World} {i : IceD} {pv qv : Value} (h : IceAt w i pv qv) (hb : Below w.heap.size w w') : IceAt w' i pv qv := ⟨SlI.below h.1 hb, SlI.below h.2 hb⟩
def IceD.peb (i : IceD) (x y : Int) : Nat := (grR i.pl (x - i.cx) (y - i.cy) i.sd i.W i.H).toNat
def IceD.pol (i : IceD) (x y : Int) : Nat := (grR i.ql (x - i.cx) (y - i.cy) i.sd i.W i.H).toNat
def slowI (i : IceD) (g : GrainD) (x y : Int) : Nat := slowN g.fl.toNat g.kn.toNat g.a.toNat (i.peb x y) (i.pol x y)
def bendI (i : IceD) (g : GrainD) (x y : Int) : Nat := bendN g.b.toNat (i.pol x y)
def tickI (i : IceD) (g : GrainD) (str : Nat) (m : Mov) : Except Int Mov := tickR (slowI i g m.x m.y) (bendI i g m.x m.y) str m
theorem getD_ok {l : List Int} (h : okG l = true) (k : Nat) : 0 ≤ l.getD k 0 ∧ l.getD k 0 ≤ 1000 := by
  have hall : ∀ x ∈ l, inB x 0 1000 = true := by
    intro x hx
    simp only [okG, Bool.not_eq_true', List.any_eq_false] at h
    simpa using h x hx
  by_cases hk : k < l.length
  · have h1 := hall l[k] (List.getElem_mem _)
    have h2 : l.getD k 0 = l[k] := by simp [List.getD, hk]
    simp only [inB, Bool.and_eq_true, decide_eq_true_eq] at h1
    rw [h2]; omega
  · have h2 : l.getD k 0 = 0 := by simp [List.getD, hk]
    rw [h2]; omega
theorem grR_ok {l : List Int} (h : okG l = true) (x y sd W H : Int) : 0 ≤ grR l x y sd W H ∧ grR l x y sd W H ≤ 1000 := by
  unfold grR
  split
  · omega
  · exact getD_ok h _
theorem IceD.ok_g {i : IceD} (h : i.ok = true) : okG i.pl = true ∧ okG i.ql = true := by
  simp only [IceD.ok, iceOk, Bool.and_eq_true] at h
  exact ⟨h.2.2.2.2.2.2.1, h.2.2.2.2.2.2.2⟩
theorem GrainD.ok_b {g : GrainD} (h : g.ok = true) : (1 ≤ g.kn ∧ g.kn ≤ g.fl) ∧ g.fl ≤ 65536 ∧ (0 ≤ g.a ∧ g.a ≤ 1000) ∧ (0 ≤ g.b ∧ g.b ≤ 1000) ∧ 0 ≤ g.c ∧ g.c ≤ 1000 := by
  simp only [GrainD.ok, grainOk, inB, Bool.and_eq_true, decide_eq_true_eq] at h
  exact ⟨h.1, h.2.1, h.2.2.1, h.2.2.2.1, h.2.2.2.2⟩
theorem right_one {i : IceD} {g : GrainD} {x y : Int} (hi : i.ok = true) (hg : g.ok = true) (hs : spotOk x y = true) : rightR i.cx i.cy i.sd i.W i.H i.pl i.ql g.fl g.kn g.a g.b g.c [(x, y)] = true := by
  unfold rightR
  rw [show iceOk i.cx i.cy i.sd i.W i.H i.pl i.ql = true from hi, show grainOk g.fl g.kn g.a g.b g.c = true from hg]
  simp [placedR, hs]
theorem slow9_at (i : IceD) (g : GrainD) (pv qv : Value) (x y : Int) (w : World) (hi : i.ok = true) (hg : g.ok = true) (hs : spotOk x y = true) (hat : IceAt w i pv qv) :
    Calls Tryz.prog 9 #[i.v pv qv, g.v, .agg #[.int .i64 x, .int .i64 y]] w fun e w' => e = .returned (.tuple #[.int .i64 (slowI i g x y : Nat), .int .i64 0]) ∧ Below w.heap.size w w' := by
  have hR := right_one hi hg hs
  obtain ⟨g1, g2⟩ := i.ok_g hi
  obtain ⟨⟨k1, k2⟩, k3, ⟨k4, k5⟩, -⟩ := g.ok_b hg
  obtain ⟨p1, p2⟩ := grR_ok g1 (x - i.cx) (y - i.cy) i.sd i.W i.H
  obtain ⟨q1, q2⟩ := grR_ok g2 (x - i.cx) (y - i.cy) i.sd i.W i.H
  have e1 : (g.fl.toNat : Int) = g.fl := by omega
  have e2 : (g.kn.toNat : Int) = g.kn := by omega
  have e3 : (g.a.toNat : Int) = g.a := by omega
  have h := slow13_ok i.cx i.cy i.sd i.W i.H x y pv qv i.pl i.ql g.fl.toNat g.kn.toNat g.a.toNat g.b g.c (i.peb x y) (i.pol x y) w hat.1 hat.2 (by rw [e1, e2, e3]; exact hR) (by unfold IceD.peb; omega) (by unfold IceD.pol; omega) (by unfold IceD.peb; omega) (by unfold IceD.pol; omega)
  rw [e1, e2, e3] at h
  exact h
theorem bend155_at (i : IceD) (g : GrainD) (pv qv : Value) (x y : Int) (w : World) (hi : i.ok = true) (hg : g.ok = true) (hs : spotOk x y = true) (hat : IceAt w i pv qv) :
    Calls Tryz.prog 155 #[i.v pv qv, g.v, .agg #[.int .i64 x, .int .i64 y]] w fun e w' => e = .returned (.tuple #[.int .i64 (bendI i g x y : Nat), .int .i64 0]) ∧ Below w.heap.size w w' := by
  have hR := right_one hi hg hs
  obtain ⟨g1, g2⟩ := i.ok_g hi
  obtain ⟨⟨k1, k2⟩, k3, ⟨k4, k5⟩, ⟨k6, k7⟩, -⟩ := g.ok_b hg
  obtain ⟨p1, p2⟩ := grR_ok g1 (x - i.cx) (y - i.cy) i.sd i.W i.H
  obtain ⟨q1, q2⟩ := grR_ok g2 (x - i.cx) (y - i.cy) i.sd i.W i.H
  have e1 : (g.fl.toNat : Int) = g.fl := by omega
  have e2 : (g.kn.toNat : Int) = g.kn := by omega
  have e3 : (g.a.toNat : Int) = g.a := by omega
  have e4 : (g.b.toNat : Int) = g.b := by omega
  have h := bend155_ok i.cx i.cy i.sd i.W i.H x y pv qv i.pl i.ql g.fl.toNat g.kn.toNat g.a.toNat g.b.toNat g.c (i.peb x y) (i.pol x y) w hat.1 hat.2 (by rw [e1, e2, e3, e4]; exact hR) (by unfold IceD.peb; omega) (by unfold IceD.pol; omega) (by unfold IceD.peb; omega) (by unfold IceD.pol; omega)
  rw [e1, e2, e3, e4] at h
  exact h
theorem slowI_le (i : IceD) (g : GrainD) (x y : Int) (hg : g.ok = true) : slowI i g x y ≤ 65536 := by
  obtain ⟨-, k3, -⟩ := g.ok_b hg
  have := slowN_le g.fl.toNat g.kn.toNat g.a.toNat (i.peb x y) (i.pol x y) (by omega)
  unfold slowI; omega
theorem bendI_le (i : IceD) (g : GrainD) (x y : Int) (hg : g.ok = true) : bendI i g x y ≤ 65536 := by
  obtain ⟨-, -, -, k, -⟩ := g.ok_b hg
  exact bendN_le _ _ (by omega)
theorem mov_spot {m : Mov} (h : m.ok = true) : spotOk m.x m.y = true := by
  simp only [Mov.ok, movOk, Bool.and_eq_true] at h
  simp only [spotOk, Bool.and_eq_true]
  exact h.1
theorem tick113_at (i : IceD) (g : GrainD) (pv qv : Value) (m : Mov) (str : Nat) (w : World) (hi : i.ok = true) (hg : g.ok = true) (hm : m.ok = true) (hs : str ≤ 1000) (hat : IceAt w i pv qv) :
    Calls Tryz.prog 113 #[shV i g pv qv, m.v, .int .i64 (str : Int)] w fun e w' => EndsM (tickI i g str m) e ∧ Below w.heap.size w w' := by
  have H1 := fun U (hb : Below w.heap.size w U) => slow9_at i g pv qv m.x m.y U hi hg (mov_spot hm) (hat.below hb)
  have H4 := fun U (hb : Below w.heap.size w U) => bend155_at i g pv qv m.x m.y U hi hg (mov_spot hm) (hat.below hb)
  obtain ⟨h1, h2⟩ := hat
  obtain ⟨pa, pc, rfl, -, -⟩ := h1.open
  obtain ⟨qa, qc, rfl, -, -⟩ := h2.open
  exact tick113_any i.cx i.cy i.sd i.W i.H g.fl g.kn g.a g.b g.c pa qa i.pl.length pc i.ql.length qc m (slowI i g m.x m.y) (bendI i g m.x m.y) str hm hs (slowI_le i g _ _ hg) (bendI_le i g _ _ hg) w H1 H4
theorem strR_b {l : List Mach} (h : broomsOk l = true) (t : Int) : 0 ≤ strR l t ∧ strR l t ≤ 1000 := by
  have hall : ∀ x ∈ l, broomOk x = true := by
    intro x hx
    simp only [broomsOk, Bool.and_eq_true, Bool.not_eq_true', List.any_eq_false] at h
    simpa using h.2 x hx
  clear h
  unfold strR
  have key : ∀ (l : List Mach) (n : Int), (∀ x ∈ l, broomOk x = true) → 0 ≤ n → n ≤ 1000 → 0 ≤ l.foldl (strS t) n ∧ l.foldl (strS t) n ≤ 1000 := by
    intro l
    induction l with
    | nil => intro n _ h1 h2; exact ⟨h1, h2⟩
    | cons x l ih =>
      intro n hx h1 h2
      have hb := hx x (List.mem_cons_self ..)
      simp only [broomOk, inB, Bool.and_eq_true, decide_eq_true_eq] at hb
      rw [List.foldl_cons]
      refine ih _ (fun y hy => hx y (List.mem_cons_of_mem _ hy)) ?_ ?_
      · unfold strS; split <;> omega
      · unfold strS; split <;> omega
  exact key l 0 hall (by omega) (by omega)
theorem brooms_pow {l : List Mach} (h : broomsOk l = true) : ∀ b ∈ l, 0 ≤ b.power ∧ b.power ≤ 6000 := by
  intro x hx
  simp only [broomsOk, Bool.and_eq_true, Bool.not_eq_true', List.any_eq_false] at h
  have hb : broomOk x = true := by simpa using h.2 x hx
  simp only [broomOk, inB, Bool.and_eq_true, decide_eq_true_eq] at hb
  omega
end Go.Proofs.YtolnhicngepnnaaGreat
