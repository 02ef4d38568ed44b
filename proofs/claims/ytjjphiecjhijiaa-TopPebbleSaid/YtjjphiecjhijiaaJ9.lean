import Derived.Laws.EntriesVeiled
import Derived.Test.YtjjphiecjhijiaaJ8
namespace Go.Proofs.Ytjjphiecjhijiaa
open Go.RowKit Go.Maps Go.Shelf
attribute [local go_sem] Oper.semAt_some

theorem cells_isCells {w : World} {a : Addr} {v : Value} (h : w.cell? a = some v) {o : Obj} (ho : w.heap[a.block]? = some o) : o.isCells = true := by
  obtain ⟨o', h1, h2⟩ := cells_of_cell h
  rw [ho] at h1; cases h1; exact h2
theorem own_isCells {w : World} {base sz n : Nat} {e : TypeId} {v : Value} {xs : List Value} (h : w.ownsRow base e sz v n xs) {j : Nat} (hj : v.ownBlock = some j) {o : Obj} (ho : w.heap[j]? = some o) : o.isCells = true := by
  rcases h.2 with ⟨rfl, _⟩ | ⟨g, cap, cur, rfl, _, hh, _⟩
  · cases hj
  · obtain rfl : g = j := by simpa [Value.ownBlock] using hj
    rw [hh] at ho; cases ho; rfl
/-- What a round keeps. -/
def BR (lo hi : Nat) (W W' : World) : Prop := KeepsOthers W W' ∧ KpB lo hi W W'
theorem BR.refl (lo hi : Nat) (W : World) : BR lo hi W W := ⟨KeepsOthers.refl _, KpB.refl _ _ _⟩
theorem BR.trans {lo hi : Nat} {A B C : World} (h : BR lo hi A B) (k : BR lo hi B C) : BR lo hi A C := ⟨h.1.trans k.1, h.2.trans k.2⟩
theorem BR.fr {lo hi hb b2 base : Nat} {a : List Nat} {v : Value} {W W' : World} (h : HeapW W hb b2 base a v) (hf : FrB hb v.ownBlock W W') (h1 : hb < lo) (h2 : hi ≤ base) (h3 : hi ≤ W.heap.size) : BR lo hi W W' := by
  obtain ⟨c0, _, _, ho⟩ := h
  refine ⟨⟨hf.2.2.2.1, fun k o hk hc => ?_⟩, hf.2.2.2.1, fun k hk1 hk2 => ?_⟩
  · refine (hf.2.2.2.2 k (Array.getElem?_eq_some_iff.1 hk).1 ?_ ?_).trans hk
    · rintro rfl; rw [cells_isCells c0 hk] at hc; cases hc
    · intro e; rw [own_isCells ho e.symm hk] at hc; cases hc
  · refine hf.2.2.2.2 k (by omega) (by omega) ?_
    intro e
    have := (ho.lt k e.symm).1
    omega
theorem BR.set {lo hi g : Nat} (W : World) (h : g < lo) (j : Nat) (v : Value) : BR lo hi W (W.setCell ⟨g, j, none⟩ v) :=
  ⟨KeepsOthers.setCell _ _ _, by simp, fun k h1 _ => heap_setCell_other W ⟨g, j, none⟩ k v (by simp only; omega)⟩

theorem ownsRow_setCell_far {w : World} {base sz n g cap : Nat} {e : TypeId} {xs : List Value} (h : w.ownsRow base e sz (.slice (some ⟨g, 0, none⟩) n cap) n xs) {a : Addr} (ha : a.block ≠ g) (x : Value) : (w.setCell a x).ownsRow base e sz (.slice (some ⟨g, 0, none⟩) n cap) n xs := by
  refine ⟨h.1, ?_⟩
  rcases h.2 with h0 | ⟨g', cap', cur, h', hgb, hh, rest⟩
  · exact .inl h0
  · injection h' with h1 h2 h3
    injection h1 with h1
    injection h1 with h1 _ _
    subst h1; subst h3
    exact .inr ⟨g, cap, cur, rfl, hgb, (heap_setCell_other w a g x (Ne.symm ha)).trans hh, rest⟩
theorem own_form {w : World} {base sz n : Nat} {e : TypeId} {v : Value} {xs : List Value} (h : w.ownsRow base e sz v n xs) : ∃ ad cap, v = .slice ad n cap := by
  rcases h.2 with ⟨rfl, rfl⟩ | ⟨g, cap, cur, rfl, _⟩
  · exact ⟨none, 0, rfl⟩
  · exact ⟨_, _, rfl⟩
/-- plant.Plan at work: its variables from block B on, the plan's row O, its box T, the queue H. -/
structure PlW (B O T H hi : Nat) (l : List Mach) (c : Nat) (w : World) (o : List Int) (a : List Nat) (v : Value) (W : World) : Prop where
  hp : HeapW W H B hi a v
  jw : JobsW W B (B + 1) H l
  ho : HeapO (lessJ l) a
  crews : W.cell? ⟨B + 1, 0, none⟩ = some (.int .i64 (c : Int))
  out : W.cell? ⟨T, 0, none⟩ = some (.slice (some ⟨O, 0, none⟩) l.length l.length)
  row : W.ownsRow O 3 1 (.slice (some ⟨O, 0, none⟩) l.length l.length) l.length (o.map (.int .i64))
  r1 : W.cell? ⟨B + 2, 0, none⟩ = some (.slice none 0 0)
  r2 : W.cell? ⟨B + 3, 0, none⟩ = some (.int .i64 0)
  f1 : W.frozen? ⟨B + 2, 0, none⟩ = false
  f2 : W.frozen? ⟨B + 3, 0, none⟩ = false
  below : Below B w W
  sz : hi ≤ W.heap.size
theorem own_fr {hb base sz n : Nat} {e : TypeId} {r : Option Nat} {v : Value} {xs : List Value} {W W' : World} (h : W.ownsRow base e sz v n xs) (hf : FrB hb r W W') (h1 : v.ownBlock ≠ some hb) (h2 : v.ownBlock ≠ r) : W'.ownsRow base e sz v n xs := by
  refine ⟨h.1, ?_⟩
  rcases h.2 with h0 | ⟨g, cap, cur, rfl, hgb, hh, rest⟩
  · exact .inl h0
  · refine .inr ⟨g, cap, cur, rfl, hgb, ?_, rest⟩
    rw [hf.2.2.2.2 g (Array.getElem?_eq_some_iff.1 hh).1 (fun e => h1 (by rw [← e]; rfl)) (fun e => h2 e)]
    exact hh
theorem PlW.fr {B O T H hi c : Nat} {l : List Mach} {w W W' : World} {o : List Int} {a a' : List Nat} {v v' : Value} (h : PlW B O T H hi l c w o a v W) (hBO : B + 3 < O) (hOT : O < T) (hTH : T < H) (hOh : H < hi) (hBw : B ≤ w.heap.size) (hf : FrB H v.ownBlock W W') (hh : HeapW W' H B hi a' v') (ho : HeapO (lessJ l) a') : PlW B O T H hi l c w o a' v' W' := by
  have hr : ∀ k, v.ownBlock = some k → hi ≤ k := fun k e => (h.hp.2.2.2.lt k e).1
  have hne : ∀ k, k < hi → some k ≠ v.ownBlock := fun k hk e => by have := hr k e.symm; omega
  have fz : ∀ k j (x : Value), k < hi → k ≠ H → W.cell? ⟨k, j, none⟩ = some x → W'.frozen? ⟨k, j, none⟩ = W.frozen? ⟨k, j, none⟩ := fun k j x h1 h2 hc => World.frozen?_of_block (a := ⟨k, j, none⟩) (hf.2.2.2.2 k (cell_lt hc) h2 (hne k h1))
  refine ⟨hh, h.jw.frame hf (fun k e => by have := hr k e; omega), ho, hf.cell (hne _ (by omega)) (by omega) h.crews, hf.cell (hne _ (by omega)) (by omega) h.out, own_fr h.row hf (by simp [Value.ownBlock]; omega) (by have := hne O (by omega); exact this), hf.cell (hne _ (by omega)) (by omega) h.r1, hf.cell (hne _ (by omega)) (by omega) h.r2,
    (fz _ _ _ (by omega) (by omega) h.r1).trans h.f1, (fz _ _ _ (by omega) (by omega) h.r2).trans h.f2, ?_, Nat.le_trans h.sz hf.2.2.2.1⟩
  refine ⟨hf.1.trans h.below.os, hf.2.1.trans h.below.tape, hf.2.2.1.trans h.below.output, Nat.le_trans h.below.size hf.2.2.2.1, fun k hk => ?_⟩
  refine (hf.2.2.2.2 k (by have := h.below.size; omega) (by omega) (hne k (by omega))).trans (h.below.block k hk)
theorem PlW.store {B O T H hi c : Nat} {l : List Mach} {w W : World} {o : List Int} {a : List Nat} {v : Value} (h : PlW B O T H hi l c w o a v W) (hBO : B + 3 < O) (hOT : O < T) (hTH : T < H) (hOh : H < hi) (i : Nat) (t : Int)  : PlW B O T H hi l c w (o.set i t) a v (W.setCell ⟨O, i, none⟩ (.int .i64 t)) := by
  have ne : ∀ k j (x : Value), k ≠ O → W.cell? ⟨k, j, none⟩ = some x → (W.setCell ⟨O, i, none⟩ (.int .i64 t)).cell? ⟨k, j, none⟩ = some x := fun k j x hk hc => (World.cell?_setCell_other _ _ _ _ (by intro e; injection e with e; exact hk e.symm)).trans hc
  obtain ⟨p1, p2, p3, p4⟩ := h.hp
  have hj : JobsW (W.setCell ⟨O, i, none⟩ (.int .i64 t)) B (B + 1) H l := by
    obtain ⟨j1, j2, j0 | ⟨g, off, cap, j3, j4, j5, j6, j7⟩⟩ := h.jw
    · exact ⟨j1, j2, .inl j0⟩
    · exact ⟨j1, j2, .inr ⟨g, off, cap, ne _ _ _ (by omega) j3, j4, j5, j6, fun i hi => ne _ _ _ (by omega) (j7 i hi)⟩⟩
  refine ⟨⟨ne _ _ _ (by omega) p1, by simpa using p2, ne _ _ _ (by omega) p3, ?_⟩, hj, h.ho, ne _ _ _ (by omega) h.crews, ne _ _ _ (by omega) h.out, ?_, ne _ _ _ (by omega) h.r1, ne _ _ _ (by omega) h.r2, by simpa using h.f1, by simpa using h.f2, h.below.setCell (p := ⟨O, i, none⟩) (by simp only; omega) _, by simpa using h.sz⟩
  · exact ownsRow_setCell_below p4 (a := ⟨O, i, none⟩) (by simp only; omega) _
  · have := (World.ownsRow.stored h.row i (.int .i64 t)).1
    rwa [List.map_set]
theorem own_kept {w w' : World} {base sz n : Nat} {e : TypeId} {v : Value} {xs : List Value} {row : Option Nat} (h : w.ownsRow base e sz v n xs) (hg : w.grownBy w' row) (hr : ∀ r, row = some r → ∃ o : Obj, w.heap[r]? = some o ∧ o.isCells = false) : w'.ownsRow base e sz v n xs := by
  refine h.kept hg ?_
  cases hv : v.ownBlock with
  | none => exact .inl rfl
  | some j =>
    refine .inr (fun e => ?_)
    obtain ⟨o, ho, hc⟩ := hr j e.symm
    rw [own_isCells h hv ho] at hc; cases hc
theorem PlW.kept {B O T H hi c : Nat} {l : List Mach} {w W W' : World} {o : List Int} {a : List Nat} {v : Value} {row : Option Nat} (h : PlW B O T H hi l c w o a v W) (hBh : B ≤ hi) (hBw : B ≤ w.heap.size) (hg : W.grownBy W' row) (hr : ∀ r, row = some r → hi ≤ r ∧ ∃ o : Obj, W.heap[r]? = some o ∧ o.isCells = false) : PlW B O T H hi l c w o a v W' := by
  have hr' : ∀ r, row = some r → ∃ o : Obj, W.heap[r]? = some o ∧ o.isCells = false := fun r e => (hr r e).2
  obtain ⟨p1, p2, p3, p4⟩ := h.hp
  have hj : JobsW W' B (B + 1) H l := by
    obtain ⟨j1, j2, j0 | ⟨g, off, cap, j3, j4, j5, j6, j7⟩⟩ := h.jw
    · exact ⟨j1, j2, .inl j0⟩
    · exact ⟨j1, j2, .inr ⟨g, off, cap, cell_kept j3 hg hr', j4, j5, j6, fun i hi => cell_kept (j7 i hi) hg hr'⟩⟩
  exact ⟨⟨cell_kept p1 hg hr', (frozen_kept p1 hg hr').trans p2, cell_kept p3 hg hr', own_kept p4 hg hr'⟩, hj, h.ho,
    cell_kept h.crews hg hr', cell_kept h.out hg hr', own_kept h.row hg hr', cell_kept h.r1 hg hr', cell_kept h.r2 hg hr', (frozen_kept h.r1 hg hr').trans h.f1, (frozen_kept h.r2 hg hr').trans h.f2,
    h.below.grown hg (Nat.le_trans hBw h.below.size) (fun k e => Nat.le_trans hBh (hr k e).1), Nat.le_trans h.sz hg.size⟩
theorem GrpR.more {w : World} {lo hi bm : Nat} {G : Int → List Nat} {V : Int → Value} (h : GrpR w lo hi bm G V) (t : Int) : ∃ ad cap, V t = .slice ad (G t).length cap ∧ ∀ j, j < (G t).length → ∃ g, ad = some ⟨g, 0, none⟩ ∧ lo ≤ g ∧ g < hi ∧ w.cell? ⟨g, j, none⟩ = some (.int .i64 ((G t).getD j 0 : Nat)) := by
  rcases h.2.2.2.2 t with ⟨e, e2⟩ | ⟨g, cap, e, g1, g2, hc⟩
  · exact ⟨none, 0, by rw [e, e2]; rfl, fun j hj => by rw [e2] at hj; simp at hj⟩
  · refine ⟨_, _, e, fun j hj => ⟨g, rfl, g1, g2, ?_⟩⟩
    have := hc j (by rw [natsV_length]; exact hj)
    rw [Nat.zero_add] at this
    rw [this]
    simp [natsV, hj]
theorem JobsW.due {w : World} {b2 base hb x : Nat} {l : List Mach} (h : JobsW w b2 base hb l) (hx : x < l.length) : ∃ g off cap, w.cell? ⟨b2, 0, none⟩ = some (.slice (some ⟨g, off, none⟩) l.length cap) ∧ w.cell? ⟨g, off + x * 3 + 2, none⟩ = some (.int .i64 (due l x)) := by
  obtain ⟨j1, j2, j0 | ⟨g, off, cap, j3, j4, j5, j6, j7⟩⟩ := h
  · omega
  refine ⟨g, off, cap, j3, ?_⟩
  have hm := mach_cells_get l x hx 2 (by omega)
  have hlt := (List.getElem?_eq_some_iff.1 hm).1
  have := j7 (x * 3 + 2) hlt
  rw [show off + x * 3 + 2 = off + (x * 3 + 2) by omega, this]
  rw [List.getElem?_eq_getElem hlt] at hm
  rw [hm]
  simp [Mach.cells, Go.Proofs.Ytjjphiecjhijiaa.due, hx]
theorem JobsW.mono {w : World} {b2 base base' hb : Nat} {l : List Mach} (h : JobsW w b2 base hb l) (hb' : base ≤ base') : JobsW w b2 base' hb l := by
  obtain ⟨h1, h2, h0 | ⟨g, off, cap, h3, h4, h5, h6, h7⟩⟩ := h
  · exact ⟨by omega, h2, .inl h0⟩
  · exact ⟨by omega, h2, .inr ⟨g, off, cap, h3, h4, by omega, h6, h7⟩⟩
theorem cell_old {w : World} {o : Obj} {a : Addr} {v : Value} (h : w.cell? a = some v) : (w.alloc o).cell? a = some v := bcs ((Below.refl _ _).alloc (Nat.le_refl _) _) h
theorem cell_new (w : World) (cs : Array Value) (t : TypeId) (i : Nat) (v : Value) (h : cs[i]? = some v) : (w.alloc (.cells cs t)).cell? ⟨w.heap.size, i, none⟩ = some v := (World.cell?_alloc_new _ _ _ _).trans h
theorem make22 (w : World) (n : Nat) (hn : n ≤ 1000000) : ∃ w', (Instr.makeSlice 32 (.int .i64 (n : Int)) (.int .i64 (n : Int))).run Try.prog w = .ok (.slice (some ⟨w.heap.size, 0, none⟩) n n) w' ∧
    w'.ownsRow w.heap.size 3 1 (.slice (some ⟨w.heap.size, 0, none⟩) n n) n ((List.replicate n (0 : Int)).map (.int .i64)) ∧ w.grownBy w' none ∧ w.heap.size < w'.heap.size := by
  obtain ⟨i0, hi, hz0, hz1, hz2⟩ := info_parts info3
  obtain ⟨w', h1, h2, h3⟩ := run_makeSlice_full (P := Try.prog) (w := w) w.heap.size 32 3 i0 (.int .i64 0) 1 Try.underlying32 hi hz0 hz1 .i64 .i64 n (by omega) (by rw [hz2]; omega) (by unfold maxLen; omega) (Nat.le_refl _)
  refine ⟨w', h1, ?_, h3, (h2.lt _ rfl).2⟩
  have : (madeCells (Value.cells (.int .i64 0)) (n * 1)).toList = (List.replicate n (0 : Int)).map (.int .i64) := by
    apply List.ext_getElem
    · simp [madeCells]
    · intro i h1 h2
      simp [madeCells, Value.cells, Nat.mod_one]
  rw [← this]; exact h2

def planR (l : List Mach) (c : Int) : List Int × Int :=
  if askedE l c = 0 then (match planF l c.toNat with | some o => (o, 0) | none => ([], 7)) else ([], askedE l c)
def PlanPost (l : List Mach) (c : Int) (w : World) (e : Ending) (w' : World) : Prop :=
  (∃ r, e = .returned (.tuple #[r, .int .i64 (planR l c).2]) ∧ SlI w' r (planR l c).1) ∧ Below w.heap.size w w'
set_option maxRecDepth 100000 in
set_option maxHeartbeats 2000000 in
/-- plant.Plan -/
theorem plan_any (v : Value) (l : List Mach) (c : Int) (w : World) (hs : SlM w v l) (hb : ∀ j ∈ l, j.power ≤ 1000000) : Calls Try.prog 7 #[v, .int .i64 c] w (PlanPost l c w) := by
  have HS := hid hs
  have HA := hid (fun v w' (h : SlM w' v l) => asked_any v l c w' h hb)
  obtain ⟨a, cap, rfl, hll, hc⟩ := hs.open
  clear hs hb hc
  refine (callsIn_wide (n := 10)).1 ?_
  refine callsIn_of_wp_marks Try.func7 rfl trivial ?_ rfl
  simp only [Try.ntmps7, List.size_toArray, List.length_cons, List.length_nil, Nat.reduceAdd, Nat.reduceSub, Array.replicate_succ, Array.replicate_zero, List.push_toArray, List.append_toArray, List.nil_append, List.cons_append]
  gi_wp2_with fail
  refine ⟨trivial, ?_⟩
  obtain ⟨W4, hW4⟩ : ∃ W4, (((w.alloc (.cells #[.slice a l.length cap] 27)).alloc (.cells #[.int .i64 c] 3)).alloc (.cells #[.slice none 0 0] 32)).alloc (.cells #[.int .i64 0] 23) = W4 := ⟨_, rfl⟩
  rw [hW4]
  have hb4 : Below w.heap.size w W4 := by rw [← hW4]; exact ((((Below.refl _ _).alloc (Nat.le_refl _) _).alloc (by simp) _).alloc (by simp; omega) _).alloc (by simp; omega) _
  have hz4 : W4.heap.size = w.heap.size + 4 := by rw [← hW4]; simp
  have c0 : W4.cell? ⟨w.heap.size, 0, none⟩ = some (.slice a l.length cap) := by rw [← hW4]; exact cell_old (cell_old (cell_old (cell_new w _ _ 0 _ rfl)))
  have c1 : W4.cell? ⟨w.heap.size + 1, 0, none⟩ = some (.int .i64 c) := by
    rw [← hW4]; have := cell_new (w.alloc (.cells #[.slice a l.length cap] 27)) #[.int .i64 c] 3 0 _ rfl
    rw [World.size_alloc] at this; exact cell_old (cell_old this)
  have c2 : W4.cell? ⟨w.heap.size + 2, 0, none⟩ = some (.slice none 0 0) := by
    rw [← hW4]; have := cell_new ((w.alloc (.cells #[.slice a l.length cap] 27)).alloc (.cells #[.int .i64 c] 3)) #[.slice none 0 0] 32 0 _ rfl
    rw [World.size_alloc, World.size_alloc] at this; exact cell_old this
  have c3 : W4.cell? ⟨w.heap.size + 3, 0, none⟩ = some (.int .i64 0) := by
    rw [← hW4]; have := cell_new (((w.alloc (.cells #[.slice a l.length cap] 27)).alloc (.cells #[.int .i64 c] 3)).alloc (.cells #[.slice none 0 0] 32)) #[.int .i64 0] 23 0 _ rfl
    rw [World.size_alloc, World.size_alloc, World.size_alloc] at this; exact this
  have f2 : W4.frozen? ⟨w.heap.size + 2, 0, none⟩ = false := by
    rw [← hW4, World.frozen?_alloc_old _ _ _ (by simp)]; have := World.frozen?_alloc_new ((w.alloc (.cells #[.slice a l.length cap] 27)).alloc (.cells #[.int .i64 c] 3)) #[.slice none 0 0] 32 0
    rw [World.size_alloc, World.size_alloc] at this; exact this
  have f3 : W4.frozen? ⟨w.heap.size + 3, 0, none⟩ = false := by
    rw [← hW4]; have := World.frozen?_alloc_new (((w.alloc (.cells #[.slice a l.length cap] 27)).alloc (.cells #[.int .i64 c] 3)).alloc (.cells #[.slice none 0 0] 32)) #[.int .i64 0] 23 0
    rw [World.size_alloc, World.size_alloc, World.size_alloc] at this; exact this
  clear hW4
  refine (callsIn_wide.2 (HA.out _ W4 (HS.out.below hb4))).mono ?_
  rintro e W5 ⟨rfl, hb5⟩
  replace c0 := bcs hb5 c0
  replace c1 := bcs hb5 c1
  replace f2 : W5.frozen? ⟨w.heap.size + 2, 0, none⟩ = false := (hb5.frozen (p := ⟨w.heap.size + 2, 0, none⟩) (by simp only; omega)).trans f2
  replace f3 : W5.frozen? ⟨w.heap.size + 3, 0, none⟩ = false := (hb5.frozen (p := ⟨w.heap.size + 3, 0, none⟩) (by simp only; omega)).trans f3
  replace c2 := bcs hb5 c2
  replace c3 := bcs hb5 c3
  have hb5' : Below w.heap.size w W5 := hb4.trans (hb5.mono hb4.size)
  have hz5 : w.heap.size + 4 ≤ W5.heap.size := by have := hb5.size; omega
  have HB5 := hid hb5'
  have hR := hid (show planR l c = if askedE l c = 0 then (match planF l c.toNat with | some o => (o, 0) | none => ([], 7)) else ([], askedE l c) from rfl)
  have HAE := hid (show askedE l c = if jobsOk l then (if inB c 1 8 then 0 else 4) else 2 from rfl)
  clear hb4 hb5 hb5' hz4
  simp only [Nat.add_assoc, Nat.reduceAdd] at *
  generalize hE : askedE l c = E at *
  by_cases h0 : E = 0
  · subst h0
    have hjo : jobsOk l = true ∧ inB c 1 8 = true := by
      have := HAE.out
      by_cases h1 : jobsOk l = true
      · rw [if_pos h1] at this
        by_cases h2 : inB c 1 8 = true
        · exact ⟨h1, h2⟩
        · rw [if_neg h2] at this; omega
      · rw [if_neg h1] at this; omega
    have hll2 : l.length ≤ 200 := by
      have := hjo.1
      simp only [jobsOk, Bool.and_eq_true, decide_eq_true_eq] at this
      exact this.1
    have hc8 : 1 ≤ c ∧ c ≤ 8 := by
      have := hjo.2
      simpa [inB] using this
    obtain ⟨cn, rfl⟩ : ∃ cn : Nat, c = (cn : Int) := ⟨c.toNat, by omega⟩
    obtain ⟨w6, hmk, hown6, hg6, hz6⟩ := make22 W5 l.length (by omega)
    have hb6 : Below W5.heap.size W5 w6 := ⟨hg6.os, hg6.tape, hg6.output, hg6.size, fun k hk => hg6.block k hk (by simp)⟩
    have d0 := bcs hb6 c0
    have d1 := bcs hb6 c1
    have d2 := bcs hb6 c2
    have d3 := bcs hb6 c3
    have g2 : w6.frozen? ⟨w.heap.size + 2, 0, none⟩ = false := (hb6.frozen (p := ⟨w.heap.size + 2, 0, none⟩) (by simp only; omega)).trans f2
    have g3 : w6.frozen? ⟨w.heap.size + 3, 0, none⟩ = false := (hb6.frozen (p := ⟨w.heap.size + 3, 0, none⟩) (by simp only; omega)).trans f3
    have HB6 := hid (HB5.out.trans (hb6.mono HB5.out.size))
    have HO6 := hid hown6
    clear hown6 hg6 hb6 hjo
    obtain ⟨W8, hW8⟩ : ∃ W8, (w6.alloc (.cells #[.slice (some ⟨W5.heap.size, 0, none⟩) l.length l.length] 32)).alloc (.cells #[.slice none 0 0, .func (.func 19) #[] #[.pointer (some ⟨w.heap.size, 0, none⟩)]] 59) = W8 := ⟨_, rfl⟩
    have e0 : ((w6.alloc (.cells #[.slice (some ⟨W5.heap.size, 0, none⟩) l.length l.length] 32)).alloc (.cells #[.slice none 0 0, .func (.func 19) #[] #[.pointer (some ⟨w.heap.size, 0, none⟩)]] 59)).cell? ⟨w.heap.size, 0, none⟩ = some (.slice a l.length cap) := cell_old (cell_old d0)
    have HW8 := hid hW8
    clear hW8
    gi_wp2_with fail
    refine ⟨trivial, ?_⟩
    have hW8 := HW8.out
    clear HW8
    rw [hW8] at e0 ⊢
    have hb68 : Below w6.heap.size w6 W8 := by rw [← hW8]; exact ((Below.refl _ _).alloc (Nat.le_refl _) _).alloc (by simp) _
    have hz8 : W8.heap.size = w6.heap.size + 2 := by rw [← hW8]; simp
    have x0 : W8.cell? ⟨w6.heap.size, 0, none⟩ = some (.slice (some ⟨W5.heap.size, 0, none⟩) l.length l.length) := by rw [← hW8]; exact cell_old (cell_new w6 _ _ 0 _ rfl)
    have x1 : W8.cell? ⟨w6.heap.size + 1, 0, none⟩ = some (.slice none 0 0) := by
      rw [← hW8]; have := cell_new (w6.alloc (.cells #[.slice (some ⟨W5.heap.size, 0, none⟩) l.length l.length] 32)) #[.slice none 0 0, .func (.func 19) #[] #[.pointer (some ⟨w.heap.size, 0, none⟩)]] 59 0 _ rfl
      rw [World.size_alloc] at this; exact this
    have x2 : W8.cell? ⟨w6.heap.size + 1, 1, none⟩ = some (.func (.func 19) #[] #[.pointer (some ⟨w.heap.size, 0, none⟩)]) := by
      rw [← hW8]; have := cell_new (w6.alloc (.cells #[.slice (some ⟨W5.heap.size, 0, none⟩) l.length l.length] 32)) #[.slice none 0 0, .func (.func 19) #[] #[.pointer (some ⟨w.heap.size, 0, none⟩)]] 59 1 _ rfl
      rw [World.size_alloc] at this; exact this
    have xf : W8.frozen? ⟨w6.heap.size + 1, 0, none⟩ = false := by
      rw [← hW8]; have := World.frozen?_alloc_new (w6.alloc (.cells #[.slice (some ⟨W5.heap.size, 0, none⟩) l.length l.length] 32)) #[.slice none 0 0, .func (.func 19) #[] #[.pointer (some ⟨w.heap.size, 0, none⟩)]] 59 0
      rw [World.size_alloc] at this; exact this
    have hb8 : Below w.heap.size w W8 := HB6.out.trans (hb68.mono HB6.out.size)
    have HO8 := hid (own_below HO6.out hb68)
    replace d1 := bcs hb68 d1
    replace d2 := bcs hb68 d2
    replace d3 := bcs hb68 d3
    replace g2 : W8.frozen? ⟨w.heap.size + 2, 0, none⟩ = false := (hb68.frozen (p := ⟨w.heap.size + 2, 0, none⟩) (by simp only; omega)).trans g2
    replace g3 : W8.frozen? ⟨w.heap.size + 3, 0, none⟩ = false := (hb68.frozen (p := ⟨w.heap.size + 3, 0, none⟩) (by simp only; omega)).trans g3
    have hz8l : w6.heap.size + 2 ≤ W8.heap.size := by omega
    have HZ8 := hid hz8
    clear hW8 hz8
    generalize hO : W5.heap.size = O at *
    generalize hT : w6.heap.size = T at *
    clear hO hT c0 c1 c2 c3 f2 f3 d0 hb68 hmk HO6 HB6 HB5 HA
    refine (callsIn_wide.2 (slots_any _ l W8 (HS.out.below hb8) (by omega))).mono ?_
    rintro e W9 ⟨rfl, hbb, ⟨V, hG⟩, hz9, hb9⟩
    have e9 := bcs hb9 e0
    have d19 := bcs hb9 d1
    have hpl : PlW w.heap.size O T (T + 1) W9.heap.size l cn w (List.replicate l.length 0) [] (.slice none 0 0) W9 := by
      refine ⟨⟨bcs hb9 x1, (hb9.frozen (p := ⟨T + 1, 0, none⟩) (by simp only; omega)).trans xf, bcs hb9 x2, World.ownsRow_nil _ _ _ _⟩, ?_, ?_, bcs hb9 d1, bcs hb9 x0, own_below HO8.out hb9, bcs hb9 d2, bcs hb9 d3, (hb9.frozen (p := ⟨w.heap.size + 2, 0, none⟩) (by simp only; omega)).trans g2, (hb9.frozen (p := ⟨w.heap.size + 3, 0, none⟩) (by simp only; omega)).trans g3, hb8.trans (hb9.mono hb8.size), Nat.le_refl _⟩
      · refine ⟨by omega, by omega, ?_⟩
        obtain ⟨a', cap', he, hn', hcc⟩ := HS.out.below (hb8.trans (hb9.mono hb8.size))
        by_cases hl0 : l.length = 0
        · exact .inl hl0
        rcases hcc with h0 | ⟨b', off', e', hlt', hcc⟩
        · exact .inl h0
        · injection he with he1 he2 he3
          have hbw : b' < w.heap.size := by
            obtain ⟨a'', cap'', he', hn'', hcc''⟩ := HS.out
            injection he' with he1' he2' he3'
            rcases hcc'' with h0 | ⟨b'', off'', e'', hlt'', _⟩
            · omega
            · rw [← he1', he1, e'] at e''
              cases e''
              exact hlt''
          refine .inr ⟨b', off', cap, ?_, hn', by omega, by omega, hcc⟩
          rw [← e', ← he1]
          exact e9
      · intro j h0 hj
        simp at hj
    have HPL := hid hpl
    have HG := hid hG
    clear hpl hG e0 d1 d2 d3 g2 g3 x0 x1 x2 xf HO8 HS hb8
    gi_wp2_with fail
    refine wpIn_rangeFunc_ownF rfl (by omega) (gf := 34) (lb := #[.pointer (some ⟨W8.heap.size + 1, 0, none⟩)]) rfl trivial (enters_of Try.func34 (by kernel_rfl) rfl)
      (slots1_stops Fence.wide _ trivial rfl (by omega) (W8.heap.size + 1) W8.heap.size W8.heap.size W9.heap.size _ V W9 hbb (by omega) hz9 HG.out) (fun h k => h.trans k)
      (fun W lb o o' h1 h2 _ _ => ⟨by simp, fun k _ hk => World.putObj_heap_other (by omega)⟩) (Below.refl _ _) (fun _ => rfl)
      (fun pre W => ∃ q o a v, planS l cn (slotL pre) = some (q, o) ∧ a.Perm q ∧ PlW w.heap.size O T (T + 1) W9.heap.size l cn w o a v W ∧ GrpR W W8.heap.size W9.heap.size W8.heap.size (gF l l.length) V)
      (fun c pre W => c = .ret ∧ planS l cn (slotL pre) = none ∧ W.cell? ⟨w.heap.size + 2, 0, none⟩ = some (.slice none 0 0) ∧ W.cell? ⟨w.heap.size + 3, 0, none⟩ = some (.int .i64 7) ∧ Below w.heap.size w W)
      ?hI ?hIx ?h0 ?a1 ?assign ?body ?done ?stop
    case h0 => exact ⟨[], _, [], _, rfl, List.Perm.refl _, HPL.out, HG.out⟩
    case assign =>
      intro l x W K hK
      dsimp only [slotX]
      gi_wp2
      exact hK
    case hI =>
      rintro pre X Y row ⟨q, o, a2, v, hpS, hperm, hpl, hgr⟩ hg hr
      exact ⟨q, o, a2, v, hpS, hperm, hpl.kept (by omega) (Nat.le_refl _) hg hr, hgr.kept (Nat.le_trans hpl.sz hg.size) (fun k _ hk => hg.block k (by have := hpl.sz; omega) (fun e => by have := (hr k e.symm).1; omega))⟩
    case hIx =>
      rintro c pre X Y row ⟨e, hpS, h1, h2, h3⟩ hg hr
      exact ⟨e, hpS, cell_kept h1 hg (fun r e => (hr r e).2), cell_kept h2 hg (fun r e => (hr r e).2), h3.grown hg h3.size (fun k e => by have := (hr k e).1; omega)⟩
    case body => 
      rintro lx pre x W ⟨q, o, a2, v, hpS, hperm, hpl, hgr⟩ hlen
      obtain ⟨ad, capm, hV, hVc⟩ := hgr.more (x.1 : Int)
      have hok := planS_ok l cn pre q o hpS
      have hps := planS_snoc l cn pre x
      rw [hpS] at hps
      have HPS := hid hps
      have HOK := hid hok
      have HPL := hid hpl
      have HPM := hid hperm
      have HGR := hid hgr
      have HVC := hid hVc
      have hxt := x.2
      have hgl := gF_length l l.length (x.1 : Int)
      have hgm : ∀ j, j < (gF l l.length (x.1 : Int)).length → (gF l l.length (x.1 : Int)).getD j 0 < l.length := by
        intro j hj
        refine (gF_mem (n := l.length) (l := l) (k := (x.1 : Int)) (i := (gF l l.length (x.1 : Int)).getD j 0) ?_).1
        rw [List.getD_eq_getElem?_getD, List.getElem?_eq_getElem hj]
        exact List.getElem_mem _
      have HGM := hid hgm
      have HGM2 := hid (show ∀ y ∈ gF l l.length (x.1 : Int), y < l.length from fun y hy => (gF_mem hy).1)
      have HMUL := hid (show pre.length * l.length ≤ 500 * 200 from Nat.mul_le_mul (by omega) hll2)
      generalize hGt : gF l l.length (x.1 : Int) = Gt at *
      have HGT := hid hGt
      rw [hV]
      clear hpS hps hok hpl hperm hgr hVc hV hgm hGt
      gi_wp2_with fail
      gi_loopw [32] (fun i wr => ∃ (k : Nat) (a' : List Nat) (v' : Value), k ≤ Gt.length ∧ i = .int .i64 k ∧ a'.Perm (q ++ Gt.take k) ∧ PlW w.heap.size O T (T + 1) W9.heap.size l cn w o a' v' wr ∧ BR W8.heap.size W9.heap.size W wr) (fun i _ => Gt.length - (intOf i).toNat)
      case atStart => exact ⟨0, a2, v, Nat.zero_le _, rfl, by simpa using HPM.out, HPL.out, BR.refl _ _ _⟩
      case round =>
        obtain ⟨k, a', v', hk, rfl, hperm, hpl, hbr⟩ := hrel
        obtain ⟨w1, rfl⟩ : ∃ w1 : World, w1 = wr := ⟨_, rfl⟩
        have HPL1 := hid hpl
        have HPM1 := hid hperm
        have HBR := hid hbr
        by_cases hlt : k < Gt.length
        · obtain ⟨g, rfl, hg1, hg2, hgc⟩ := HVC.out k hlt
          have hx0 : w1.cell? ⟨g, k, none⟩ = some (.int .i64 (Gt.getD k 0 : Nat)) := (World.cell?_of_block (a := ⟨g, k, none⟩) (hbr.2.2 g hg1 hg2)).trans hgc
          have hi0 : (0 : Int) ≤ (k : Int) := by omega
          have hi1 : (k : Int) < (Gt.length : Int) := by omega
          have hxl := HGM.out k hlt
          clear hgc hpl hperm hbr
          generalize hy : Gt.getD k 0 = y at *
          have HY := hid hy
          clear hy
          gi_wp2_with fail
          refine ⟨trivial, ?_⟩
          refine (CallsIn.inRound lx (callsIn_wide.2 (put_any (T + 1) w.heap.size W9.heap.size y a' v' l w1 HPL1.out.hp (HPL1.out.jw.mono (by omega)) (by omega) HPL1.out.sz HPL1.out.ho (fun z hz => ?_) hxl ?_))).mono ?_
          · rcases List.mem_append.1 (HPM1.out.mem_iff.1 hz) with hz | hz
            · exact HOK.out.1 z hz
            · exact HGM2.out z (List.mem_of_mem_take hz)
          · have h1 := HPM1.out.length_eq
            rw [List.length_append, List.length_take] at h1
            have h2 := HOK.out.2.1
            have h3 := HMUL.out
            omega
          rintro e w2 ⟨rfl, a3, v3, hp3, ho3, hh3, hf3⟩
          have H3 := hid (HPL1.out.fr (by omega) (by omega) (by omega) (by omega) (Nat.le_refl _) hf3 hh3 ho3)
          have HB3 := hid (HBR.out.trans (BR.fr HPL1.out.hp hf3 (by omega) (Nat.le_refl _) HPL1.out.sz))
          have HP3 := hid hp3
          clear hp3 ho3 hh3 hf3
          gi_wp2_with fail
          refine ⟨⟨k + 1, a3, v3, by omega, by go_num, ?_, H3.out, HB3.out⟩, by simp [intOf]; omega⟩
          have e1 : Gt.take (k + 1) = Gt.take k ++ [y] := by
            rw [List.take_succ_eq_append_getElem hlt, ← HY.out]; simp [hlt]
          rw [e1, ← List.append_assoc]
          exact HP3.out.trans (HPM1.out.append_right [y])
        · obtain rfl : k = Gt.length := by omega
          have HQ1 := hid (show a'.Perm (q ++ Gt) by simpa using hperm)
          have hokq : QOk l (500 * 200 + 200) (q ++ Gt) o := by
            refine ⟨fun y hy => ?_, ?_, HOK.out.2.2⟩
            · rcases List.mem_append.1 hy with hy | hy
              · exact HOK.out.1 y hy
              · exact HGM2.out y hy
            · have := HOK.out.2.1
              have := HMUL.out
              rw [List.length_append]; omega
          have HOKQ := hid hokq
          have HPS2 := hid (show planS l cn (slotL (pre ++ [x])) = takeC l (x.1 : Int) cn (q ++ Gt) o by rw [HPS.out, ← HGT.out]; rfl)
          clear hpl hperm hbr hokq HPS
          generalize q ++ Gt = q1 at *
          gi_wp2_with fail
          gi_loopw [13] (fun i wr => ∃ (k : Nat) (q2 : List Nat) (o2 : List Int) (a2 : List Nat) (v2 : Value), k ≤ cn ∧ i = .int .i64 k ∧ a2.Perm q2 ∧ takeC l (x.1 : Int) (cn - k) q2 o2 = takeC l (x.1 : Int) cn q1 o ∧ QOk l (500 * 200 + 200) q2 o2 ∧ PlW w.heap.size O T (T + 1) W9.heap.size l cn w o2 a2 v2 wr ∧ BR W8.heap.size W9.heap.size W wr) (fun i _ => cn - (intOf i).toNat)
          case atStart => exact ⟨0, q1, o, a', v', Nat.zero_le _, rfl, HQ1.out, rfl, HOKQ.out, HPL1.out, HBR.out⟩
          case round =>
            obtain ⟨k, q2, o2, a3, v3, hk, rfl, hperm, htk, hok, hpl, hbr⟩ := hrel
            obtain ⟨w2, rfl⟩ : ∃ w2 : World, w2 = wr := ⟨_, rfl⟩
            have HPL2 := hid hpl
            have HPM2 := hid hperm
            have HTK := hid htk
            have HOK2 := hid hok
            have HBR2 := hid hbr
            obtain ⟨ad3, cap3, rfl⟩ := own_form hpl.hp.2.2.2
            have p1 := hpl.hp.1
            have p2 := hpl.crews
            clear hpl hperm htk hok hbr
            by_cases hlt : k < cn
            · have hlt' : decide ((k : Int) < (cn : Int)) = true := by simp only [decide_eq_true_eq]; omega
              by_cases h0 : a3.length = 0
              · have hz : decide ((a3.length : Int) > 0) = false := by rw [h0]; rfl
                have HEND := hid (show planS l cn (slotL (pre ++ [x])) = some (q2, o2) by
                  have hq0 : q2 = [] := List.length_eq_zero_iff.1 (by rw [← HPM2.out.length_eq]; exact h0)
                  rw [HPS2.out, ← HTK.out, hq0, takeC_nil])
                gi_wp2_with fail
                exact ⟨HBR2.out.1, HBR2.out.2, q2, o2, a3, _, HEND.out, HPM2.out, HPL2.out, HGR.out.kp HBR2.out.2⟩
              · have hz : decide ((a3.length : Int) > 0) = true := by simp only [decide_eq_true_eq]; omega
                gi_wp2_with fail
                refine ⟨trivial, ?_⟩
                refine (CallsIn.inRound lx (callsIn_wide.2 (take_any (T + 1) w.heap.size W9.heap.size a3 _ l w2 HPL2.out.hp (HPL2.out.jw.mono (by omega)) (by omega) HPL2.out.sz HPL2.out.ho (fun z hz => HOK2.out.1 z (HPM2.out.mem_iff.1 hz)) (by omega) ?_))).mono ?_
                · have h1 := HPM2.out.length_eq
                  have h2 := HOK2.out.2.1
                  omega
                rintro e w3 ⟨rfl, a4, v4, hp4, ho4, hh4, hf4⟩
                obtain ⟨hm1, hm2⟩ := heap_min l HPL2.out.ho HPM2.out (by omega)
                have hqne : q2 ≠ [] := by
                  rintro rfl
                  have := HPM2.out.length_eq
                  simp at this; exact h0 (by rw [this]; rfl)
                have hml : minJ l q2 < l.length := HOK2.out.1 _ (minJ_mem l hqne)
                rw [hm1]
                have H4 := hid (HPL2.out.fr (by omega) (by omega) (by omega) (by omega) (Nat.le_refl _) hf4 hh4 ho4)
                have HB4 := hid (HBR2.out.trans (BR.fr HPL2.out.hp hf4 (by omega) (Nat.le_refl _) HPL2.out.sz))
                have HP4 := hid (hp4.trans hm2)
                obtain ⟨g, off, cap5, hj1, hj2⟩ := H4.out.jw.due hml
                have hout := H4.out.out
                have hr1 := H4.out.r1
                have hr2 := H4.out.r2
                have hf1 := H4.out.f1
                have hf2 := H4.out.f2
                have hrowc := H4.out.row
                have hof := hrowc.frozenAt (minJ l q2)
                have hoc : w3.cell? ⟨O, minJ l q2, none⟩ = some (.int .i64 (o2.getD (minJ l q2) 0)) := by
                  have hol := HOK2.out.2.2
                  rw [hrowc.cellAt (minJ l q2) (by omega)]
                  simp [show minJ l q2 < o2.length by omega]
                have hTS : takeC l (x.1 : Int) (cn - k) q2 o2 = if due l (minJ l q2) ≤ (x.1 : Int) then none else takeC l (x.1 : Int) (cn - (k + 1)) (q2.erase (minJ l q2)) (o2.set (minJ l q2) (x.1 : Int)) := by
                  rw [show cn - k = (cn - (k + 1)) + 1 by omega, takeC, if_neg hqne]
                have HTS1 := hid (show due l (minJ l q2) ≤ (x.1 : Int) → takeC l (x.1 : Int) (cn - k) q2 o2 = none from fun h => by rw [hTS, if_pos h])
                have HTS2 := hid (show ¬ due l (minJ l q2) ≤ (x.1 : Int) → takeC l (x.1 : Int) (cn - k) q2 o2 = takeC l (x.1 : Int) (cn - (k + 1)) (q2.erase (minJ l q2)) (o2.set (minJ l q2) (x.1 : Int)) from fun h => by rw [hTS, if_neg h])
                clear hTS
                have hi0 : (0 : Int) ≤ (minJ l q2 : Int) := by omega
                have hi1 : (minJ l q2 : Int) < (l.length : Int) := by omega
                clear hp4 ho4 hh4 hf4 hm1 hm2 hrowc p1 p2
                generalize hmm : minJ l q2 = m at *
                have HMM := hid hmm
                generalize hdd : due l m = d at *
                clear hmm hdd
                by_cases hd : d ≤ (x.1 : Int)
                · have hd' : decide (d ≤ (x.1 : Int)) = true := by simp [hd]
                  have HTN := hid (show planS l cn (slotL (pre ++ [x])) = none by rw [HPS2.out, ← HTK.out, HTS1.out hd])
                  gi_wp2_with fail
                  refine ⟨(HB4.out.1.trans (KeepsOthers.setCell _ _ _)).trans (KeepsOthers.setCell _ _ _), rfl, HTN.out, ?_, ?_, ?_⟩
                  · exact (World.cell?_setCell_other _ _ _ _ (by simp)).trans (World.cell?_setCell_same _ _ _ hr1)
                  · exact World.cell?_setCell_same _ _ _ ((World.cell?_setCell_other _ _ _ _ (by simp)).trans hr2)
                  · exact (H4.out.below.setCell (p := ⟨w.heap.size + 2, 0, none⟩) (by simp) _).setCell (p := ⟨w.heap.size + 3, 0, none⟩) (by simp) _
                · have hd' : decide (d ≤ (x.1 : Int)) = false := by simp [hd]
                  have HTN := hid (show takeC l (x.1 : Int) (cn - (k + 1)) (q2.erase m) (o2.set m (x.1 : Int)) = takeC l (x.1 : Int) cn q1 o by rw [← HTK.out, HTS2.out hd])
                  gi_wp2_with fail
                  refine ⟨⟨k + 1, _, _, a4, v4, by omega, by go_num, HP4.out, HTN.out, ?_, H4.out.store (by omega) (by omega) (by omega) (by omega) m _, HB4.out.trans (BR.set _ (by omega) _ _)⟩, by simp [intOf]; omega⟩
                  refine ⟨fun y hy => HOK2.out.1 y (List.mem_of_mem_erase hy), ?_, by simpa using HOK2.out.2.2⟩
                  have := List.length_erase_le (a := m) (l := q2)
                  have := HOK2.out.2.1
                  omega
            · have hlt' : decide ((k : Int) < (cn : Int)) = false := by simp only [decide_eq_false_iff_not]; omega
              have HEND := hid (show planS l cn (slotL (pre ++ [x])) = some (q2, o2) by
                rw [HPS2.out, ← HTK.out, show cn - k = 0 by omega]; rfl)
              gi_wp2_with fail
              exact ⟨HBR2.out.1, HBR2.out.2, q2, o2, a3, _, HEND.out, HPM2.out, HPL2.out, HGR.out.kp HBR2.out.2⟩
    case done =>
      rintro D xs W hD rfl ⟨q, o, a2, v, hpS, hperm, hpl, hgr⟩ hK
      obtain ⟨ad, cap2, rfl⟩ := own_form hpl.hp.2.2.2
      have p1 := hpl.hp.1
      have p2 := hpl.r1
      have p3 := hpl.r2
      have p4 := hpl.f1
      have p5 := hpl.f2
      have p6 := hpl.out
      have hPF : planF l cn = if q = [] then some o else none := by unfold planF; rw [hpS]
      have HPF := hid hPF
      have HP := hid hpl
      have hq := hperm.length_eq
      have HD := hid hK
      clear hpS hpl hgr hPF hperm
      by_cases h0 : a2.length = 0
      · have hq0 : q = [] := List.length_eq_zero_iff.1 (by omega)
        have hz : decide ((a2.length : Int) > 0) = false := by rw [h0]; rfl
        rw [if_pos hq0] at HPF
        clear hq0 hq
        gi_wp2_with fail
        have hK1 : (W.setCell ⟨w.heap.size + 2, 0, none⟩ (.slice (some ⟨O, 0, none⟩) l.length l.length)).heap[D]? = some (.deferred (some [])) := (KeepsOthers.setCell W _ _).same D _ HD.out rfl
        have hK2 : ((W.setCell ⟨w.heap.size + 2, 0, none⟩ (.slice (some ⟨O, 0, none⟩) l.length l.length)).setCell ⟨w.heap.size + 3, 0, none⟩ (.int .i64 0)).heap[D]? = some (.deferred (some [])) := (KeepsOthers.setCell _ _ _).same D _ hK1 rfl
        refine ⟨by simp, .inl ⟨_, _, rfl, run_takeDeferred hK2, ?_⟩⟩
        have k1 := cell_kept ((World.cell?_setCell_other _ _ _ _ (by simp)).trans (World.cell?_setCell_same W ⟨w.heap.size + 2, 0, none⟩ (.slice (some ⟨O, 0, none⟩) l.length l.length) p2)) (grownBy_putObj' ((W.setCell ⟨w.heap.size + 2, 0, none⟩ (.slice (some ⟨O, 0, none⟩) l.length l.length)).setCell ⟨w.heap.size + 3, 0, none⟩ (.int .i64 0)) D (.deferred none)) (fun r e => by cases e; exact ⟨_, hK2, rfl⟩)
        have k2 := cell_kept (World.cell?_setCell_same (W.setCell ⟨w.heap.size + 2, 0, none⟩ (.slice (some ⟨O, 0, none⟩) l.length l.length)) ⟨w.heap.size + 3, 0, none⟩ (.int .i64 0) ((World.cell?_setCell_other _ _ _ _ (by simp)).trans p3)) (grownBy_putObj' _ D (.deferred none)) (fun r e => by cases e; exact ⟨_, hK2, rfl⟩)
        have hb3 := ((HP.out.below.setCell (p := ⟨w.heap.size + 2, 0, none⟩) (by simp) (.slice (some ⟨O, 0, none⟩) l.length l.length)).setCell (p := ⟨w.heap.size + 3, 0, none⟩) (by simp) (.int .i64 0)).trans (belowK_b (w := w) (Nat.le_refl _) _ D _ (.deferred none) (by omega) hK2 rfl rfl)
        have hPR : planR l (cn : Int) = (o, 0) := by rw [hR, if_pos trivial, show ((cn : Int)).toNat = cn from rfl, HPF.out]
        have hrow := own_kept (ownsRow_setCell_far (ownsRow_setCell_far HP.out.row (a := ⟨w.heap.size + 2, 0, none⟩) (by simp; omega) (.slice (some ⟨O, 0, none⟩) l.length l.length)) (a := ⟨w.heap.size + 3, 0, none⟩) (by simp; omega) (.int .i64 0)) (grownBy_putObj' _ D (.deferred none)) (fun r e => by cases e; exact ⟨_, hK2, rfl⟩)
        have hsl := own_SlI hrow (by have h1 := hrow.1; simp at h1; omega)
        exact ⟨.tuple #[(.slice (some ⟨O, 0, none⟩) l.length l.length), .int .i64 0], by simp [results, Try.results7, go_sem, k1, k2], ⟨⟨_, by rw [hPR], by rw [hPR]; exact hsl⟩, hb3⟩⟩
      · have hq0 : ¬ q = [] := fun e => h0 (by rw [hq, e]; rfl)
        have hz : decide ((a2.length : Int) > 0) = true := by simp only [decide_eq_true_eq]; omega
        rw [if_neg hq0] at HPF
        clear hq0 hq
        gi_wp2_with fail
        have hK1 : (W.setCell ⟨w.heap.size + 2, 0, none⟩ (.slice none 0 0)).heap[D]? = some (.deferred (some [])) := (KeepsOthers.setCell W _ _).same D _ HD.out rfl
        have hK2 : ((W.setCell ⟨w.heap.size + 2, 0, none⟩ (.slice none 0 0)).setCell ⟨w.heap.size + 3, 0, none⟩ (.int .i64 7)).heap[D]? = some (.deferred (some [])) := (KeepsOthers.setCell _ _ _).same D _ hK1 rfl
        refine ⟨by simp, .inl ⟨_, _, rfl, run_takeDeferred hK2, ?_⟩⟩
        have k1 := cell_kept ((World.cell?_setCell_other _ _ _ _ (by simp)).trans (World.cell?_setCell_same W ⟨w.heap.size + 2, 0, none⟩ (.slice none 0 0) p2)) (grownBy_putObj' ((W.setCell ⟨w.heap.size + 2, 0, none⟩ (.slice none 0 0)).setCell ⟨w.heap.size + 3, 0, none⟩ (.int .i64 7)) D (.deferred none)) (fun r e => by cases e; exact ⟨_, hK2, rfl⟩)
        have k2 := cell_kept (World.cell?_setCell_same (W.setCell ⟨w.heap.size + 2, 0, none⟩ (.slice none 0 0)) ⟨w.heap.size + 3, 0, none⟩ (.int .i64 7) ((World.cell?_setCell_other _ _ _ _ (by simp)).trans p3)) (grownBy_putObj' _ D (.deferred none)) (fun r e => by cases e; exact ⟨_, hK2, rfl⟩)
        have hb3 := ((HP.out.below.setCell (p := ⟨w.heap.size + 2, 0, none⟩) (by simp) (.slice none 0 0)).setCell (p := ⟨w.heap.size + 3, 0, none⟩) (by simp) (.int .i64 7)).trans (belowK_b (w := w) (Nat.le_refl _) _ D _ (.deferred none) (by omega) hK2 rfl rfl)
        have hPR : planR l (cn : Int) = ([], 7) := by rw [hR, if_pos trivial, show ((cn : Int)).toNat = cn from rfl, HPF.out]
        have hsl : ∀ W', SlI W' (.slice none 0 0) [] := fun W' => ⟨none, 0, rfl, by simp, .inl rfl⟩
        exact ⟨.tuple #[(.slice none 0 0), .int .i64 7], by simp [results, Try.results7, go_sem, k1, k2], ⟨⟨_, by rw [hPR], by rw [hPR]; exact hsl _⟩, hb3⟩⟩
    case stop =>
      rintro D c pre W hD hSp ⟨rfl, hn, h1, h2, h3⟩ hK
      have k1 := cell_kept h1 (grownBy_putObj' W D (.deferred none)) (fun r e => by cases e; exact ⟨_, hK, rfl⟩)
      have k2 := cell_kept h2 (grownBy_putObj' W D (.deferred none)) (fun r e => by cases e; exact ⟨_, hK, rfl⟩)
      have hb3 := h3.trans (belowK_b (w := w) (Nat.le_refl _) W D _ (.deferred none) (by omega) hK rfl rfl)
      have hPF : planF l cn = none := by unfold planF; rw [planS_prefix l cn hSp hn]
      have hPF2 : planR l (cn : Int) = ([], 7) := by
        rw [hR, if_pos trivial, show ((cn : Int)).toNat = cn from rfl, hPF]
      have HPF2 := hid hPF2
      clear hPF hPF2 hR
      gi_wp2_with fail
      refine ⟨by simp, .inl ⟨_, _, rfl, run_takeDeferred hK, ?_⟩⟩
      exact ⟨.tuple #[.slice none 0 0, .int .i64 7], by simp [results, Try.results7, go_sem, k1, k2], ⟨⟨_, by rw [HPF2.out], by rw [HPF2.out]; exact ⟨none, 0, rfl, by simp, .inl rfl⟩⟩, hb3⟩⟩
  · have hE1 : (E == 0) = false := by simpa using h0
    have hE2 : (E != 0) = true := by simpa using h0
    gi_wp2_with fail
    rw [if_neg h0] at hR
    have k2 : ((W5.setCell ⟨w.heap.size + 2, 0, none⟩ (.slice none 0 0)).setCell ⟨w.heap.size + 3, 0, none⟩ (.int .i64 E)).cell? ⟨w.heap.size + 2, 0, none⟩ = some (.slice none 0 0) := by
      rw [World.cell?_setCell_other _ _ _ _ (by simp)]; exact World.cell?_setCell_same _ _ _ c2
    have k3 : ((W5.setCell ⟨w.heap.size + 2, 0, none⟩ (.slice none 0 0)).setCell ⟨w.heap.size + 3, 0, none⟩ (.int .i64 E)).cell? ⟨w.heap.size + 3, 0, none⟩ = some (.int .i64 E) := by
      exact World.cell?_setCell_same _ _ _ ((World.cell?_setCell_other _ _ _ _ (by simp)).trans c3)
    have hbw : Below w.heap.size w ((W5.setCell ⟨w.heap.size + 2, 0, none⟩ (.slice none 0 0)).setCell ⟨w.heap.size + 3, 0, none⟩ (.int .i64 E)) :=
      (HB5.out.setCell (p := ⟨w.heap.size + 2, 0, none⟩) (by simp) _).setCell (p := ⟨w.heap.size + 3, 0, none⟩) (by simp) _
    generalize ((W5.setCell ⟨w.heap.size + 2, 0, none⟩ (.slice none 0 0)).setCell ⟨w.heap.size + 3, 0, none⟩ (.int .i64 E)) = W6 at *
    exact ⟨.tuple #[.slice none 0 0, .int .i64 E], by simp [results, Try.results7, go_sem, k2, k3], ⟨⟨_, by rw [hR], by rw [hR]; exact ⟨none, 0, rfl, by simp, .inl rfl⟩⟩, hbw⟩⟩
end Go.Proofs.Ytjjphiecjhijiaa
