import Derived.Test.YtjjphiecjhijiaaDoorN1
import Derived.Test.YtjjphiecjhijiaaDoorL4
import Derived.Deep.RegionHeld3
namespace Go.Proofs.YtjjphiecjhijiaaDoor
open Go.RowKit Go.Maps
attribute [local go_sem] alloc_drewN setCell_drewN

def pairV (p : Int × Nat) : Value := .agg #[.int .i64 p.1, .int .i64 (p.2 : Int)]
/-- What is known of sets of stones. -/
def MemoB (lm : List (Int × Int)) (w : World) (bm : Nat) (D : Nat → Prop) : Prop :=
  ∃ M, MapF encU w bm M ∧ (∀ s, (M s).isSome = true ↔ D s) ∧ (∀ s v, M s = some v → v = pairV (mB lm ((elems s).length / 2) (elems s))) ∧ D 0 ∧
    ∀ s, D s → s ≠ 0 → ∀ b ∈ elems (clr s (low s)), D (clr (clr s (low s)) b)
theorem MemoB.below {lm : List (Int × Int)} {w w' : World} {bm : Nat} {D : Nat → Prop} (h : MemoB lm w bm D) (hb : Below w.heap.size w w') : MemoB lm w' bm D := by
  obtain ⟨M, h1, h2⟩ := h
  exact ⟨M, h1.below' hb, h2⟩
theorem MemoB.lt {lm : List (Int × Int)} {w : World} {bm : Nat} {D : Nat → Prop} (h : MemoB lm w bm D) : bm < w.heap.size := by obtain ⟨M, h1, _⟩ := h; exact h1.lt
theorem MemoB.row {lm : List (Int × Int)} {w : World} {bm : Nat} {D : Nat → Prop} (h : MemoB lm w bm D) : ∀ r, some bm = some r → ∃ o : Obj, w.heap[r]? = some o ∧ o.isCells = false := by obtain ⟨M, h1, _⟩ := h; exact map_row h1
theorem MemoB.look {lm : List (Int × Int)} {w : World} {bm : Nat} {D : Nat → Prop} (h : MemoB lm w bm D) (s : Nat) :
    ∃ (x y : Int) (o : Bool), (∀ w', Below w.heap.size w w' → (Instr.lookup 95 (.map (some bm)) (.int .u64 s) true).run Tryd.prog w' = .ok (.tuple #[.agg #[.int .i64 x, .int .i64 y], .bool o]) w') ∧
      (∀ w', Below w.heap.size w w' → (Instr.lookup 95 (.map (some bm)) (.int .u64 s) false).run Tryd.prog w' = .ok (.agg #[.int .i64 x, .int .i64 y]) w') ∧
      (o = false → x = 0 ∧ y = 0) ∧ (o = true ↔ D s) ∧ (o = true → x = (mB lm ((elems s).length / 2) (elems s)).1 ∧ y = ((mB lm ((elems s).length / 2) (elems s)).2 : Int)) := by
  obtain ⟨M, h1, h2, h3, _⟩ := h
  have hz : ∀ w' : World, (zeroValue 94).run Tryd.prog w' = .ok (.agg #[.int .i64 0, .int .i64 0]) w' := fun w' => by kernel_rfl
  have hl := fun w' (hb : Below w.heap.size w w') => MapF.lookup_ok keyU91 Tryd.underlying95 (h1.below' hb) (hz w') s
  have hl2 := fun w' (hb : Below w.heap.size w w') => MapF.lookup keyU91 Tryd.underlying95 (h1.below' hb) (hz w') s
  cases e : M s with
  | none =>
    refine ⟨0, 0, false, fun w' hb => ?_, fun w' hb => ?_, fun _ => ⟨rfl, rfl⟩, by rw [← h2, e]; simp, by simp⟩
    · have := hl w' hb; rw [e] at this; exact this
    · have := hl2 w' hb; rw [e] at this; exact this
  | some v =>
    have hv := h3 _ _ e
    subst hv
    refine ⟨_, _, true, fun w' hb => ?_, fun w' hb => ?_, by simp, by rw [← h2, e]; simp, fun _ => ⟨rfl, rfl⟩⟩
    · have := hl w' hb; rw [e] at this; exact this
    · have := hl2 w' hb; rw [e] at this; exact this
theorem MemoB.add {lm : List (Int × Int)} {w : World} {bm : Nat} {D : Nat → Prop} (h : MemoB lm w bm D) (s : Nat) (p : Int × Nat) (hp : p = mB lm ((elems s).length / 2) (elems s)) (hc : s ≠ 0 → ∀ b ∈ elems (clr s (low s)), D (clr (clr s (low s)) b)) :
    ∃ w', (Instr.mapUpdate 95 (.map (some bm)) (.int .u64 s) (.agg #[.int .i64 p.1, .int .i64 (p.2 : Int)])).run Tryd.prog w = .ok () w' ∧ MemoB lm w' bm (fun x => x = s ∨ D x) ∧ w.grownBy w' (some bm) := by
  obtain ⟨M, h1, h2, h3, h4, h5⟩ := h
  obtain ⟨w', hr', hm, hg, hs⟩ := MapF.update keyU91 Tryd.underlying95 h1 s (pairV p)
  refine ⟨w', hr', ⟨_, hm, ?_, ?_, .inr h4, ?_⟩, hg⟩
  · intro x
    by_cases e : x = s
    · simp [e]
    · simp [e, h2]
  · intro x v hv
    by_cases e : x = s
    · rw [if_pos e] at hv
      obtain rfl := Option.some.inj hv
      rw [e, ← hp]
    · rw [if_neg e] at hv
      exact h3 _ _ hv
  · intro x hx hx0 b hb
    rcases hx with rfl | hx
    · exact .inr (hc hx0 b hb)
    · exact .inr (h5 x hx hx0 b hb)

/-- What best finds in its captured variables. -/
structure BestW (lm : List (Int × Int)) (w : World) (kb bb lb bm : Nat) (v : Value) : Prop where
  known : w.cell? ⟨kb, 0, none⟩ = some (.map (some bm))
  self : w.cell? ⟨bb, 0, none⟩ = some (.func (.func 49) #[] #[.pointer (some ⟨kb, 0, none⟩), .pointer (some ⟨bb, 0, none⟩), .pointer (some ⟨lb, 0, none⟩)])
  list : w.cell? ⟨lb, 0, none⟩ = some v
  marks : SlK w v lm
  tab : TabW w
theorem TabW.kept {w w' : World} {row : Option Nat} (h : TabW w) (hg : w.grownBy w' row) (hr : ∀ r, row = some r → ∃ o : Obj, w.heap[r]? = some o ∧ o.isCells = false) : TabW w' := fun j hj => cell_kept (h j hj) hg hr
theorem SlV.kept' {w w' : World} {n : Nat} {v : Value} {vs : List Value} {row : Option Nat} (h : SlV w v n vs) (hg : w.grownBy w' row) (hr : ∀ r, row = some r → ∃ o : Obj, w.heap[r]? = some o ∧ o.isCells = false) : SlV w' v n vs := by
  obtain ⟨a, cap, rfl, hn, hc⟩ := h
  refine ⟨a, cap, rfl, hn, hc.imp id ?_⟩
  rintro ⟨b, off, rfl, hlt, hcell⟩
  exact ⟨b, off, rfl, Nat.lt_of_lt_of_le hlt hg.size, fun i hi => cell_kept (hcell i hi) hg hr⟩
theorem BestW.kept {lm : List (Int × Int)} {w w' : World} {kb bb lb bm : Nat} {v : Value} {row : Option Nat} (h : BestW lm w kb bb lb bm v) (hg : w.grownBy w' row) (hr : ∀ r, row = some r → ∃ o : Obj, w.heap[r]? = some o ∧ o.isCells = false) : BestW lm w' kb bb lb bm v :=
  ⟨cell_kept h.known hg hr, cell_kept h.self hg hr, cell_kept h.list hg hr, SlV.kept' h.marks hg hr, h.tab.kept hg hr⟩
theorem BestW.below {lm : List (Int × Int)} {w w' : World} {kb bb lb bm : Nat} {v : Value} (h : BestW lm w kb bb lb bm v) (hb : Below w.heap.size w w') : BestW lm w' kb bb lb bm v :=
  h.kept (row := none) (below_grown hb none) (fun r e => by cases e)
theorem setCell_grown (w : World) (b j : Nat) (x : Value) : w.grownBy (w.setCell ⟨b, j, none⟩ x) (some b) := ⟨rfl, rfl, rfl, by simp, fun k _ hk => heap_setCell_other w ⟨b, j, none⟩ k x (fun e => hk (by rw [e]))⟩
theorem _root_.Go.World.grownBy.trans_new {w w1 w2 : World} {r : Option Nat} (h : w.grownBy w1 r) (hg : w1.grownBy w2 (some w.heap.size)) : w.grownBy w2 r :=
  ⟨hg.os.trans h.os, hg.tape.trans h.tape, hg.output.trans h.output, Nat.le_trans h.size hg.size, fun k hk hr => (hg.block k (Nat.lt_of_lt_of_le hk h.size) (by intro e; have := Option.some.inj e; omega)).trans (h.block k hk hr)⟩
theorem MemoB.grown {lm : List (Int × Int)} {w w' : World} {bm r : Nat} {D : Nat → Prop} (h : MemoB lm w bm D) (hg : w.grownBy w' (some r)) (hne : bm ≠ r) : MemoB lm w' bm D := by
  obtain ⟨M, h1, h2⟩ := h
  exact ⟨M, h1.grown hg (by simpa using hne), h2⟩
def BestPost (lm : List (Int × Int)) (bm s : Nat) (D : Nat → Prop) (x : Int) (w : World) (e : Ending) (w' : World) : Prop :=
  e = .returned (.int .i64 x) ∧ (∃ D', MemoB lm w' bm D' ∧ (∀ y, D y → D' y) ∧ D' s) ∧ w.grownBy w' (some bm)
theorem mark_get (lm : List (Int × Int)) (i : Nat) (h : i < lm.length) : lm[i] = mark lm i := by simp [mark, h]

set_option maxRecDepth 100000 in
set_option maxHeartbeats 400000 in
/-- best, of a set that is known. -/
theorem best_found (lm : List (Int × Int)) (kb bb lb bm : Nat) (v : Value) (n : Nat) (s : Nat) (D : Nat → Prop) (w : World) (hl : (elems s).length = 2 * n) (hw : BestW lm w kb bb lb bm v) (hmem : MemoB lm w bm D) (hD : D s) :
    Calls Tryd.prog 49 #[.int .u64 s, .pointer (some ⟨kb, 0, none⟩), .pointer (some ⟨bb, 0, none⟩), .pointer (some ⟨lb, 0, none⟩)] w (BestPost lm bm s D (mB lm n (elems s)).1 w) := by
  have HM := hid hmem
  obtain ⟨x, y, o, hlk, _, _, hoD, hox⟩ := hmem.look s
  have hk := hw.known
  have hlk0 := hlk w (Below.refl _ _)
  obtain rfl : o = true := hoD.2 hD
  have hx := (hox rfl).1
  rw [show (elems s).length / 2 = n by omega] at hx
  have HX := hid hx
  have HD := hid hD
  clear hlk hw hmem hoD hox hx
  go_enter Tryd.func49, Tryd.ntmps49
  go_upto_region 2 with fail
  obtain ⟨W0, e0, hz0', hb0, hc0, hf0⟩ := box_new w #[.int .i64 x, .int .i64 y] 94
  rw [e0]
  clear e0
  have x0 : W0.cell? ⟨w.heap.size, 0, none⟩ = some (.int .i64 x) := hc0 0
  have HB := hid hb0
  clear hc0 hf0 hb0
  go_wp2_with fail
  go_ret
  exact ⟨ret_int HX.out, ⟨D, HM.out.below HB.out, fun _ h => h, HD.out⟩, below_grown HB.out _⟩

set_option maxRecDepth 100000 in
set_option maxHeartbeats 1000000 in
/-- plant.Match$2: best. -/
theorem best_any (lm : List (Int × Int)) (hm : mOk lm) (kb bb lb bm : Nat) (v : Value) (n : Nat) : ∀ (s : Nat) (D : Nat → Prop) (w : World), n ≤ 8 → s < 65536 → (elems s).length = 2 * n → (∀ i ∈ elems s, i < lm.length) → BestW lm w kb bb lb bm v → MemoB lm w bm D →
    Calls Tryd.prog 49 #[.int .u64 s, .pointer (some ⟨kb, 0, none⟩), .pointer (some ⟨bb, 0, none⟩), .pointer (some ⟨lb, 0, none⟩)] w (BestPost lm bm s D (mB lm n (elems s)).1 w) := by
  induction n with
  | zero =>
    intro s D w hn8 hs hl hlt hw hmem
    have hs0 : s = 0 := by
      apply Classical.byContradiction
      intro h
      exact elems_ne h (by omega) (List.length_eq_zero_iff.1 hl)
    subst hs0
    exact best_found lm kb bb lb bm v 0 0 D w hl hw hmem (by obtain ⟨M, _, _, _, h, _⟩ := hmem; exact h)
  | succ n ih =>
    intro s D w hn8 hs hl hlt hw hmem
    by_cases hDs : D s
    · exact best_found lm kb bb lb bm v (n + 1) s D w hl hw hmem hDs
    have HW := hid hw
    have HM := hid hmem
    have IH := hid ih
    have hs0 : s ≠ 0 := by
      rintro rfl
      rw [elems_zero] at hl; simp at hl
    have hs64 : s < 18446744073709551616 := by omega
    obtain ⟨x, y, o, hlk, _, hof, hoD, hox⟩ := hmem.look s
    have hk := hw.known
    have hlk0 := hlk w (Below.refl _ _)
    obtain rfl : o = false := by
      cases o with
      | false => rfl
      | true => exact absurd (hoD.1 rfl) hDs
    obtain ⟨rfl, rfl⟩ := hof rfl
    have hbml := hmem.lt
    clear hlk hw hmem hoD hox ih hDs
    -- the first stone, and the rest
    have hel := elems_low hs0 hs64
    have hll := low_lt s hs0 hs64
    have hfirst := fun w1 (hT : TabW w1) => first_s s hs0 hs64 w1 hT
    have hwo := fun w1 => without_s s (low s) w1 hs64 hll
    have hcl := clr_le s (low s)
    have HCM := hid (fun w (D : Nat → Prop) (h : MemoB lm w bm D) => h.add s)
    generalize ha : low s = a at *
    generalize hrs : clr s a = rs at *
    have hrl : (elems rs).length = 2 * n + 1 := by rw [hel] at hl; simp at hl; omega
    have hal : a < lm.length := hlt a (by rw [hel]; simp)
    have hrlt : ∀ i ∈ elems rs, i < lm.length := fun i hi => hlt i (by rw [hel]; simp [hi])
    have HEL := hid hel
    have HRL := hid hrl
    have HLEN := hid hl
    have HRLT := hid hrlt
    have HF := hid hfirst
    have HWO := hid hwo
    have HA := hid (And.intro ha hrs)
    have HMR := hid (show mB lm (n + 1) (elems s) = foldB lm n a (elems rs) (elems rs) by rw [hel]; rfl)
    have hrs16 : rs < 65536 := by omega
    clear hel hlt hrl hrlt hfirst hwo ha hrs hl hcl
    go_enter Tryd.func49, Tryd.ntmps49
    go_upto_region 2 with fail
    obtain ⟨W0, e0, hz0', hb0, hc0, hf0⟩ := box_new w #[.int .i64 0, .int .i64 0] 94
    rw [e0]
    clear e0
    have x0 : W0.cell? ⟨w.heap.size, 0, none⟩ = some (.int .i64 0) := hc0 0
    have x1 : W0.cell? ⟨w.heap.size, 1, none⟩ = some (.int .i64 0) := hc0 1
    have xf := hf0 0
    have xf1 := hf0 1
    go_upto_region 5 with fail
    obtain ⟨W1, hW1⟩ : ∃ W1, W0.setCell ⟨w.heap.size, 0, none⟩ (.int .i64 (-1)) = W1 := ⟨_, rfl⟩
    rw [hW1]
    have hb1 : Below w.heap.size w W1 := by rw [← hW1]; exact hb0.setCell (p := ⟨w.heap.size, 0, none⟩) (Nat.le_refl _) _
    have p0 : W1.cell? ⟨w.heap.size, 0, none⟩ = some (.int .i64 (-1)) := by rw [← hW1]; exact World.cell?_setCell_same _ _ _ x0
    have p1 : W1.cell? ⟨w.heap.size, 1, none⟩ = some (.int .i64 0) := by rw [← hW1]; exact (World.cell?_setCell_other _ _ _ _ (by simp)).trans x1
    have pf0 : W1.frozen? ⟨w.heap.size, 0, none⟩ = false := by rw [← hW1]; simpa using xf
    have pf1 : W1.frozen? ⟨w.heap.size, 1, none⟩ = false := by rw [← hW1]; simpa using xf1
    have HB1 := hid hb1
    have hW1s : w.heap.size < W1.heap.size := by have := hb1.size; rw [← hW1]; simp; omega
    have HT1 := hid (HW.out.below hb1).tab
    clear hW1 hb0 hb1 hc0 hf0 x0 x1 xf xf1
    go_wp2_with fail
    refine (HF.out W1 HT1.out).mono ?_
    rintro e w' ⟨rfl, rfl⟩
    go_wp2_with fail
    refine (HWO.out W1).mono ?_
    rintro e w' ⟨rfl, rfl⟩
    go_wp2_with fail
    go_loopw [10] (fun t wr => ∃ (xs : Nat) (pre : List Nat) (D' : Nat → Prop), t = .int .u64 xs ∧ xs ≤ rs ∧ elems rs = pre ++ elems xs ∧ wr.cell? ⟨w.heap.size, 0, none⟩ = some (.int .i64 (foldB lm n a (elems rs) pre).1) ∧ wr.cell? ⟨w.heap.size, 1, none⟩ = some (.int .i64 ((foldB lm n a (elems rs) pre).2 : Nat)) ∧ wr.frozen? ⟨w.heap.size, 0, none⟩ = false ∧ wr.frozen? ⟨w.heap.size, 1, none⟩ = false ∧ MemoB lm wr bm D' ∧ (∀ y, D y → D' y) ∧ (∀ b ∈ pre, D' (clr rs b)) ∧ w.grownBy wr (some bm)) (fun t _ => (intOf t).toNat)
    case atStart => exact ⟨rs, [], D, rfl, Nat.le_refl _, rfl, p0, p1, pf0, pf1, HM.out.below HB1.out, fun _ h => h, by simp, below_grown HB1.out _⟩
    case round =>
      obtain ⟨xs, pre, D', rfl, hxr, hpre, p0, p1, pf0, pf1, hmem, hDD, hDp, hg⟩ := hrel
      obtain ⟨w2, rfl⟩ : ∃ w2 : World, w2 = wr := ⟨_, rfl⟩
      have hbw := HW.out.kept hg HM.out.row
      have HPRE := hid hpre
      have HMM := hid hmem
      have HBW := hid hbw
      have HDD := hid (And.intro hDD hDp)
      have HG := hid hg
      have h2l : w.heap.size < w2.heap.size := cell_lt p0
      clear hpre hDD hDp
      by_cases hx0 : xs = 0
      · subst hx0
        have hpf : pre = elems rs := by have := HPRE.out; rw [elems_zero, List.append_nil] at this; exact this.symm
        have HPF := hid hpf
        obtain ⟨w3, hup, hmem3, hg3⟩ := HCM.out w2 D' hmem (foldB lm n a (elems rs) pre) (by
          rw [hpf, ← HMR.out]
          have := HLEN.out
          rw [show (elems s).length / 2 = n + 1 by omega]) (fun _ b hb => HDD.out.2 b (by rw [hpf]; exact hb))
        have q0 := far (o := 0) hg3 p0 (by omega)
        have q1 := hbw.known
        have H3 := hid (And.intro hmem3 hg3)
        generalize hfb : foldB lm n a (elems rs) pre = fb at *
        have HFB := hid hfb
        clear hmem3 hg3 hbw hmem hg hpf hfb
        go_wp2_with fail
        go_ret
        refine ⟨ret_int ?_, ⟨_, H3.out.1, fun z hz => .inr (HDD.out.1 z hz), .inl rfl⟩, HG.out.trans H3.out.2⟩
        rw [HMR.out, ← HFB.out, HPF.out]
      · have hne : ((xs : Int) != 0) = true := by simp; omega
        have hx64 : xs < 18446744073709551616 := by omega
        have hrs64 : rs < 18446744073709551616 := by omega
        have hb64 := low_lt xs hx0 hx64
        have hel2 := elems_low hx0 hx64
        have hclr := low_clr_lt xs hx0 hx64
        have hbm : low xs ∈ elems rs := by rw [HPRE.out, hel2]; simp
        have hbl := HRLT.out _ hbm
        have hf2 := fun w1 (hT : TabW w1) => first_s xs hx0 hx64 w1 hT
        have hw2 := fun w1 => without_s xs (low xs) w1 hx64 hb64
        have hw3 := fun w1 => without_s rs (low xs) w1 hrs64 hb64
        have he3 := elems_erase (i := low xs) hb64 hrs64
        have hz := clr_le rs (low xs)
        have hzl : ((elems rs).erase (low xs)).length = 2 * n := by rw [List.length_erase_of_mem hbm, HRL.out]; omega
        rw [← he3] at hzl
        generalize hb : low xs = b at *
        generalize hys : clr xs b = ys at *
        generalize hzs : clr rs b = zs at *
        have HB := hid (And.intro hb (And.intro hys hzs))
        have HE := hid (And.intro hel2 he3)
        have HF2 := hid hf2
        have HW2 := hid hw2
        have HW3 := hid hw3
        have HBM := hid hbm
        have hbest := IH.out zs D' w2.drew (by omega) (by omega) hzl (fun i hi => HRLT.out i (List.mem_of_mem_erase (by rw [he3] at hi; exact hi))) (hbw.below (Below.refl _ _).drew) (hmem.below (Below.refl _ _).drew)
        have hmb := mB_bd hm n (elems zs) hzl
        have HBEST := hid hbest
        obtain ⟨al, cl, hv, hll2, hcc⟩ := hbw.marks.open
        obtain ⟨bl, off, rfl, hbl2, hc⟩ := hcc a hal
        have c1 := (hc a hal).1
        have c2 := (hc a hal).2
        have c3 := (hc b hbl).1
        have c4 := (hc b hbl).2
        rw [mark_get] at c1 c2 c3 c4
        have ma := hm a
        have mb := hm b
        have k1 := hbw.self
        have k2 := hbw.list
        rw [hv] at k2
        have HST := hid (show foldB lm n a (elems rs) (pre ++ [b]) = stepB (foldB lm n a (elems rs) pre) ((mB lm n (elems zs)).1 + difM lm a b) b by rw [foldB_snoc, he3])
        have HDF := hid (show difM lm a b = absI ((mark lm a).1 - (mark lm b).1) + absI ((mark lm a).2 - (mark lm b).2) from rfl)
        have hfbb := foldB_bd hm n a (elems rs) pre HRL.out (fun z hz => by rw [HPRE.out]; simp [hz])
        have HKEEP := hid (fun w' (hg' : w2.drew.grownBy w' (some bm)) =>
          have hr : ∀ r, some bm = some r → ∃ o : Obj, w2.drew.heap[r]? = some o ∧ o.isCells = false := hmem.row
          And.intro (cell_kept (W := w2.drew) k1 hg' hr) (And.intro (cell_kept (W := w2.drew) k2 hg' hr) (And.intro (cell_kept (W := w2.drew) c1 hg' hr) (And.intro (cell_kept (W := w2.drew) c2 hg' hr) (And.intro (cell_kept (W := w2.drew) c3 hg' hr) (cell_kept (W := w2.drew) c4 hg' hr))))))
        have HS1 := hid (fun w' => size_p ((mark lm a).1 - (mark lm b).1) w' (by omega) (by omega))
        have HS2 := hid (fun w' => size_p ((mark lm a).2 - (mark lm b).2) w' (by omega) (by omega))
        have hA1 : 0 ≤ absI ((mark lm a).1 - (mark lm b).1) ∧ absI ((mark lm a).1 - (mark lm b).1) ≤ 1000000 := by unfold absI; omega
        have hA2 : 0 ≤ absI ((mark lm a).2 - (mark lm b).2) ∧ absI ((mark lm a).2 - (mark lm b).2) ≤ 1000000 := by unfold absI; omega
        obtain ⟨ma1, ma2, ma3, ma4⟩ := ma
        obtain ⟨mb1, mb2, mb3, mb4⟩ := mb
        clear hbest hb hys hzs hel2 he3 hf2 hw2 hw3 hbw hmem hg hcc hc hbm
        generalize (mark lm a).1 = ca at *
        generalize (mark lm a).2 = sa at *
        generalize (mark lm b).1 = cb at *
        generalize (mark lm b).2 = sb at *
        generalize (mB lm n (elems zs)).1 = mz at *
        generalize foldB lm n a (elems rs) pre = fb at *
        generalize absI (ca - cb) = A1 at *
        generalize absI (sa - sb) = A2 at *
        go_wp2_with fail
        refine (HF2.out w2 HBW.out.tab).mono ?_
        rintro e w' ⟨rfl, rfl⟩
        go_upto_region 11 with fail
        have hia0 : (0 : Int) ≤ (a : Int) := by omega
        have hia1 : (a : Int) < (lm.length : Int) := by omega
        have hib0 : (0 : Int) ≤ (b : Int) := by omega
        have hib1 : (b : Int) < (lm.length : Int) := by omega
        have hn1 : (n : Int) * 2000000 ≤ 16000000 := by omega
        have hw1 : IntKind.i64.wrap (ca - cb) = ca - cb := IntWalk.i64_in _ (by omega)
        have hw2 : IntKind.i64.wrap (sa - sb) = sa - sb := IntWalk.i64_in _ (by omega)
        have hw3 : IntKind.i64.wrap (mz + A1) = mz + A1 := IntWalk.i64_in _ (by omega)
        have hw4 : IntKind.i64.wrap (mz + A1 + A2) = mz + A1 + A2 := IntWalk.i64_in _ (by omega)
        go_cut [12] (fun t wx => t = .int .i64 (mz + A1 + A2) ∧ ∃ D3, MemoB lm wx bm D3 ∧ (∀ y, D' y → D3 y) ∧ D3 zs ∧ w2.grownBy wx (some bm))
        case first =>
          go_region_held3 (fun w' => w'.cell? ⟨bb, 0, none⟩ = some (.func (.func 49) #[] #[.pointer (some ⟨kb, 0, none⟩), .pointer (some ⟨bb, 0, none⟩), .pointer (some ⟨lb, 0, none⟩)]) ∧ w'.cell? ⟨lb, 0, none⟩ = some (.slice (some ⟨bl, off, none⟩) lm.length cl) ∧ w'.cell? ⟨bl, off + a * 2, none⟩ = some (.int .i64 ca) ∧ w'.cell? ⟨bl, off + a * 2 + 1, none⟩ = some (.int .i64 sa) ∧ w'.cell? ⟨bl, off + b * 2, none⟩ = some (.int .i64 cb) ∧ w'.cell? ⟨bl, off + b * 2 + 1, none⟩ = some (.int .i64 sb))
            (first | (exact HK3) | assumption | (exact ⟨k1, k2, c1, c2, c3, c4⟩))
            (first
              | (go_at_call 51; with_reducible refine (HW3.out _).mono ?_; rintro e w' ⟨rfl, rfl⟩)
              | (go_at_call 49; refine HBEST.out.mono ?_; rintro e w3 ⟨rfl, ⟨D3, hm3, hd3, hz3⟩, hg3⟩; have HK3 := HKEEP.out w3 hg3)
              | (go_at_call 52; with_reducible refine (HS1.out _).mono ?_; rintro e w' ⟨rfl, rfl⟩)
              | (go_at_call 52; with_reducible refine (HS2.out _).mono ?_; rintro e w' ⟨rfl, rfl⟩))
          all_goals
            go_wp2_with fail
            go_meet
            exact ⟨rfl, D3, hm3, hd3, hz3, ⟨hg3.os, hg3.tape, hg3.output, hg3.size, hg3.block⟩⟩
        case rest =>
          obtain ⟨rfl, D3, hm3, hd3, hz3, hg3⟩ := hcut
          obtain ⟨w3, rfl⟩ : ∃ w3 : World, w3 = wc := ⟨_, rfl⟩
          have HR := hid (And.intro hm3 (And.intro hd3 (And.intro hz3 hg3)))
          have hr3 := HMM.out.row
          have q0 := cell_kept p0 hg3 hr3
          have q1 := cell_kept p1 hg3 hr3
          have qf0 := (frozen_kept p0 hg3 hr3).trans pf0
          have qf1 := (frozen_kept p1 hg3 hr3).trans pf1
          have HT3 := hid (HBW.out.kept hg3 hr3).tab
          have hsum : 0 ≤ mz + A1 + A2 ∧ mz + A1 + A2 ≤ 18000000 := by omega
          have HNEW := hid (show elems rs = (pre ++ [b]) ++ elems ys by rw [HPRE.out, HE.out.1]; simp)
          have HDN := hid (show (∀ y, D y → D3 y) ∧ ∀ b' ∈ pre ++ [b], D3 (clr rs b') by
            refine ⟨fun y hy => hd3 y (HDD.out.1 y hy), fun b' hb' => ?_⟩
            rcases List.mem_append.1 hb' with hb' | hb'
            · exact hd3 _ (HDD.out.2 b' hb')
            · have : b' = b := by simpa using hb'
              rw [this, HB.out.2.2]; exact hz3)
          have HG3 := hid (HG.out.trans hg3)
          have HSTT := hid (show foldB lm n a (elems rs) (pre ++ [b]) = stepB fb (mz + A1 + A2) b by rw [HST.out, HDF.out]; congr 1; omega)
          have hyx : ys < xs := hclr
          clear p0 p1 pf0 pf1 hm3 hd3 hz3 hg3 hr3 hw1 hw2 hw3 hw4 k1 k2 c1 c2 c3 c4
          generalize hS : mz + A1 + A2 = S at *
          clear hS
          by_cases hb1 : fb.1 < 0
          · have hb1' : decide (fb.1 < 0) = true := by simp [hb1]
            have HS := hid (show stepB fb S b = (S, b) by unfold stepB; rw [if_pos (.inl hb1)])
            go_wp2_with fail
            obtain ⟨w4, hw4⟩ : ∃ w4, (w3.setCell ⟨w.heap.size, 0, none⟩ (.int .i64 S)).setCell ⟨w.heap.size, 1, none⟩ (.int .i64 (b : Int)) = w4 := ⟨_, rfl⟩
            rw [hw4]
            have r0 : w4.cell? ⟨w.heap.size, 0, none⟩ = some (.int .i64 S) := by
              rw [← hw4, World.cell?_setCell_other _ _ _ _ (by simp)]; exact World.cell?_setCell_same _ _ _ q0
            have r1 : w4.cell? ⟨w.heap.size, 1, none⟩ = some (.int .i64 (b : Int)) := by
              rw [← hw4]; exact World.cell?_setCell_same _ _ _ ((World.cell?_setCell_other _ _ _ _ (by simp)).trans q1)
            have rf0 : w4.frozen? ⟨w.heap.size, 0, none⟩ = false := by rw [← hw4]; simpa using qf0
            have rf1 : w4.frozen? ⟨w.heap.size, 1, none⟩ = false := by rw [← hw4]; simpa using qf1
            have hgs : w3.grownBy w4 (some w.heap.size) := by
              rw [← hw4]
              exact (setCell_grown w3 w.heap.size 0 _).trans (setCell_grown _ w.heap.size 1 _)
            have hG4 := HG3.out.trans_new hgs
            have hM4 := HR.out.1.grown hgs (by omega)
            have hT4 : TabW w4 := fun j hj => (World.cell?_of_block (a := ⟨1, j, none⟩) (hgs.block 1 HT3.out.lt (by have := HW.out.tab.lt; intro e; have := Option.some.inj e; omega))).trans (HT3.out j hj)
            have H4 := hid (And.intro hG4 hM4)
            clear hw4 hgs hG4 hM4
            refine (HF2.out w4 hT4).mono ?_
            rintro e w' ⟨rfl, rfl⟩
            go_wp2_with fail
            refine (HW2.out w4).mono ?_
            rintro e w' ⟨rfl, rfl⟩
            go_wp2_with fail
            exact ⟨⟨ys, pre ++ [b], D3, rfl, by omega, HNEW.out, by rw [HSTT.out, HS.out]; exact r0, by rw [HSTT.out, HS.out]; exact r1, rf0, rf1, H4.out.2, HDN.out.1, HDN.out.2, H4.out.1⟩, by simp [intOf]; omega⟩
          · have hb1' : decide (fb.1 < 0) = false := by simp [hb1]
            by_cases hb2 : S < fb.1
            · have hb2' : decide (S < fb.1) = true := by simp [hb2]
              have HS := hid (show stepB fb S b = (S, b) by unfold stepB; rw [if_pos (.inr hb2)])
              go_wp2_with fail
              obtain ⟨w4, hw4⟩ : ∃ w4, (w3.setCell ⟨w.heap.size, 0, none⟩ (.int .i64 S)).setCell ⟨w.heap.size, 1, none⟩ (.int .i64 (b : Int)) = w4 := ⟨_, rfl⟩
              rw [hw4]
              have r0 : w4.cell? ⟨w.heap.size, 0, none⟩ = some (.int .i64 S) := by
                rw [← hw4, World.cell?_setCell_other _ _ _ _ (by simp)]; exact World.cell?_setCell_same _ _ _ q0
              have r1 : w4.cell? ⟨w.heap.size, 1, none⟩ = some (.int .i64 (b : Int)) := by
                rw [← hw4]; exact World.cell?_setCell_same _ _ _ ((World.cell?_setCell_other _ _ _ _ (by simp)).trans q1)
              have rf0 : w4.frozen? ⟨w.heap.size, 0, none⟩ = false := by rw [← hw4]; simpa using qf0
              have rf1 : w4.frozen? ⟨w.heap.size, 1, none⟩ = false := by rw [← hw4]; simpa using qf1
              have hgs : w3.grownBy w4 (some w.heap.size) := by
                rw [← hw4]
                exact (setCell_grown w3 w.heap.size 0 _).trans (setCell_grown _ w.heap.size 1 _)
              have hG4 := HG3.out.trans_new hgs
              have hM4 := HR.out.1.grown hgs (by omega)
              have hT4 : TabW w4 := fun j hj => (World.cell?_of_block (a := ⟨1, j, none⟩) (hgs.block 1 HT3.out.lt (by have := HW.out.tab.lt; intro e; have := Option.some.inj e; omega))).trans (HT3.out j hj)
              have H4 := hid (And.intro hG4 hM4)
              clear hw4 hgs hG4 hM4
              refine (HF2.out w4 hT4).mono ?_
              rintro e w' ⟨rfl, rfl⟩
              go_wp2_with fail
              refine (HW2.out w4).mono ?_
              rintro e w' ⟨rfl, rfl⟩
              go_wp2_with fail
              exact ⟨⟨ys, pre ++ [b], D3, rfl, by omega, HNEW.out, by rw [HSTT.out, HS.out]; exact r0, by rw [HSTT.out, HS.out]; exact r1, rf0, rf1, H4.out.2, HDN.out.1, HDN.out.2, H4.out.1⟩, by simp [intOf]; omega⟩
            · have hb2' : decide (S < fb.1) = false := by simp [hb2]
              have HS := hid (show stepB fb S b = fb by unfold stepB; rw [if_neg (by omega)])
              go_wp2_with fail
              refine (HF2.out w3 HT3.out).mono ?_
              rintro e w' ⟨rfl, rfl⟩
              go_wp2_with fail
              refine (HW2.out w3).mono ?_
              rintro e w' ⟨rfl, rfl⟩
              go_wp2_with fail
              exact ⟨⟨ys, pre ++ [b], D3, rfl, by omega, HNEW.out, by rw [HSTT.out, HS.out]; exact q0, by rw [HSTT.out, HS.out]; exact q1, qf0, qf1, HR.out.1, HDN.out.1, HDN.out.2, HG3.out⟩, by simp [intOf]; omega⟩
end Go.Proofs.YtjjphiecjhijiaaDoor
