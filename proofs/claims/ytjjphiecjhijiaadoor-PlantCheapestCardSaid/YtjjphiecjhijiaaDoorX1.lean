import Derived.Test.YtjjphiecjhijiaaDoorN1
import Derived.Deep.Slices
import Derived.Deep.Fields
import Derived.SizedLaws
import Derived.ChangeSame
import Derived.ChangeSlices
namespace Go.Proofs.YtjjphiecjhijiaaDoor
open Go.RowKit Go.ChangeShapes Go.WideShapes Go.Deep

section
variable {H : Type} {enc : TypeId × Value → H} {w : World}

/-- A struct of one-cell fields, read field by field. -/
theorem rd_struct {t : TypeId} {fs : Array Field} {fuel : Nat} {cs : List Value} {x : DataW H × List MemPlace} (hs : Tryd.prog.underlying t = some (.struct fs)) (hone : oneCellFields Tryd.prog fs = true) (hC : Tryd.prog.cellsOf t = fs.size)
    (h : DataW.trod enc Tryd.prog w 0 (fun _ => true) true fuel t cs = some x) :
    cs.length = fs.size ∧ ∃ (ys : List (DataW H × List MemPlace)) (n : Nat), x = (.agg (ys.map (·.1)), ys.flatMap (·.2)) ∧ ys.length = fs.size ∧
      ∀ (i : Nat) (f : Field), fs[i]? = some f → ∃ v y, cs[i]? = some v ∧ ys[i]? = some y ∧ DataW.trod enc Tryd.prog w 0 (fun _ => true) true n f.type [v] = some y := by
  obtain ⟨ys, n, _, hx, hl, hyl, hf⟩ := DataW.trod_struct hs h
  rw [hC] at hl
  refine ⟨hl, ys, n, hx, hyl, fun i f hi => ?_⟩
  obtain ⟨ho, hk⟩ := hone_of hone i f hi
  have hil : i < fs.size := (Array.getElem?_eq_some_iff.1 hi).1
  have h1 := hf i f hi
  rw [ho, hk, List.drop_eq_getElem_cons (by omega)] at h1
  simp only [List.take_succ_cons, List.take_zero] at h1
  have hy : ys[i]? = some (ys[i]'(by omega)) := List.getElem?_eq_getElem (by omega)
  exact ⟨_, _, List.getElem?_eq_getElem (by omega), hy, h1.trans hy⟩
theorem addr_at {a : Addr} {v : Value} (h : w.cell? (a.add 0) = some v) : ∃ b off, a = ⟨b, off, none⟩ := by
  obtain ⟨b, off, spot⟩ := a
  have hspot : spot = none := by simpa [Addr.add] using World.cell?_spot h
  exact ⟨b, off, by rw [hspot]⟩
theorem bytes3 : Tryd.prog.bytesOf 3 = 8 := by kernel_rfl
theorem cells3 : Tryd.prog.cellsOf 3 = 1 := by kernel_rfl
/-- A slice of ints. -/
theorem rd_ints {fuel : Nat} {cs : List Value} {x : DataW H × List MemPlace} (h : DataW.trod enc Tryd.prog w 0 (fun _ => true) true fuel 22 cs = some x) (hw : ∀ k ∈ x.1.weights Tryd.prog 22, k ≤ reachBytes) (hlt : ∀ q ∈ x.2, q.block < w.heap.size) :
    ∃ v l, cs = [v] ∧ SlI w v l := by
  rcases open_ints Tryd.underlying22 Tryd.underlying3 cells3 h with ⟨rfl, rfl⟩ | ⟨a, len, cap, zs, rfl, _, hl, hm, hz, rfl, hcell, hwz⟩
  · exact ⟨_, [], rfl, none, 0, rfl, by simp, .inl rfl⟩
  · simp only [if_true] at hz
    have hr : len * 8 ≤ 140737488351232 := by
      have := hw ((((lits (H := H) .i64 (zs.take len)).length + (lits (H := H) .i64 (zs.drop len)).length)) * Tryd.prog.bytesOf 3) (by simp [DataW.weights, Tryd.underlying22])
      rw [bytes3] at this
      simp only [lits, List.length_map, List.length_take, List.length_drop, reachBytes] at this
      omega
    refine ⟨_, zs.take len, rfl, some a, cap, by rw [List.length_take, Nat.min_eq_left (by omega)], by rw [List.length_take]; omega, ?_⟩
    by_cases h0 : len = 0
    · exact .inl (by rw [List.length_take]; omega)
    · obtain ⟨b, off, rfl⟩ := addr_at (hcell 0 (by omega))
      refine .inr ⟨b, off, rfl, hlt (.cell b off) (MemPlace.mem_row.2 ⟨0, by omega, by simp⟩), fun i hi => ?_⟩
      simp only [List.length_map, List.length_take] at hi
      rw [← add_plain, hcell i (by omega)]
      simp [List.getD_eq_getElem?_getD, show i < zs.length by omega]
/-- A slice of structs of c ints: the cells' numbers. -/
theorem rd_rows {ts te c : Nat} {fs : Array Field} {fuel : Nat} {cs : List Value} {x : DataW H × List MemPlace} (hts : Tryd.prog.underlying ts = some (.slice te)) (hte : Tryd.prog.underlying te = some (.struct fs)) (hone : oneCellFields Tryd.prog fs = true) (hC : Tryd.prog.cellsOf te = fs.size) (hc : fs.size = c) (hc0 : 0 < c)
    (hint : ∀ (i : Nat) (f : Field), fs[i]? = some f → f.type = 3) (hby : 1 ≤ Tryd.prog.bytesOf te)
    (h : DataW.trod enc Tryd.prog w 0 (fun _ => true) true fuel ts cs = some x) (hw : ∀ k ∈ x.1.weights Tryd.prog ts, k ≤ reachBytes) (hlt : ∀ q ∈ x.2, q.block < w.heap.size) :
    ∃ (a : Option Addr) (len cap : Nat) (g : Nat → Nat → Int), cs = [.slice a len cap] ∧ len ≤ 140737488351232 ∧ (len = 0 ∨ ∃ b off, a = some ⟨b, off, none⟩ ∧ b < w.heap.size ∧ ∀ i j, i < len → j < c → w.cell? ⟨b, off + (i * c + j), none⟩ = some (.int .i64 (g i j))) := by
  rcases open_slice hts h with ⟨rfl, rfl⟩ | ⟨a, len, cap, m, n, D, Pl, rfl, _, hl, hm, hmm, rfl, hi⟩
  · exact ⟨none, 0, 0, fun _ _ => 0, rfl, by omega, .inl rfl⟩
  · simp only [if_true] at hmm
    subst hmm
    have hr : len ≤ 140737488351232 := by
      have := hw (((((List.range len).map D).length + ((List.range (m - len)).map fun j => D (len + j)).length)) * Tryd.prog.bytesOf te) (by simp [DataW.weights, hts])
      simp only [List.length_map, List.length_range, reachBytes] at this
      have h2 : len ≤ (len + (m - len)) * Tryd.prog.bytesOf te := Nat.le_trans (by omega) (Nat.le_mul_of_pos_right _ (by omega))
      omega
    have hcell : ∀ i j, ∃ z : Int, i < len → j < c → w.cell? (a.add (i * c + j)) = some (.int .i64 z) := by
      intro i j
      by_cases hil : i < len
      · by_cases hjc : j < c
        · obtain ⟨cs', hcs, ht⟩ := hi i (by omega)
          obtain ⟨_, hcl, hat⟩ := World.cells?_some hcs
          obtain ⟨_, ys, n', _, _, hf⟩ := rd_struct hte hone hC ht
          obtain ⟨v, y, hv, _, hty⟩ := hf j (fs[j]'(by omega)) (by simp [hc, hjc])
          rw [hint j _ (by simp [hc, hjc])] at hty
          obtain ⟨z, hz, _, _⟩ := DataW.trod_int Tryd.underlying3 hty
          have hv' : v = .int .i64 z := by simpa using hz
          refine ⟨z, fun _ _ => ?_⟩
          have h2 := hat j (by rw [hC, hc]; exact hjc)
          rw [hv, hv', Go.Deep.add_add, hC, hc] at h2
          exact h2
        · exact ⟨0, fun _ h => absurd h hjc⟩
      · exact ⟨0, fun h => absurd h hil⟩
    refine ⟨some a, len, m, fun i j => Classical.choose (hcell i j), rfl, hr, ?_⟩
    by_cases h0 : len = 0
    · exact .inl h0
    · obtain ⟨b, off, rfl⟩ := addr_at (by simpa using Classical.choose_spec (hcell 0 0) (by omega) hc0)
      refine .inr ⟨b, off, rfl, ?_, fun i j hil hjc => ?_⟩
      · refine hlt (.cell b off) (List.mem_append_left _ (MemPlace.mem_row.2 ⟨0, ?_, by simp⟩))
        rw [hC, hc]
        exact Nat.mul_pos (by omega) hc0
      · rw [← add_plain]
        exact Classical.choose_spec (hcell i j) hil hjc
theorem cells35 : Tryd.prog.cellsOf 35 = 3 := by kernel_rfl
theorem cells51 : Tryd.prog.cellsOf 51 = 2 := by kernel_rfl
theorem bytes35 : Tryd.prog.bytesOf 35 = 24 := by kernel_rfl
theorem bytes51 : Tryd.prog.bytesOf 51 = 16 := by kernel_rfl
/-- A slice of machines. -/
theorem rd_machs {fuel : Nat} {cs : List Value} {x : DataW H × List MemPlace} (h : DataW.trod enc Tryd.prog w 0 (fun _ => true) true fuel 23 cs = some x) (hw : ∀ k ∈ x.1.weights Tryd.prog 23, k ≤ reachBytes) (hlt : ∀ q ∈ x.2, q.block < w.heap.size) :
    ∃ v l, cs = [v] ∧ SlM w v l := by
  obtain ⟨a, len, cap, g, rfl, hr, hcc⟩ := rd_rows (c := 3) Tryd.underlying23 Tryd.underlying35 (by kernel_rfl) cells35 rfl (by decide) (by
    intro i f hf
    match i, hf with
    | 0, hf => simp at hf; rw [← hf]
    | 1, hf => simp at hf; rw [← hf]
    | 2, hf => simp at hf; rw [← hf]) (by rw [bytes35]; decide) h hw hlt
  refine ⟨_, (List.range len).map fun i => ⟨g i 0, g i 1, g i 2⟩, rfl, a, cap, by simp, by simpa using hr, ?_⟩
  rcases hcc with h0 | ⟨b, off, rfl, hb, hcell⟩
  · exact .inl (by simpa using h0)
  · refine .inr ⟨b, off, rfl, hb, fun i hi => ?_⟩
    have e : ((List.range len).map fun i => (⟨g i 0, g i 1, g i 2⟩ : Mach)).length = len := by simp
    have hflat : (((List.range len).map fun i => (⟨g i 0, g i 1, g i 2⟩ : Mach)).flatMap Mach.cells).length = len * 3 := by
      have : ∀ l : List Mach, (l.flatMap Mach.cells).length = l.length * 3 := by
        intro l
        induction l with
        | nil => rfl
        | cons m l ih => simp only [List.flatMap_cons, List.length_append, ih, List.length_cons]; simp [Mach.cells]; omega
      rw [this, e]
    rw [hflat] at hi
    have h1 := mach_cells_get ((List.range len).map fun i => (⟨g i 0, g i 1, g i 2⟩ : Mach)) (i / 3) (by rw [e]; omega) (i % 3) (by omega)
    rw [show i / 3 * 3 + i % 3 = i by omega] at h1
    obtain ⟨h2, h3⟩ := List.getElem?_eq_some_iff.1 h1
    rw [h3]
    have h4 := hcell (i / 3) (i % 3) (by omega) (by omega)
    rw [show i / 3 * 3 + i % 3 = i by omega] at h4
    rw [h4]
    rcases (by omega : i % 3 = 0 ∨ i % 3 = 1 ∨ i % 3 = 2) with h5 | h5 | h5 <;> simp [h5, Mach.cells]
/-- A slice of marks. -/
theorem rd_marks {fuel : Nat} {cs : List Value} {x : DataW H × List MemPlace} (h : DataW.trod enc Tryd.prog w 0 (fun _ => true) true fuel 42 cs = some x) (hw : ∀ k ∈ x.1.weights Tryd.prog 42, k ≤ reachBytes) (hlt : ∀ q ∈ x.2, q.block < w.heap.size) :
    ∃ v l, cs = [v] ∧ SlK w v l := by
  obtain ⟨a, len, cap, g, rfl, hr, hcc⟩ := rd_rows (c := 2) Tryd.underlying42 Tryd.underlying51 (by kernel_rfl) cells51 rfl (by decide) (by
    intro i f hf
    match i, hf with
    | 0, hf => simp at hf; rw [← hf]
    | 1, hf => simp at hf; rw [← hf]) (by rw [bytes51]; decide) h hw hlt
  refine ⟨_, (List.range len).map fun i => (g i 0, g i 1), rfl, a, cap, by simp, by simpa using hr, ?_⟩
  rcases hcc with h0 | ⟨b, off, rfl, hb, hcell⟩
  · exact .inl (by simpa using h0)
  · refine .inr ⟨b, off, rfl, hb, fun i hi => ?_⟩
    have e : ((List.range len).map fun i => (g i 0, g i 1)).length = len := by simp
    rw [cells2_length, e] at hi
    have h1 := cells2_get ((List.range len).map fun i => (g i 0, g i 1)) (i / 2) (by rw [e]; omega) (i % 2) (by omega)
    rw [show i / 2 * 2 + i % 2 = i by omega] at h1
    obtain ⟨h2, h3⟩ := List.getElem?_eq_some_iff.1 h1
    rw [h3]
    have h4 := hcell (i / 2) (i % 2) (by omega) (by omega)
    rw [show i / 2 * 2 + i % 2 = i by omega] at h4
    rw [h4]
    rcases (by omega : i % 2 = 0 ∨ i % 2 = 1) with h5 | h5 <;> simp [h5, cells2]
theorem cells25 : Tryd.prog.cellsOf 25 = 6 := by kernel_rfl
set_option maxRecDepth 100000 in
/-- A plant. -/
theorem rd_plant {r : Reach} {b0 : Nat} {v : Value} {d : DataW H} {ps : List MemPlace} (h : DataW.Trod enc Tryd.prog w 0 (fun _ => true) true 25 v d ps) (hv : Value.okWide Tryd.prog w r b0 25 v) (hw : ∀ k ∈ d.weights Tryd.prog 25, k ≤ reachBytes) (hlt : ∀ q ∈ ps, q.block < w.heap.size) :
    ∃ p, PlantV w v p := by
  obtain ⟨cs, rfl, hsz⟩ := okWide_struct Tryd.underlying25 hv
  obtain ⟨fuel, hf⟩ := h
  obtain ⟨hl, ys, n, hx, hyl, hfl⟩ := rd_struct Tryd.underlying25 (by kernel_rfl) cells25 hf
  simp only [Prod.mk.injEq] at hx
  obtain ⟨rfl, rfl⟩ := hx
  obtain ⟨v0, y0, hv0, hy0, h0⟩ := hfl 0 _ rfl
  obtain ⟨v1, y1, hv1, hy1, h1⟩ := hfl 1 _ rfl
  obtain ⟨v2, y2, hv2, hy2, h2⟩ := hfl 2 _ rfl
  obtain ⟨v3, y3, hv3, hy3, h3⟩ := hfl 3 _ rfl
  obtain ⟨v4, y4, hv4, hy4, h4⟩ := hfl 4 _ rfl
  obtain ⟨v5, y5, hv5, hy5, h5⟩ := hfl 5 _ rfl
  have hwt : ∀ (j : Nat) (t : TypeId) (y : DataW H × List MemPlace), ([3, 3, 3, 22, 22, 23] : List TypeId)[j]? = some t → ys[j]? = some y → ∀ k ∈ y.1.weights Tryd.prog t, k ≤ reachBytes := by
    intro j t y hj hy k hk
    refine hw k ?_
    rw [DataW.weights, Tryd.underlying25]
    exact DataW.weights_mem_each (j := j) (by simpa using hj) (by simp [hy]) k hk
  have hpl : ∀ (j : Nat) (y : DataW H × List MemPlace), ys[j]? = some y → ∀ q ∈ y.2, q.block < w.heap.size := fun j y hy q hq => hlt q (List.mem_flatMap.2 ⟨y, List.mem_of_getElem? hy, hq⟩)
  obtain ⟨z0, e0, _⟩ := DataW.trod_int Tryd.underlying3 h0
  obtain ⟨z1, e1, _⟩ := DataW.trod_int Tryd.underlying3 h1
  obtain ⟨z2, e2, _⟩ := DataW.trod_int Tryd.underlying3 h2
  obtain ⟨u3, l3, e3, s3⟩ := rd_ints h3 (hwt 3 22 y3 rfl hy3) (hpl 3 y3 hy3)
  obtain ⟨u4, l4, e4, s4⟩ := rd_ints h4 (hwt 4 22 y4 rfl hy4) (hpl 4 y4 hy4)
  obtain ⟨u5, l5, e5, s5⟩ := rd_machs h5 (hwt 5 23 y5 rfl hy5) (hpl 5 y5 hy5)
  simp only [List.cons.injEq, and_true] at e0 e1 e2 e3 e4 e5
  subst e0 e1 e2 e3 e4 e5
  refine ⟨⟨z0, z1, z2, l3, l4, l5⟩, v3, v4, v5, ?_, s3, s4, s5⟩
  congr 1
  apply Array.ext'
  simp only [Value.cells] at hv0 hv1 hv2 hv3 hv4 hv5 hl
  apply List.ext_getElem?
  intro i
  simp only [List.size_toArray, List.length_cons, List.length_nil] at hl
  match i with
  | 0 => simpa using hv0
  | 1 => simpa using hv1
  | 2 => simpa using hv2
  | 3 => simpa using hv3
  | 4 => simpa using hv4
  | 5 => simpa using hv5
  | i + 6 => rw [List.getElem?_eq_none (by omega), List.getElem?_eq_none (by simp)]
end
end Go.Proofs.YtjjphiecjhijiaaDoor
