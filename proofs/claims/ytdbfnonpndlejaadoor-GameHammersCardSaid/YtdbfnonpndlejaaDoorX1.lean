/- The arguments of this seat's laws, read from data. -/
import Derived.Test.YtdbfnonpndlejaaDoorL2
import Derived.Test.YtdbfnonpndlejaaDoorS5
import Derived.Deep.Slices
import Derived.Deep.Fields
import Derived.SizedLaws
import Derived.ChangeSame
import Derived.ChangeSlices
namespace Go.Proofs.YtdbfnonpndlejaaDoor
open Go.RowKit Go.ChangeShapes Go.WideShapes Go.Deep

section
variable {H : Type} {enc : TypeId × Value → H} {w : World}

/-- A struct of one-cell fields, read field by field. -/
theorem rd_struct {t : TypeId} {fs : Array Field} {fuel : Nat} {cs : List Value} {x : DataW H × List MemPlace} (hs : Tryd.prog.underlying t = some (.struct fs)) (hone : oneCellFields Tryd.prog fs = true) (hC : Tryd.prog.cellsOf t = fs.size)
    (h : DataW.trod enc Tryd.prog w 0 (fun _ => true) true fuel t cs = some x) :
    cs.length = fs.size ∧ ∃ (ys : List (DataW H × List MemPlace)) (n : Nat), x = (.agg (ys.map (·.1)), ys.flatMap (·.2)) ∧ ys.length = fs.size ∧
      ∀ (i : Nat) (f : Field), fs[i]? = some f → ∃ v y, cs[i]? = some v ∧ ys[i]? = some y ∧ DataW.trod enc Tryd.prog w 0 (fun _ => true) true n f.type [v] = some y := by
  obtain ⟨ys, n, _, hx, hl, hyl, hf⟩ := DataW.trod_struct hs h
  rw [hC] at hl
  refine ⟨hl, ys, n, hx, hyl, fun i f hi => ?_⟩
  obtain ⟨ho, hk⟩ := hone_of hone i f hi
  have hil : i < fs.size := (Array.getElem?_eq_some_iff.1 hi).1
  have h1 := hf i f hi
  rw [ho, hk, List.drop_eq_getElem_cons (by omega)] at h1
  simp only [List.take_succ_cons, List.take_zero] at h1
  have hy : ys[i]? = some (ys[i]'(by omega)) := List.getElem?_eq_getElem (by omega)
  exact ⟨_, _, List.getElem?_eq_getElem (by omega), hy, h1.trans hy⟩
theorem addr_at {a : Addr} {v : Value} (h : w.cell? (a.add 0) = some v) : ∃ b off, a = ⟨b, off, none⟩ := by
  obtain ⟨b, off, spot⟩ := a
  have hspot : spot = none := by simpa [Addr.add] using World.cell?_spot h
  exact ⟨b, off, by rw [hspot]⟩
def boolOf : Value → Bool
  | .bool b => b
  | _ => false
/-- A slice of structs of c ints and bools: its cells. -/
theorem rd_rowsV {ts te c : Nat} {fs : Array Field} {fuel : Nat} {cs : List Value} {x : DataW H × List MemPlace} (hts : Tryd.prog.underlying ts = some (.slice te)) (hte : Tryd.prog.underlying te = some (.struct fs)) (hone : oneCellFields Tryd.prog fs = true) (hC : Tryd.prog.cellsOf te = fs.size) (hc : fs.size = c) (hc0 : 0 < c)
    (hby : 1 ≤ Tryd.prog.bytesOf te)
    (h : DataW.trod enc Tryd.prog w 0 (fun _ => true) true fuel ts cs = some x) (hw : ∀ k ∈ x.1.weights Tryd.prog ts, k ≤ reachBytes) (hlt : ∀ q ∈ x.2, q.block < w.heap.size) :
    ∃ (a : Option Addr) (len cap : Nat) (g : Nat → Nat → Value), cs = [.slice a len cap] ∧ len ≤ cap ∧ len ≤ 140737488351232 ∧
      (len = 0 ∨ ∃ b off, a = some ⟨b, off, none⟩ ∧ b < w.heap.size ∧ ∀ i j, i < len → j < c → w.cell? ⟨b, off + (i * c + j), none⟩ = some (g i j) ∧ ∀ f, fs[j]? = some f → (f.type = 3 → g i j = .int .i64 (intOf (g i j))) ∧ (f.type = 4 → g i j = .bool (boolOf (g i j)))) := by
  rcases open_slice hts h with ⟨rfl, rfl⟩ | ⟨a, len, cap, m, n, D, Pl, rfl, _, hl, hm, hmm, rfl, hi⟩
  · exact ⟨none, 0, 0, fun _ _ => .bool false, rfl, by omega, by omega, .inl rfl⟩
  · simp only [if_true] at hmm
    subst hmm
    have hr : len ≤ 140737488351232 := by
      have := hw (((((List.range len).map D).length + ((List.range (m - len)).map fun j => D (len + j)).length)) * Tryd.prog.bytesOf te) (by simp [DataW.weights, hts])
      simp only [List.length_map, List.length_range, reachBytes] at this
      have h2 : len ≤ (len + (m - len)) * Tryd.prog.bytesOf te := Nat.le_trans (by omega) (Nat.le_mul_of_pos_right _ (by omega))
      omega
    have hcell : ∀ i j, ∃ z : Value, i < len → j < c → w.cell? (a.add (i * c + j)) = some z ∧ ∀ f, fs[j]? = some f → (f.type = 3 → z = .int .i64 (intOf z)) ∧ (f.type = 4 → z = .bool (boolOf z)) := by
      intro i j
      by_cases hil : i < len
      · by_cases hjc : j < c
        · obtain ⟨cs', hcs, ht⟩ := hi i (by omega)
          obtain ⟨_, hcl, hat⟩ := World.cells?_some hcs
          obtain ⟨_, ys, n', _, _, hf⟩ := rd_struct hte hone hC ht
          have hfj : fs[j]? = some (fs[j]'(by omega)) := by simp [hc, hjc]
          obtain ⟨v, y, hv, _, hty⟩ := hf j _ hfj
          have h2 := hat j (by rw [hC, hc]; exact hjc)
          rw [hv, Go.Deep.add_add, hC, hc] at h2
          refine ⟨v, fun _ _ => ⟨h2, fun f hf2 => ?_⟩⟩
          obtain rfl : fs[j]'(by omega) = f := Option.some.inj (hfj.symm.trans hf2)
          refine ⟨fun h3 => ?_, fun h4 => ?_⟩
          · rw [h3] at hty
            obtain ⟨z, hz, _, _⟩ := DataW.trod_int Tryd.underlying3 hty
            have hv' : v = .int .i64 z := by simpa using hz
            rw [hv']; rfl
          · rw [h4] at hty
            obtain ⟨z, hz, _⟩ := DataW.trod_bool Tryd.underlying4 hty
            have hv' : v = .bool z := by simpa using hz
            rw [hv']; rfl
        · exact ⟨.bool false, fun _ h => absurd h hjc⟩
      · exact ⟨.bool false, fun h => absurd h hil⟩
    refine ⟨some a, len, m, fun i j => Classical.choose (hcell i j), rfl, hl, hr, ?_⟩
    by_cases h0 : len = 0
    · exact .inl h0
    · obtain ⟨b, off, rfl⟩ := addr_at (by simpa using (Classical.choose_spec (hcell 0 0) (by omega) hc0).1)
      refine .inr ⟨b, off, rfl, ?_, fun i j hil hjc => ?_⟩
      · refine hlt (.cell b off) (List.mem_append_left _ (MemPlace.mem_row.2 ⟨0, ?_, by simp⟩))
        rw [hC, hc]
        exact Nat.mul_pos (by omega) hc0
      · have hq := Classical.choose_spec (hcell i j) hil hjc
        exact ⟨by rw [← add_plain]; exact hq.1, hq.2⟩
theorem cells42 : Tryd.prog.cellsOf 42 = 3 := by kernel_rfl
theorem cells53 : Tryd.prog.cellsOf 53 = 4 := by kernel_rfl
theorem cells23 : Tryd.prog.cellsOf 23 = 5 := by kernel_rfl
theorem cells47 : Tryd.prog.cellsOf 47 = 4 := by kernel_rfl
theorem bytes42 : 1 ≤ Tryd.prog.bytesOf 42 := of_decide_eq_true (by kernel_rfl)
theorem bytes53 : 1 ≤ Tryd.prog.bytesOf 53 := of_decide_eq_true (by kernel_rfl)
/-- Rows of cells, read as a list. -/
theorem slv_rows {α : Type} {f : α → List Value} {c len cap : Nat} {a : Option Addr} {g : Nat → Nat → Value} (l : List α) (hc0 : 0 < c) (hs : ∀ x, (f x).length = c) (hl : l.length = len) (hr : len ≤ 140737488351232)
    (hg : ∀ i (h : i < l.length) j, j < c → (f l[i])[j]? = some (g i j)) (hcc : len = 0 ∨ ∃ b off, a = some ⟨b, off, none⟩ ∧ b < w.heap.size ∧ ∀ i j, i < len → j < c → w.cell? ⟨b, off + (i * c + j), none⟩ = some (g i j)) :
    SlV w (.slice a len cap) l.length (l.flatMap f) := by
  refine ⟨a, cap, by rw [hl], by omega, ?_⟩
  rcases hcc with h0 | ⟨b, off, rfl, hb, hcell⟩
  · exact .inl (by omega)
  · refine .inr ⟨b, off, rfl, hb, fun i hi => ?_⟩
    have hflat : (l.flatMap f).length = l.length * c := by
      clear hi hg hcell hl hr
      induction l with
      | nil => simp
      | cons x l ih => simp only [List.flatMap_cons, List.length_append, List.length_cons, ih, hs, Nat.add_mul]; omega
    rw [hflat] at hi
    have hd : i / c < l.length := Nat.div_lt_of_lt_mul (by rw [Nat.mul_comm]; exact hi)
    have hm : i % c < c := Nat.mod_lt _ hc0
    have h1 := flat_get f c hs l (i / c) hd (i % c) hm
    have he : i / c * c + i % c = i := by rw [Nat.mul_comm]; exact Nat.div_add_mod i c
    rw [he, hg (i / c) hd (i % c) hm] at h1
    obtain ⟨h2, h3⟩ := List.getElem?_eq_some_iff.1 h1
    rw [h3]
    have h4 := hcell (i / c) (i % c) (by omega) hm
    rw [he] at h4
    exact h4
set_option maxRecDepth 100000 in
theorem rd_press {r : Reach} {b0 : Nat} {v : Value} {d : DataW H} {ps : List MemPlace} (h : DataW.Trod enc Tryd.prog w 0 (fun _ => true) true 48 v d ps) (hv : Value.okWide Tryd.prog w r b0 48 v) (hw : ∀ k ∈ d.weights Tryd.prog 48, k ≤ reachBytes) (hlt : ∀ q ∈ ps, q.block < w.heap.size) :
    ∃ l, SlP w v l := by
  obtain ⟨a, len, cap, rfl⟩ := okWide_slice Tryd.underlying48 hv
  obtain ⟨fuel, hf⟩ := h
  obtain ⟨a', len', cap', g, e, hcap, hr, hcc⟩ := rd_rowsV (c := 4) Tryd.underlying48 Tryd.underlying53 (by kernel_rfl) cells53 rfl (by decide) bytes53 hf hw hlt
  simp only [Value.cells, List.cons.injEq, and_true] at e
  obtain ⟨rfl, rfl, rfl⟩ := Value.slice.inj e
  obtain ⟨l, hl⟩ : ∃ l, (List.range len).map (fun i => PressD.mk (intOf (g i 0)) (intOf (g i 1)) (intOf (g i 2)) (boolOf (g i 3))) = l := ⟨_, rfl⟩
  have hL : l.length = len := by rw [← hl]; simp
  have h1 : SlV w (.slice a len cap) l.length (l.flatMap PressD.cells) := slv_rows (c := 4) (g := g) l (by decide) (fun _ => rfl) hL hr (fun i hi j hj => by
    have hil : i < len := by omega
    have hgi : l[i] = PressD.mk (intOf (g i 0)) (intOf (g i 1)) (intOf (g i 2)) (boolOf (g i 3)) := by
      have h2 : l[i]? = some (PressD.mk (intOf (g i 0)) (intOf (g i 1)) (intOf (g i 2)) (boolOf (g i 3))) := by rw [← hl, List.getElem?_map, List.getElem?_range hil]; rfl
      rw [List.getElem?_eq_getElem hi] at h2
      exact Option.some.inj h2
    rw [hgi]
    rcases hcc with h0 | ⟨b, off, rfl, hb, hcell⟩
    · omega
    · have hk := fun j hj => (hcell i j hil hj).2
      match j, hj with
      | 0, hj => exact congrArg some ((hk 0 hj _ rfl).1 rfl).symm
      | 1, hj => exact congrArg some ((hk 1 hj _ rfl).1 rfl).symm
      | 2, hj => exact congrArg some ((hk 2 hj _ rfl).1 rfl).symm
      | 3, hj => exact congrArg some ((hk 3 hj _ rfl).2 rfl).symm
      | k + 4, hj => exact absurd hj (by omega)) (hcc.imp id (fun ⟨b, off, e, hb, hcell⟩ => ⟨b, off, e, hb, fun i j hi hj => (hcell i j hi hj).1⟩))
  exact ⟨l, h1⟩
set_option maxRecDepth 100000 in
theorem rd_card {r : Reach} {b0 : Nat} {v : Value} {d : DataW H} {ps : List MemPlace} (h : DataW.Trod enc Tryd.prog w 0 (fun _ => true) true 24 v d ps) (hv : Value.okWide Tryd.prog w r b0 24 v) (hw : ∀ k ∈ d.weights Tryd.prog 24, k ≤ reachBytes) (hlt : ∀ q ∈ ps, q.block < w.heap.size) :
    ∃ l, SlL w v l ∧ ∀ a n c, v = .slice a n c → n ≤ c := by
  obtain ⟨a, len, cap, rfl⟩ := okWide_slice Tryd.underlying24 hv
  obtain ⟨fuel, hf⟩ := h
  obtain ⟨a', len', cap', g, e, hcap, hr, hcc⟩ := rd_rowsV (c := 3) Tryd.underlying24 Tryd.underlying42 (by kernel_rfl) cells42 rfl (by decide) bytes42 hf hw hlt
  simp only [Value.cells, List.cons.injEq, and_true] at e
  obtain ⟨rfl, rfl, rfl⟩ := Value.slice.inj e
  obtain ⟨l, hl⟩ : ∃ l, (List.range len).map (fun i => LineD.mk (intOf (g i 0)) (intOf (g i 1)) (boolOf (g i 2))) = l := ⟨_, rfl⟩
  have hL : l.length = len := by rw [← hl]; simp
  have h1 : SlV w (.slice a len cap) l.length (l.flatMap LineD.cells) := slv_rows (c := 3) (g := g) l (by decide) (fun _ => rfl) hL hr (fun i hi j hj => by
    have hil : i < len := by omega
    have hgi : l[i] = LineD.mk (intOf (g i 0)) (intOf (g i 1)) (boolOf (g i 2)) := by
      have h2 : l[i]? = some (LineD.mk (intOf (g i 0)) (intOf (g i 1)) (boolOf (g i 2))) := by rw [← hl, List.getElem?_map, List.getElem?_range hil]; rfl
      rw [List.getElem?_eq_getElem hi] at h2
      exact Option.some.inj h2
    rw [hgi]
    rcases hcc with h0 | ⟨b, off, rfl, hb, hcell⟩
    · omega
    · have hk := fun j hj => (hcell i j hil hj).2
      match j, hj with
      | 0, hj => exact congrArg some ((hk 0 hj _ rfl).1 rfl).symm
      | 1, hj => exact congrArg some ((hk 1 hj _ rfl).1 rfl).symm
      | 2, hj => exact congrArg some ((hk 2 hj _ rfl).2 rfl).symm
      | k + 3, hj => exact absurd hj (by omega)) (hcc.imp id (fun ⟨b, off, e, hb, hcell⟩ => ⟨b, off, e, hb, fun i j hi hj => (hcell i j hi hj).1⟩))
  exact ⟨l, h1, fun _ _ _ e => by cases e; exact hcap⟩
set_option maxRecDepth 100000 in
theorem rd_times {r : Reach} {b0 : Nat} {v : Value} {d : DataW H} {ps : List MemPlace} (h : DataW.Trod enc Tryd.prog w 0 (fun _ => true) true 47 v d ps) (hv : Value.okWide Tryd.prog w r b0 47 v) :
    ∃ m : TimesD, v = m.val := by
  obtain ⟨cs, rfl, hsz⟩ := okWide_struct Tryd.underlying47 hv
  obtain ⟨fuel, hf⟩ := h
  obtain ⟨hl, ys, n, hx, hyl, hfl⟩ := rd_struct Tryd.underlying47 (by kernel_rfl) cells47 hf
  obtain ⟨v0, y0, hv0, hy0, h0⟩ := hfl 0 _ rfl
  obtain ⟨v1, y1, hv1, hy1, h1⟩ := hfl 1 _ rfl
  obtain ⟨v2, y2, hv2, hy2, h2⟩ := hfl 2 _ rfl
  obtain ⟨v3, y3, hv3, hy3, h3⟩ := hfl 3 _ rfl
  obtain ⟨z0, e0, _⟩ := DataW.trod_int Tryd.underlying3 h0
  obtain ⟨z1, e1, _⟩ := DataW.trod_int Tryd.underlying3 h1
  obtain ⟨z2, e2, _⟩ := DataW.trod_int Tryd.underlying3 h2
  obtain ⟨z3, e3, _⟩ := DataW.trod_int Tryd.underlying3 h3
  simp only [List.cons.injEq, and_true] at e0 e1 e2 e3
  subst e0 e1 e2 e3
  refine ⟨⟨z0, z1, z2, z3⟩, ?_⟩
  show Value.agg cs = Value.agg _
  congr 1
  apply Array.ext'
  simp only [Value.cells] at hv0 hv1 hv2 hv3 hl
  apply List.ext_getElem?
  intro i
  simp only [List.size_toArray, List.length_cons, List.length_nil] at hl
  match i with
  | 0 => simpa using hv0
  | 1 => simpa using hv1
  | 2 => simpa using hv2
  | 3 => simpa using hv3
  | k + 4 => simp [hl]
set_option maxRecDepth 100000 in
theorem rd_match {r : Reach} {b0 : Nat} {v : Value} {d : DataW H} {ps : List MemPlace} (h : DataW.Trod enc Tryd.prog w 0 (fun _ => true) true 23 v d ps) (hv : Value.okWide Tryd.prog w r b0 23 v) :
    ∃ m : MatchD, v = m.val := by
  obtain ⟨cs, rfl, hsz⟩ := okWide_struct Tryd.underlying23 hv
  obtain ⟨fuel, hf⟩ := h
  obtain ⟨hl, ys, n, hx, hyl, hfl⟩ := rd_struct Tryd.underlying23 (by kernel_rfl) cells23 hf
  obtain ⟨v0, y0, hv0, hy0, h0⟩ := hfl 0 _ rfl
  obtain ⟨v1, y1, hv1, hy1, h1⟩ := hfl 1 _ rfl
  obtain ⟨v2, y2, hv2, hy2, h2⟩ := hfl 2 _ rfl
  obtain ⟨v3, y3, hv3, hy3, h3⟩ := hfl 3 _ rfl
  obtain ⟨v4, y4, hv4, hy4, h4⟩ := hfl 4 _ rfl
  obtain ⟨z0, e0, _⟩ := DataW.trod_int Tryd.underlying3 h0
  obtain ⟨z1, e1, _⟩ := DataW.trod_int Tryd.underlying3 h1
  obtain ⟨z2, e2, _⟩ := DataW.trod_int Tryd.underlying3 h2
  obtain ⟨z3, e3, _⟩ := DataW.trod_bool Tryd.underlying4 h3
  obtain ⟨z4, e4, _⟩ := DataW.trod_bool Tryd.underlying4 h4
  simp only [List.cons.injEq, and_true] at e0 e1 e2 e3 e4
  subst e0 e1 e2 e3 e4
  refine ⟨⟨z0, z1, z2, z3, z4⟩, ?_⟩
  show Value.agg cs = Value.agg #[.int .i64 z0, .int .i64 z1, .int .i64 z2, .bool z3, .bool z4]
  congr 1
  apply Array.ext'
  simp only [Value.cells] at hv0 hv1 hv2 hv3 hv4 hl
  apply List.ext_getElem?
  intro i
  simp only [List.size_toArray, List.length_cons, List.length_nil] at hl
  match i with
  | 0 => simpa using hv0
  | 1 => simpa using hv1
  | 2 => simpa using hv2
  | 3 => simpa using hv3
  | 4 => simpa using hv4
  | k + 5 => simp [hl]
end
end Go.Proofs.YtdbfnonpndlejaaDoor
