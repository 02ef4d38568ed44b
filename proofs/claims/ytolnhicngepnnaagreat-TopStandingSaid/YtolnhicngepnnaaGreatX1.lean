/- The arguments of TopStanding, read from data. -/
import Derived.Test.YtolnhicngepnnaaGreatGS5
import Derived.Test.YtolnhicngepnnaaGreatN2
import Derived.Deep.Slices
import Derived.Deep.Fields
import Derived.SizedLaws
import Derived.ChangeSame
import Derived.ChangeSlices
import Derived.OpenShut
namespace Go.Proofs.YtolnhicngepnnaaGreat
open Go.RowKit Go.ChangeShapes Go.WideShapes Go.Deep

theorem cells3 : Tryz.prog.cellsOf 3 = 1 := by kernel_rfl
theorem bytes3 : Tryz.prog.bytesOf 3 = 8 := by kernel_rfl
theorem cells54 : Tryz.prog.cellsOf 54 = 3 := by kernel_rfl
theorem bytes54 : 1 ≤ Tryz.prog.bytesOf 54 := of_decide_eq_true (by kernel_rfl)
theorem cells44 : Tryz.prog.cellsOf 44 = 5 := by kernel_rfl
theorem cells29 : Tryz.prog.cellsOf 29 = 1 := by kernel_rfl
theorem bytes29 : Tryz.prog.bytesOf 29 = 24 := by kernel_rfl
theorem cells46 : Tryz.prog.cellsOf 46 = 1 := by kernel_rfl
theorem cells47 : Tryz.prog.cellsOf 47 = 2 := by kernel_rfl
theorem weightsAll_in {H : Type} {e : TypeId} : ∀ {l : List (DataW H)} {d : DataW H}, d ∈ l → ∀ n ∈ d.weights Tryz.prog e, n ∈ DataW.weightsAll Tryz.prog e l := by
  intro l
  induction l with
  | nil => intro d h; simp at h
  | cons x l ih =>
    intro d h n hn
    rw [DataW.weightsAll, List.mem_append]
    rcases List.mem_cons.1 h with rfl | h
    · exact .inl hn
    · exact .inr (ih h n hn)
section
variable {H : Type} {enc : TypeId × Value → H} {w : World}

/-- A struct of one-cell fields, read field by field. -/
theorem rd_struct {t : TypeId} {fs : Array Field} {fuel : Nat} {cs : List Value} {x : DataW H × List MemPlace} (hs : Tryz.prog.underlying t = some (.struct fs)) (hone : oneCellFields Tryz.prog fs = true) (hC : Tryz.prog.cellsOf t = fs.size)
    (h : DataW.trod enc Tryz.prog w 0 (fun _ => true) true fuel t cs = some x) :
    cs.length = fs.size ∧ ∃ (ys : List (DataW H × List MemPlace)) (n : Nat), x = (.agg (ys.map (·.1)), ys.flatMap (·.2)) ∧ ys.length = fs.size ∧
      ∀ (i : Nat) (f : Field), fs[i]? = some f → ∃ v y, cs[i]? = some v ∧ ys[i]? = some y ∧ DataW.trod enc Tryz.prog w 0 (fun _ => true) true n f.type [v] = some y := by
  obtain ⟨ys, n, _, hx, hl, hyl, hf⟩ := DataW.trod_struct hs h
  rw [hC] at hl
  refine ⟨hl, ys, n, hx, hyl, fun i f hi => ?_⟩
  obtain ⟨ho, hk⟩ := hone_of hone i f hi
  have hil : i < fs.size := (Array.getElem?_eq_some_iff.1 hi).1
  have h1 := hf i f hi
  rw [ho, hk, List.drop_eq_getElem_cons (by omega)] at h1
  simp only [List.take_succ_cons, List.take_zero] at h1
  have hy : ys[i]? = some (ys[i]'(by omega)) := List.getElem?_eq_getElem (by omega)
  exact ⟨_, _, List.getElem?_eq_getElem (by omega), hy, h1.trans hy⟩
theorem addr_at {a : Addr} {v : Value} (h : w.cell? (a.add 0) = some v) : ∃ b off, a = ⟨b, off, none⟩ := by
  obtain ⟨b, off, spot⟩ := a
  have hspot : spot = none := by simpa [Addr.add] using World.cell?_spot h
  exact ⟨b, off, by rw [hspot]⟩
def boolOf : Value → Bool
  | .bool b => b
  | _ => false
/-- A slice of structs of c ints and bools: its cells. -/
theorem rd_rowsV {ts te c : Nat} {fs : Array Field} {fuel : Nat} {cs : List Value} {x : DataW H × List MemPlace} (hts : Tryz.prog.underlying ts = some (.slice te)) (hte : Tryz.prog.underlying te = some (.struct fs)) (hone : oneCellFields Tryz.prog fs = true) (hC : Tryz.prog.cellsOf te = fs.size) (hc : fs.size = c) (hc0 : 0 < c)
    (hby : 1 ≤ Tryz.prog.bytesOf te)
    (h : DataW.trod enc Tryz.prog w 0 (fun _ => true) true fuel ts cs = some x) (hw : ∀ k ∈ x.1.weights Tryz.prog ts, k ≤ reachBytes) (hlt : ∀ q ∈ x.2, q.block < w.heap.size) :
    ∃ (a : Option Addr) (len cap : Nat) (g : Nat → Nat → Value), cs = [.slice a len cap] ∧ len ≤ cap ∧ len ≤ 140737488351232 ∧
      (len = 0 ∨ ∃ b off, a = some ⟨b, off, none⟩ ∧ b < w.heap.size ∧ ∀ i j, i < len → j < c → w.cell? ⟨b, off + (i * c + j), none⟩ = some (g i j) ∧ ∀ f, fs[j]? = some f → (f.type = 3 → g i j = .int .i64 (intOf (g i j))) ∧ (f.type = 4 → g i j = .bool (boolOf (g i j)))) := by
  rcases open_slice hts h with ⟨rfl, rfl⟩ | ⟨a, len, cap, m, n, D, Pl, rfl, _, hl, hm, hmm, rfl, hi⟩
  · exact ⟨none, 0, 0, fun _ _ => .bool false, rfl, by omega, by omega, .inl rfl⟩
  · simp only [if_true] at hmm
    subst hmm
    have hr : len ≤ 140737488351232 := by
      have := hw (((((List.range len).map D).length + ((List.range (m - len)).map fun j => D (len + j)).length)) * Tryz.prog.bytesOf te) (by simp [DataW.weights, hts])
      simp only [List.length_map, List.length_range, reachBytes] at this
      have h2 : len ≤ (len + (m - len)) * Tryz.prog.bytesOf te := Nat.le_trans (by omega) (Nat.le_mul_of_pos_right _ (by omega))
      omega
    have hcell : ∀ i j, ∃ z : Value, i < len → j < c → w.cell? (a.add (i * c + j)) = some z ∧ ∀ f, fs[j]? = some f → (f.type = 3 → z = .int .i64 (intOf z)) ∧ (f.type = 4 → z = .bool (boolOf z)) := by
      intro i j
      by_cases hil : i < len
      · by_cases hjc : j < c
        · obtain ⟨cs', hcs, ht⟩ := hi i (by omega)
          obtain ⟨_, hcl, hat⟩ := World.cells?_some hcs
          obtain ⟨_, ys, n', _, _, hf⟩ := rd_struct hte hone hC ht
          have hfj : fs[j]? = some (fs[j]'(by omega)) := by simp [hc, hjc]
          obtain ⟨v, y, hv, _, hty⟩ := hf j _ hfj
          have h2 := hat j (by rw [hC, hc]; exact hjc)
          rw [hv, Go.Deep.add_add, hC, hc] at h2
          refine ⟨v, fun _ _ => ⟨h2, fun f hf2 => ?_⟩⟩
          obtain rfl : fs[j]'(by omega) = f := Option.some.inj (hfj.symm.trans hf2)
          refine ⟨fun h3 => ?_, fun h4 => ?_⟩
          · rw [h3] at hty
            obtain ⟨z, hz, _, _⟩ := DataW.trod_int Tryz.underlying3 hty
            have hv' : v = .int .i64 z := by simpa using hz
            rw [hv']; rfl
          · rw [h4] at hty
            obtain ⟨z, hz, _⟩ := DataW.trod_bool Tryz.underlying4 hty
            have hv' : v = .bool z := by simpa using hz
            rw [hv']; rfl
        · exact ⟨.bool false, fun _ h => absurd h hjc⟩
      · exact ⟨.bool false, fun h => absurd h hil⟩
    refine ⟨some a, len, m, fun i j => Classical.choose (hcell i j), rfl, hl, hr, ?_⟩
    by_cases h0 : len = 0
    · exact .inl h0
    · obtain ⟨b, off, rfl⟩ := addr_at (by simpa using (Classical.choose_spec (hcell 0 0) (by omega) hc0).1)
      refine .inr ⟨b, off, rfl, ?_, fun i j hil hjc => ?_⟩
      · refine hlt (.cell b off) (List.mem_append_left _ (MemPlace.mem_row.2 ⟨0, ?_, by simp⟩))
        rw [hC, hc]
        exact Nat.mul_pos (by omega) hc0
      · have hq := Classical.choose_spec (hcell i j) hil hjc
        exact ⟨by rw [← add_plain]; exact hq.1, hq.2⟩
/-- Rows of cells, read as a list. -/
theorem slv_rows {α : Type} {f : α → List Value} {c len cap : Nat} {a : Option Addr} {g : Nat → Nat → Value} (l : List α) (hc0 : 0 < c) (hs : ∀ x, (f x).length = c) (hl : l.length = len) (hr : len ≤ 140737488351232)
    (hg : ∀ i (h : i < l.length) j, j < c → (f l[i])[j]? = some (g i j)) (hcc : len = 0 ∨ ∃ b off, a = some ⟨b, off, none⟩ ∧ b < w.heap.size ∧ ∀ i j, i < len → j < c → w.cell? ⟨b, off + (i * c + j), none⟩ = some (g i j)) :
    SlV w (.slice a len cap) l.length (l.flatMap f) := by
  refine ⟨a, cap, by rw [hl], by omega, ?_⟩
  rcases hcc with h0 | ⟨b, off, rfl, hb, hcell⟩
  · exact .inl (by omega)
  · refine .inr ⟨b, off, rfl, hb, fun i hi => ?_⟩
    have hflat : (l.flatMap f).length = l.length * c := by
      clear hi hg hcell hl hr
      induction l with
      | nil => simp
      | cons x l ih => simp only [List.flatMap_cons, List.length_append, List.length_cons, ih, hs, Nat.add_mul]; omega
    rw [hflat] at hi
    have hd : i / c < l.length := Nat.div_lt_of_lt_mul (by rw [Nat.mul_comm]; exact hi)
    have hm : i % c < c := Nat.mod_lt _ hc0
    have h1 := flat_get f c hs l (i / c) hd (i % c) hm
    have he : i / c * c + i % c = i := by rw [Nat.mul_comm]; exact Nat.div_add_mod i c
    rw [he, hg (i / c) hd (i % c) hm] at h1
    obtain ⟨h2, h3⟩ := List.getElem?_eq_some_iff.1 h1
    rw [h3]
    have h4 := hcell (i / c) (i % c) (by omega) hm
    rw [he] at h4
    exact h4
set_option maxRecDepth 100000 in
theorem rd_card {r : Reach} {b0 : Nat} {v : Value} {d : DataW H} {ps : List MemPlace} (h : DataW.Trod enc Tryz.prog w 0 (fun _ => true) true 45 v d ps) (hv : Value.okWide Tryz.prog w r b0 45 v) (hw : ∀ k ∈ d.weights Tryz.prog 45, k ≤ reachBytes) (hlt : ∀ q ∈ ps, q.block < w.heap.size) :
    ∃ l, SlL w v l ∧ ∀ a n c, v = .slice a n c → n ≤ c := by
  obtain ⟨a, len, cap, rfl⟩ := okWide_slice Tryz.underlying45 hv
  obtain ⟨fuel, hf⟩ := h
  obtain ⟨a', len', cap', g, e, hcap, hr, hcc⟩ := rd_rowsV (c := 3) Tryz.underlying45 Tryz.underlying54 (by kernel_rfl) cells54 rfl (by decide) bytes54 hf hw hlt
  simp only [Value.cells, List.cons.injEq, and_true] at e
  obtain ⟨rfl, rfl, rfl⟩ := Value.slice.inj e
  obtain ⟨l, hl⟩ : ∃ l, (List.range len).map (fun i => LineD.mk (intOf (g i 0)) (intOf (g i 1)) (boolOf (g i 2))) = l := ⟨_, rfl⟩
  have hL : l.length = len := by rw [← hl]; simp
  have h1 : SlV w (.slice a len cap) l.length (l.flatMap LineD.cells) := slv_rows (c := 3) (g := g) l (by decide) (fun _ => rfl) hL hr (fun i hi j hj => by
    have hil : i < len := by omega
    have hgi : l[i] = LineD.mk (intOf (g i 0)) (intOf (g i 1)) (boolOf (g i 2)) := by
      have h2 : l[i]? = some (LineD.mk (intOf (g i 0)) (intOf (g i 1)) (boolOf (g i 2))) := by rw [← hl, List.getElem?_map, List.getElem?_range hil]; rfl
      rw [List.getElem?_eq_getElem hi] at h2
      exact Option.some.inj h2
    rw [hgi]
    rcases hcc with h0 | ⟨b, off, rfl, hb, hcell⟩
    · omega
    · have hk := fun j hj => (hcell i j hil hj).2
      match j, hj with
      | 0, hj => exact congrArg some ((hk 0 hj _ rfl).1 rfl).symm
      | 1, hj => exact congrArg some ((hk 1 hj _ rfl).1 rfl).symm
      | 2, hj => exact congrArg some ((hk 2 hj _ rfl).2 rfl).symm
      | k + 3, hj => exact absurd hj (by omega)) (hcc.imp id (fun ⟨b, off, e, hb, hcell⟩ => ⟨b, off, e, hb, fun i j hi hj => (hcell i j hi hj).1⟩))
  exact ⟨l, h1, fun _ _ _ e => by cases e; exact hcap⟩
set_option maxRecDepth 100000 in
theorem rd_match {r : Reach} {b0 : Nat} {v : Value} {d : DataW H} {ps : List MemPlace} (h : DataW.Trod enc Tryz.prog w 0 (fun _ => true) true 44 v d ps) (hv : Value.okWide Tryz.prog w r b0 44 v) :
    ∃ m : MatchD, v = m.val := by
  obtain ⟨cs, rfl, hsz⟩ := okWide_struct Tryz.underlying44 hv
  obtain ⟨fuel, hf⟩ := h
  obtain ⟨hl, ys, n, hx, hyl, hfl⟩ := rd_struct Tryz.underlying44 (by kernel_rfl) cells44 hf
  obtain ⟨v0, y0, hv0, hy0, h0⟩ := hfl 0 _ rfl
  obtain ⟨v1, y1, hv1, hy1, h1⟩ := hfl 1 _ rfl
  obtain ⟨v2, y2, hv2, hy2, h2⟩ := hfl 2 _ rfl
  obtain ⟨v3, y3, hv3, hy3, h3⟩ := hfl 3 _ rfl
  obtain ⟨v4, y4, hv4, hy4, h4⟩ := hfl 4 _ rfl
  obtain ⟨z0, e0, _⟩ := DataW.trod_int Tryz.underlying3 h0
  obtain ⟨z1, e1, _⟩ := DataW.trod_int Tryz.underlying3 h1
  obtain ⟨z2, e2, _⟩ := DataW.trod_int Tryz.underlying3 h2
  obtain ⟨z3, e3, _⟩ := DataW.trod_bool Tryz.underlying4 h3
  obtain ⟨z4, e4, _⟩ := DataW.trod_bool Tryz.underlying4 h4
  simp only [List.cons.injEq, and_true] at e0 e1 e2 e3 e4
  subst e0 e1 e2 e3 e4
  refine ⟨⟨z0, z1, z2, z3, z4⟩, ?_⟩
  show Value.agg cs = Value.agg #[.int .i64 z0, .int .i64 z1, .int .i64 z2, .bool z3, .bool z4]
  congr 1
  apply Array.ext'
  simp only [Value.cells] at hv0 hv1 hv2 hv3 hv4 hl
  apply List.ext_getElem?
  intro i
  simp only [List.size_toArray, List.length_cons, List.length_nil] at hl
  match i with
  | 0 => simpa using hv0
  | 1 => simpa using hv1
  | 2 => simpa using hv2
  | 3 => simpa using hv3
  | 4 => simpa using hv4
  | k + 5 => simp [hl]
theorem rd_ints {fuel : Nat} {cs : List Value} {x : DataW H × List MemPlace} (h : DataW.trod enc Tryz.prog w 0 (fun _ => true) true fuel 29 cs = some x) (hw : ∀ k ∈ x.1.weights Tryz.prog 29, k ≤ reachBytes) (hlt : ∀ q ∈ x.2, q.block < w.heap.size) :
    ∃ v l, cs = [v] ∧ SlI w v l := by
  rcases open_ints Tryz.underlying29 Tryz.underlying3 cells3 h with ⟨rfl, rfl⟩ | ⟨a, len, cap, zs, rfl, _, hl, hm, hz, rfl, hcell, hwz⟩
  · exact ⟨_, [], rfl, none, 0, rfl, by simp, .inl rfl⟩
  · simp only [if_true] at hz
    have hr : len * 8 ≤ 140737488351232 := by
      have := hw ((((lits (H := H) .i64 (zs.take len)).length + (lits (H := H) .i64 (zs.drop len)).length)) * Tryz.prog.bytesOf 3) (by simp [DataW.weights, Tryz.underlying29])
      rw [bytes3] at this
      simp only [lits, List.length_map, List.length_take, List.length_drop, reachBytes] at this
      omega
    refine ⟨_, zs.take len, rfl, some a, cap, by rw [List.length_take, Nat.min_eq_left (by omega)], by rw [List.length_take]; omega, ?_⟩
    by_cases h0 : len = 0
    · exact .inl (by rw [List.length_take]; omega)
    · obtain ⟨b, off, rfl⟩ := addr_at (hcell 0 (by omega))
      refine .inr ⟨b, off, rfl, hlt (.cell b off) (MemPlace.mem_row.2 ⟨0, by omega, by simp⟩), fun i hi => ?_⟩
      simp only [List.length_map, List.length_take] at hi
      rw [← add_plain, hcell i (by omega)]
      simp [List.getD_eq_getElem?_getD, show i < zs.length by omega]
/-- A slice of slices of ints. -/
theorem rd_rounds {fuel : Nat} {cs : List Value} {x : DataW H × List MemPlace} (h : DataW.trod enc Tryz.prog w 0 (fun _ => true) true fuel 46 cs = some x) (hw : ∀ k ∈ x.1.weights Tryz.prog 46, k ≤ reachBytes) (hlt : ∀ q ∈ x.2, q.block < w.heap.size) :
    ∃ v rs, cs = [v] ∧ SlR w v rs := by
  rcases Go.Deep.open_slice Tryz.underlying46 h with ⟨rfl, rfl⟩ | ⟨a, len, cap, m, n, D, Pl, rfl, _, hl, hm, hmm, rfl, hi⟩
  · exact ⟨_, [], rfl, ⟨none, 0, rfl, by simp, .inl rfl⟩⟩
  · simp only [if_true] at hmm
    subst hmm
    have hr : len ≤ 140737488351232 := by
      have := hw (((((List.range len).map D).length + ((List.range (m - len)).map fun j => D (len + j)).length)) * Tryz.prog.bytesOf 29) (by simp [DataW.weights, Tryz.underlying46])
      rw [bytes29] at this
      simp only [List.length_map, List.length_range, reachBytes] at this
      omega
    have hel : ∀ i, ∃ (v : Value), ∃ (l : List Int), i < len → w.cell? (a.add i) = some v ∧ SlI w v l := by
      intro i
      by_cases hil : i < len
      · obtain ⟨cs', hcs, ht⟩ := hi i (by omega)
        obtain ⟨_, hcl, hat⟩ := World.cells?_some hcs
        obtain ⟨v, l, e, hs⟩ := rd_ints ht (fun k hk => hw k (by
            rw [DataW.weights, Tryz.underlying46]
            exact List.mem_cons_of_mem _ (List.mem_append_left _ (weightsAll_in (List.mem_map.2 ⟨i, List.mem_range.2 hil, rfl⟩) k hk))))
          (fun q hq => hlt q (List.mem_append_right _ (List.mem_flatMap.2 ⟨i, List.mem_range.2 (by omega), hq⟩)))
        refine ⟨v, l, fun _ => ⟨?_, hs⟩⟩
        have h2 := hat 0 (by rw [cells29]; omega)
        rw [e, Go.Deep.add_add, cells29] at h2
        simpa using h2
      · exact ⟨.bool true, [], fun h => absurd h hil⟩
    obtain ⟨V, hV⟩ := Classical.axiomOfChoice hel
    obtain ⟨L, hL⟩ := Classical.axiomOfChoice hV
    refine ⟨_, (List.range len).map L, rfl, ⟨some a, m, by simp, by simpa using hr, ?_⟩⟩
    by_cases h0 : len = 0
    · exact .inl (by simpa using h0)
    · obtain ⟨b, off, rfl⟩ := addr_at (hL 0 (by omega)).1
      refine .inr ⟨b, off, rfl, hlt (.cell b off) (List.mem_append_left _ (MemPlace.mem_row.2 ⟨0, by rw [cells29]; omega, by simp⟩)), fun i hi => ?_⟩
      have hil : i < len := by simpa using hi
      refine ⟨V i, by rw [← add_plain, (hL i hil).1], ?_⟩
      simp only [List.getElem_map, List.getElem_range]
      exact (hL i hil).2
set_option maxRecDepth 100000 in
theorem rd_rivals {r : Reach} {b0 : Nat} {v : Value} {d : DataW H} {ps : List MemPlace} (h : DataW.Trod enc Tryz.prog w 0 (fun _ => true) true 49 v d ps) (hv : Value.okWide Tryz.prog w r b0 49 v) (hw : ∀ k ∈ d.weights Tryz.prog 49, k ≤ reachBytes) (hlt : ∀ q ∈ ps, q.block < w.heap.size) :
    ∃ (z : Int) (v0 v1 : Value) (l0 l1 : List (List Int)), v = .agg #[.int .i64 z, v0, v1] ∧ SlR w v0 l0 ∧ SlR w v1 l1 := by
  obtain ⟨cs, rfl, hsz⟩ := okWide_struct Tryz.underlying49 hv
  obtain ⟨fuel, hf⟩ := h
  have hf2 : DataW.trod enc Tryz.prog w 0 (fun _ => true) true fuel 49 cs.toList = some (d, ps) := hf
  obtain ⟨ys, m, -, hx, hl, hyl, hfl⟩ := DataW.trod_struct Tryz.underlying49 hf2
  have e49 : Tryz.prog.cellsOf 49 = 3 := by kernel_rfl
  rw [e49] at hl
  obtain ⟨l⟩ := cs
  match l, hl with
  | [a, b, c], _ =>
    have hyl2 : ys.length = 2 := hyl
    have h0 : DataW.trod enc Tryz.prog w 0 (fun _ => true) true m 3 (List.take (Tryz.prog.cellsOf 3) [a, b, c]) = ys[0]? := hfl 0 _ rfl
    have h1 : DataW.trod enc Tryz.prog w 0 (fun _ => true) true m 47 (List.take (Tryz.prog.cellsOf 47) [b, c]) = ys[1]? := hfl 1 _ rfl
    rw [cells3] at h0
    rw [cells47] at h1
    simp only [List.take_succ_cons, List.take_zero] at h0 h1
    obtain ⟨za, ha, -, -⟩ := DataW.trod_int Tryz.underlying3 (h0.trans (List.getElem?_eq_getElem (by omega)))
    have hg1 := h1.trans (List.getElem?_eq_getElem (show 1 < ys.length by omega))
    obtain ⟨zs, m2, -, hy, hl2, hzl, hf3⟩ := DataW.trod_array Tryz.underlying47 hg1
    have hzl2 : zs.length = 2 := hzl
    have k0 : DataW.trod enc Tryz.prog w 0 (fun _ => true) true m2 46 (List.take (Tryz.prog.cellsOf 46) (List.drop (0 * Tryz.prog.cellsOf 46) [b, c])) = zs[0]? := hf3 0 (by omega)
    have k1 : DataW.trod enc Tryz.prog w 0 (fun _ => true) true m2 46 (List.take (Tryz.prog.cellsOf 46) (List.drop (1 * Tryz.prog.cellsOf 46) [b, c])) = zs[1]? := hf3 1 (by omega)
    rw [cells46] at k0 k1
    simp only [Nat.zero_mul, Nat.one_mul, List.drop_zero, List.drop_succ_cons, List.take_succ_cons, List.take_zero] at k0 k1
    have g0 := k0.trans (List.getElem?_eq_getElem (show 0 < zs.length by omega))
    have g1 := k1.trans (List.getElem?_eq_getElem (show 1 < zs.length by omega))
    have hd : d = .agg (ys.map (·.1)) ∧ ps = ys.flatMap (·.2) := by cases hx; exact ⟨rfl, rfl⟩
    obtain ⟨hd1, hd2⟩ := hd
    have two : ∀ l : List (DataW H × List MemPlace), l.length = 2 → ∃ a b, l = [a, b] := fun l h => by
      match l, h with
      | [a, b], _ => exact ⟨a, b, rfl⟩
    obtain ⟨y0, y1, rfl⟩ := two ys hyl2
    obtain ⟨z0, z1, rfl⟩ := two zs hzl2
    clear two
    · skip
      · skip
        have hy2 : y1 = (.agg [z0.1, z1.1], z0.2 ++ (z1.2 ++ [])) := hy
        subst hd1 hd2
        have hwt : ∀ k, k ∈ z0.1.weights Tryz.prog 46 ∨ k ∈ z1.1.weights Tryz.prog 46 → k ≤ reachBytes := fun k hk => hw k (by
          rw [hy2]
          simp only [List.map_cons, List.map_nil, DataW.weights, Tryz.underlying49, Tryz.underlying47, DataW.weightsEach, DataW.weightsAll, List.append_nil, List.mem_append]
          rcases hk with hk | hk
          · exact .inr (.inl hk)
          · exact .inr (.inr hk))
        have hlt2 : ∀ q, q ∈ z0.2 ∨ q ∈ z1.2 → q.block < w.heap.size := fun q hq => hlt q (by
          rw [hy2]
          simp only [List.flatMap_cons, List.flatMap_nil, List.append_nil, List.mem_append]
          rcases hq with hq | hq
          · exact .inr (.inl hq)
          · exact .inr (.inr hq))
        obtain ⟨v0, l0, e0, s0⟩ := rd_rounds g0 (fun k hk => hwt k (.inl hk)) (fun q hq => hlt2 q (.inl hq))
        obtain ⟨v1, l1, e1, s1⟩ := rd_rounds g1 (fun k hk => hwt k (.inr hk)) (fun q hq => hlt2 q (.inr hq))
        have ha' : a = .int .i64 za := by simpa using ha
        have hb' : b = v0 := by simpa using e0
        have hc' : c = v1 := by simpa using e1
        subst ha' hb' hc'
        exact ⟨za, _, _, l0, l1, rfl, s0, s1⟩
end
end Go.Proofs.YtolnhicngepnnaaGreat
