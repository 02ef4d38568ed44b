/- Arguments read from data: grain, numbers. -/
import Derived.Test.YtolnhicngepnnaaGreatU4
import Derived.Deep.Slices
import Derived.Deep.Fields
import Derived.SizedLaws
import Derived.ChangeSame
import Derived.ChangeSlices
import Derived.OpenShut
namespace Go.Proofs.YtolnhicngepnnaaGreat
open Go.RowKit Go.ChangeShapes Go.WideShapes Go.Deep

theorem cells3 : Tryz.prog.cellsOf 3 = 1 := by kernel_rfl
theorem bytes3 : Tryz.prog.bytesOf 3 = 8 := by kernel_rfl
theorem cells29 : Tryz.prog.cellsOf 29 = 1 := by kernel_rfl
theorem bytes29 : Tryz.prog.bytesOf 29 = 24 := by kernel_rfl
theorem cells24 : Tryz.prog.cellsOf 24 = 5 := by kernel_rfl
theorem flat_get {α : Type} (f : α → List Value) (s : Nat) (hs : ∀ x, (f x).length = s) (l : List α) : ∀ (j : Nat) (h : j < l.length) (c : Nat) (_ : c < s), (l.flatMap f)[j * s + c]? = (f l[j])[c]? := by
  induction l with
  | nil => intro j h; simp at h
  | cons m l ih =>
    intro j h c hc
    cases j with
    | zero =>
      simp only [List.flatMap_cons, Nat.zero_mul, Nat.zero_add, List.getElem_cons_zero]
      rw [List.getElem?_append_left (by rw [hs]; exact hc)]
    | succ j =>
      have h' : j < l.length := by simpa using h
      simp only [List.flatMap_cons, List.getElem_cons_succ]
      rw [List.getElem?_append_right (by rw [hs, Nat.succ_mul]; omega), hs, ← ih j h' c hc]
      congr 1
      rw [Nat.succ_mul]; omega
theorem weightsAll_in {H : Type} {e : TypeId} : ∀ {l : List (DataW H)} {d : DataW H}, d ∈ l → ∀ n ∈ d.weights Tryz.prog e, n ∈ DataW.weightsAll Tryz.prog e l := by
  intro l
  induction l with
  | nil => intro d h; simp at h
  | cons x l ih =>
    intro d h n hn
    rw [DataW.weightsAll, List.mem_append]
    rcases List.mem_cons.1 h with rfl | h
    · exact .inl hn
    · exact .inr (ih h n hn)
section
variable {H : Type} {enc : TypeId × Value → H} {w : World}

/-- A struct of one-cell fields, read field by field. -/
theorem rd_struct {t : TypeId} {fs : Array Field} {fuel : Nat} {cs : List Value} {x : DataW H × List MemPlace} (hs : Tryz.prog.underlying t = some (.struct fs)) (hone : oneCellFields Tryz.prog fs = true) (hC : Tryz.prog.cellsOf t = fs.size)
    (h : DataW.trod enc Tryz.prog w 0 (fun _ => true) true fuel t cs = some x) :
    cs.length = fs.size ∧ ∃ (ys : List (DataW H × List MemPlace)) (n : Nat), x = (.agg (ys.map (·.1)), ys.flatMap (·.2)) ∧ ys.length = fs.size ∧
      ∀ (i : Nat) (f : Field), fs[i]? = some f → ∃ v y, cs[i]? = some v ∧ ys[i]? = some y ∧ DataW.trod enc Tryz.prog w 0 (fun _ => true) true n f.type [v] = some y := by
  obtain ⟨ys, n, _, hx, hl, hyl, hf⟩ := DataW.trod_struct hs h
  rw [hC] at hl
  refine ⟨hl, ys, n, hx, hyl, fun i f hi => ?_⟩
  obtain ⟨ho, hk⟩ := hone_of hone i f hi
  have hil : i < fs.size := (Array.getElem?_eq_some_iff.1 hi).1
  have h1 := hf i f hi
  rw [ho, hk, List.drop_eq_getElem_cons (by omega)] at h1
  simp only [List.take_succ_cons, List.take_zero] at h1
  have hy : ys[i]? = some (ys[i]'(by omega)) := List.getElem?_eq_getElem (by omega)
  exact ⟨_, _, List.getElem?_eq_getElem (by omega), hy, h1.trans hy⟩
theorem addr_at {a : Addr} {v : Value} (h : w.cell? (a.add 0) = some v) : ∃ b off, a = ⟨b, off, none⟩ := by
  obtain ⟨b, off, spot⟩ := a
  have hspot : spot = none := by simpa [Addr.add] using World.cell?_spot h
  exact ⟨b, off, by rw [hspot]⟩
def boolOf : Value → Bool
  | .bool b => b
  | _ => false
/-- A slice of structs of c ints and bools: its cells. -/
theorem rd_rowsV {ts te c : Nat} {fs : Array Field} {fuel : Nat} {cs : List Value} {x : DataW H × List MemPlace} (hts : Tryz.prog.underlying ts = some (.slice te)) (hte : Tryz.prog.underlying te = some (.struct fs)) (hone : oneCellFields Tryz.prog fs = true) (hC : Tryz.prog.cellsOf te = fs.size) (hc : fs.size = c) (hc0 : 0 < c)
    (hby : 1 ≤ Tryz.prog.bytesOf te)
    (h : DataW.trod enc Tryz.prog w 0 (fun _ => true) true fuel ts cs = some x) (hw : ∀ k ∈ x.1.weights Tryz.prog ts, k ≤ reachBytes) (hlt : ∀ q ∈ x.2, q.block < w.heap.size) :
    ∃ (a : Option Addr) (len cap : Nat) (g : Nat → Nat → Value), cs = [.slice a len cap] ∧ len ≤ cap ∧ len ≤ 140737488351232 ∧
      (len = 0 ∨ ∃ b off, a = some ⟨b, off, none⟩ ∧ b < w.heap.size ∧ ∀ i j, i < len → j < c → w.cell? ⟨b, off + (i * c + j), none⟩ = some (g i j) ∧ ∀ f, fs[j]? = some f → (f.type = 3 → g i j = .int .i64 (intOf (g i j))) ∧ (f.type = 4 → g i j = .bool (boolOf (g i j)))) := by
  rcases open_slice hts h with ⟨rfl, rfl⟩ | ⟨a, len, cap, m, n, D, Pl, rfl, _, hl, hm, hmm, rfl, hi⟩
  · exact ⟨none, 0, 0, fun _ _ => .bool false, rfl, by omega, by omega, .inl rfl⟩
  · simp only [if_true] at hmm
    subst hmm
    have hr : len ≤ 140737488351232 := by
      have := hw (((((List.range len).map D).length + ((List.range (m - len)).map fun j => D (len + j)).length)) * Tryz.prog.bytesOf te) (by simp [DataW.weights, hts])
      simp only [List.length_map, List.length_range, reachBytes] at this
      have h2 : len ≤ (len + (m - len)) * Tryz.prog.bytesOf te := Nat.le_trans (by omega) (Nat.le_mul_of_pos_right _ (by omega))
      omega
    have hcell : ∀ i j, ∃ z : Value, i < len → j < c → w.cell? (a.add (i * c + j)) = some z ∧ ∀ f, fs[j]? = some f → (f.type = 3 → z = .int .i64 (intOf z)) ∧ (f.type = 4 → z = .bool (boolOf z)) := by
      intro i j
      by_cases hil : i < len
      · by_cases hjc : j < c
        · obtain ⟨cs', hcs, ht⟩ := hi i (by omega)
          obtain ⟨_, hcl, hat⟩ := World.cells?_some hcs
          obtain ⟨_, ys, n', _, _, hf⟩ := rd_struct hte hone hC ht
          have hfj : fs[j]? = some (fs[j]'(by omega)) := by simp [hc, hjc]
          obtain ⟨v, y, hv, _, hty⟩ := hf j _ hfj
          have h2 := hat j (by rw [hC, hc]; exact hjc)
          rw [hv, Go.Deep.add_add, hC, hc] at h2
          refine ⟨v, fun _ _ => ⟨h2, fun f hf2 => ?_⟩⟩
          obtain rfl : fs[j]'(by omega) = f := Option.some.inj (hfj.symm.trans hf2)
          refine ⟨fun h3 => ?_, fun h4 => ?_⟩
          · rw [h3] at hty
            obtain ⟨z, hz, _, _⟩ := DataW.trod_int Tryz.underlying3 hty
            have hv' : v = .int .i64 z := by simpa using hz
            rw [hv']; rfl
          · rw [h4] at hty
            obtain ⟨z, hz, _⟩ := DataW.trod_bool Tryz.underlying4 hty
            have hv' : v = .bool z := by simpa using hz
            rw [hv']; rfl
        · exact ⟨.bool false, fun _ h => absurd h hjc⟩
      · exact ⟨.bool false, fun h => absurd h hil⟩
    refine ⟨some a, len, m, fun i j => Classical.choose (hcell i j), rfl, hl, hr, ?_⟩
    by_cases h0 : len = 0
    · exact .inl h0
    · obtain ⟨b, off, rfl⟩ := addr_at (by simpa using (Classical.choose_spec (hcell 0 0) (by omega) hc0).1)
      refine .inr ⟨b, off, rfl, ?_, fun i j hil hjc => ?_⟩
      · refine hlt (.cell b off) (List.mem_append_left _ (MemPlace.mem_row.2 ⟨0, ?_, by simp⟩))
        rw [hC, hc]
        exact Nat.mul_pos (by omega) hc0
      · have hq := Classical.choose_spec (hcell i j) hil hjc
        exact ⟨by rw [← add_plain]; exact hq.1, hq.2⟩
/-- Rows of cells, read as a list. -/
theorem slv_rows {α : Type} {f : α → List Value} {c len cap : Nat} {a : Option Addr} {g : Nat → Nat → Value} (l : List α) (hc0 : 0 < c) (hs : ∀ x, (f x).length = c) (hl : l.length = len) (hr : len ≤ 140737488351232)
    (hg : ∀ i (h : i < l.length) j, j < c → (f l[i])[j]? = some (g i j)) (hcc : len = 0 ∨ ∃ b off, a = some ⟨b, off, none⟩ ∧ b < w.heap.size ∧ ∀ i j, i < len → j < c → w.cell? ⟨b, off + (i * c + j), none⟩ = some (g i j)) :
    SlV w (.slice a len cap) l.length (l.flatMap f) := by
  refine ⟨a, cap, by rw [hl], by omega, ?_⟩
  rcases hcc with h0 | ⟨b, off, rfl, hb, hcell⟩
  · exact .inl (by omega)
  · refine .inr ⟨b, off, rfl, hb, fun i hi => ?_⟩
    have hflat : (l.flatMap f).length = l.length * c := by
      clear hi hg hcell hl hr
      induction l with
      | nil => simp
      | cons x l ih => simp only [List.flatMap_cons, List.length_append, List.length_cons, ih, hs, Nat.add_mul]; omega
    rw [hflat] at hi
    have hd : i / c < l.length := Nat.div_lt_of_lt_mul (by rw [Nat.mul_comm]; exact hi)
    have hm : i % c < c := Nat.mod_lt _ hc0
    have h1 := flat_get f c hs l (i / c) hd (i % c) hm
    have he : i / c * c + i % c = i := by rw [Nat.mul_comm]; exact Nat.div_add_mod i c
    rw [he, hg (i / c) hd (i % c) hm] at h1
    obtain ⟨h2, h3⟩ := List.getElem?_eq_some_iff.1 h1
    rw [h3]
    have h4 := hcell (i / c) (i % c) (by omega) hm
    rw [he] at h4
    exact h4
set_option maxRecDepth 100000 in
theorem rd_ints {fuel : Nat} {cs : List Value} {x : DataW H × List MemPlace} (h : DataW.trod enc Tryz.prog w 0 (fun _ => true) true fuel 29 cs = some x) (hw : ∀ k ∈ x.1.weights Tryz.prog 29, k ≤ reachBytes) (hlt : ∀ q ∈ x.2, q.block < w.heap.size) :
    ∃ v l, cs = [v] ∧ SlI w v l := by
  rcases open_ints Tryz.underlying29 Tryz.underlying3 cells3 h with ⟨rfl, rfl⟩ | ⟨a, len, cap, zs, rfl, _, hl, hm, hz, rfl, hcell, hwz⟩
  · exact ⟨_, [], rfl, none, 0, rfl, by simp, .inl rfl⟩
  · simp only [if_true] at hz
    have hr : len * 8 ≤ 140737488351232 := by
      have := hw ((((lits (H := H) .i64 (zs.take len)).length + (lits (H := H) .i64 (zs.drop len)).length)) * Tryz.prog.bytesOf 3) (by simp [DataW.weights, Tryz.underlying29])
      rw [bytes3] at this
      simp only [lits, List.length_map, List.length_take, List.length_drop, reachBytes] at this
      omega
    refine ⟨_, zs.take len, rfl, some a, cap, by rw [List.length_take, Nat.min_eq_left (by omega)], by rw [List.length_take]; omega, ?_⟩
    by_cases h0 : len = 0
    · exact .inl (by rw [List.length_take]; omega)
    · obtain ⟨b, off, rfl⟩ := addr_at (hcell 0 (by omega))
      refine .inr ⟨b, off, rfl, hlt (.cell b off) (MemPlace.mem_row.2 ⟨0, by omega, by simp⟩), fun i hi => ?_⟩
      simp only [List.length_map, List.length_take] at hi
      rw [← add_plain, hcell i (by omega)]
      simp [List.getD_eq_getElem?_getD, show i < zs.length by omega]
set_option maxRecDepth 100000 in
theorem rd_grain {r : Reach} {b0 : Nat} {v : Value} {d : DataW H} {ps : List MemPlace} (h : DataW.Trod enc Tryz.prog w 0 (fun _ => true) true 24 v d ps) (hv : Value.okWide Tryz.prog w r b0 24 v) :
    ∃ m : GrainD, v = m.v := by
  obtain ⟨cs, rfl, hsz⟩ := okWide_struct Tryz.underlying24 hv
  obtain ⟨fuel, hf⟩ := h
  obtain ⟨hl, ys, n, hx, hyl, hfl⟩ := rd_struct Tryz.underlying24 (by kernel_rfl) cells24 hf
  obtain ⟨v0, y0, hv0, hy0, h0⟩ := hfl 0 _ rfl
  obtain ⟨v1, y1, hv1, hy1, h1⟩ := hfl 1 _ rfl
  obtain ⟨v2, y2, hv2, hy2, h2⟩ := hfl 2 _ rfl
  obtain ⟨v3, y3, hv3, hy3, h3⟩ := hfl 3 _ rfl
  obtain ⟨v4, y4, hv4, hy4, h4⟩ := hfl 4 _ rfl
  obtain ⟨z0, e0, _⟩ := DataW.trod_int Tryz.underlying22 h0
  obtain ⟨z1, e1, _⟩ := DataW.trod_int Tryz.underlying22 h1
  obtain ⟨z2, e2, _⟩ := DataW.trod_int Tryz.underlying3 h2
  obtain ⟨z3, e3, _⟩ := DataW.trod_int Tryz.underlying3 h3
  obtain ⟨z4, e4, _⟩ := DataW.trod_int Tryz.underlying3 h4
  simp only [List.cons.injEq, and_true] at e0 e1 e2 e3 e4
  subst e0 e1 e2 e3 e4
  refine ⟨⟨z0, z1, z2, z3, z4⟩, ?_⟩
  show Value.agg cs = Value.agg #[.int .i64 z0, .int .i64 z1, .int .i64 z2, .int .i64 z3, .int .i64 z4]
  congr 1
  apply Array.ext'
  simp only [Value.cells] at hv0 hv1 hv2 hv3 hv4 hl
  apply List.ext_getElem?
  intro i
  simp only [List.size_toArray, List.length_cons, List.length_nil] at hl
  match i with
  | 0 => simpa using hv0
  | 1 => simpa using hv1
  | 2 => simpa using hv2
  | 3 => simpa using hv3
  | 4 => simpa using hv4
  | k + 5 => simp [hl]
set_option maxRecDepth 100000 in
theorem rd_u16 {r : Reach} {b0 : Nat} {v : Value} {d : DataW H} {ps : List MemPlace} (h : DataW.Trod enc Tryz.prog w 0 (fun _ => true) true 25 v d ps) (hv : Value.okWide Tryz.prog w r b0 25 v) :
    ∃ n : Nat, v = .int .u16 (n : Int) ∧ n < 65536 := by
  obtain ⟨n, rfl, -, -, hw⟩ := open_int Tryz.underlying25 hv h
  have hb : 0 ≤ n ∧ n < 65536 := by
    simp only [Lit.wf, IntKind.min, IntKind.max, IntKind.signed, IntKind.bits, Bool.and_eq_true] at hw
    simp at hw
    omega
  exact ⟨n.toNat, by rw [show (n.toNat : Int) = n by omega], by omega⟩
set_option maxRecDepth 100000 in
theorem rd_u32 {r : Reach} {b0 : Nat} {v : Value} {d : DataW H} {ps : List MemPlace} (h : DataW.Trod enc Tryz.prog w 0 (fun _ => true) true 26 v d ps) (hv : Value.okWide Tryz.prog w r b0 26 v) :
    ∃ n : Nat, v = .int .u32 (n : Int) ∧ n < 4294967296 := by
  obtain ⟨n, rfl, -, -, hw⟩ := open_int Tryz.underlying26 hv h
  have hb : 0 ≤ n ∧ n < 4294967296 := by
    simp only [Lit.wf, IntKind.min, IntKind.max, IntKind.signed, IntKind.bits, Bool.and_eq_true] at hw
    simp at hw
    omega
  exact ⟨n.toNat, by rw [show (n.toNat : Int) = n by omega], by omega⟩
end
end Go.Proofs.YtolnhicngepnnaaGreat
