/- The arguments of TopOrder, read from data. -/
import Derived.Test.YtolnhicngepnnaaT3
import Derived.Deep.Slices
import Derived.Deep.Fields
import Derived.SizedLaws
import Derived.ChangeSame
import Derived.ChangeSlices
namespace Go.Proofs.Ytolnhicngepnnaa
open Go.RowKit Go.ChangeShapes Go.WideShapes Go.Deep

section
variable {H : Type} {enc : TypeId × Value → H} {w : World}

theorem addr_at {a : Addr} {v : Value} (h : w.cell? (a.add 0) = some v) : ∃ b off, a = ⟨b, off, none⟩ := by
  obtain ⟨b, off, spot⟩ := a
  have hspot : spot = none := by simpa [Addr.add] using World.cell?_spot h
  exact ⟨b, off, by rw [hspot]⟩
/-- A slice of rows of c ints of one kind. -/
theorem rd_intRows {ts te c : Nat} {k : IntKind} {fuel : Nat} {cs : List Value} {x : DataW H × List MemPlace} (hts : Try.prog.underlying ts = some (.slice te)) (hC : Try.prog.cellsOf te = c) (hc0 : 0 < c) (hby : 1 ≤ Try.prog.bytesOf te)
    (hR : ∀ (n : Nat) (cs' : List Value) (y : DataW H × List MemPlace), DataW.trod enc Try.prog w 0 (fun _ => true) true n te cs' = some y → cs'.length = c → ∀ j, j < c → ∃ z : Int, cs'[j]? = some (.int k z))
    (h : DataW.trod enc Try.prog w 0 (fun _ => true) true fuel ts cs = some x) (hw : ∀ k ∈ x.1.weights Try.prog ts, k ≤ reachBytes) (hlt : ∀ q ∈ x.2, q.block < w.heap.size) :
    ∃ (a : Option Addr) (len cap : Nat) (g : Nat → Nat → Int), cs = [.slice a len cap] ∧ len ≤ cap ∧ len ≤ 140737488351232 ∧
      (len = 0 ∨ ∃ b off, a = some ⟨b, off, none⟩ ∧ b < w.heap.size ∧ ∀ i j, i < len → j < c → w.cell? ⟨b, off + (i * c + j), none⟩ = some (.int k (g i j))) := by
  rcases open_slice hts h with ⟨rfl, rfl⟩ | ⟨a, len, cap, m, n, D, Pl, rfl, _, hl, hm, hmm, rfl, hi⟩
  · exact ⟨none, 0, 0, fun _ _ => 0, rfl, by omega, by omega, .inl rfl⟩
  · simp only [if_true] at hmm
    subst hmm
    have hr : len ≤ 140737488351232 := by
      have := hw (((((List.range len).map D).length + ((List.range (m - len)).map fun j => D (len + j)).length)) * Try.prog.bytesOf te) (by simp [DataW.weights, hts])
      simp only [List.length_map, List.length_range, reachBytes] at this
      have h2 : len ≤ (len + (m - len)) * Try.prog.bytesOf te := Nat.le_trans (by omega) (Nat.le_mul_of_pos_right _ (by omega))
      omega
    have hcell : ∀ i j, ∃ z : Int, i < len → j < c → w.cell? (a.add (i * c + j)) = some (.int k z) := by
      intro i j
      by_cases hil : i < len
      · by_cases hjc : j < c
        · obtain ⟨cs', hcs, ht⟩ := hi i (by omega)
          obtain ⟨_, hcl, hat⟩ := World.cells?_some hcs
          obtain ⟨z, hz⟩ := hR n cs' _ ht (by rw [hcl, hC]) j hjc
          have h2 := hat j (by rw [hC]; exact hjc)
          rw [hz, Go.Deep.add_add, hC] at h2
          exact ⟨z, fun _ _ => h2⟩
        · exact ⟨0, fun _ h => absurd h hjc⟩
      · exact ⟨0, fun h => absurd h hil⟩
    refine ⟨some a, len, m, fun i j => Classical.choose (hcell i j), rfl, hl, hr, ?_⟩
    by_cases h0 : len = 0
    · exact .inl h0
    · obtain ⟨b, off, rfl⟩ := addr_at (by simpa using (Classical.choose_spec (hcell 0 0) (by omega) hc0))
      refine .inr ⟨b, off, rfl, ?_, fun i j hil hjc => ?_⟩
      · refine hlt (.cell b off) (List.mem_append_left _ (MemPlace.mem_row.2 ⟨0, ?_, by simp⟩))
        rw [hC]
        exact Nat.mul_pos (by omega) hc0
      · have hq := Classical.choose_spec (hcell i j) hil hjc
        rw [← add_plain]; exact hq
set_option maxRecDepth 100000 in
theorem stone_ints (n : Nat) (cs : List Value) (y : DataW H × List MemPlace) (h : DataW.trod enc Try.prog w 0 (fun _ => true) true n 49 cs = some y) (hl : cs.length = 4) : ∀ j, j < 4 → ∃ z : Int, cs[j]? = some (.int .i64 z) := by
  obtain ⟨ys, m, -, -, -, hyl, hf⟩ := DataW.trod_struct Try.underlying49 h
  match cs, hl with
  | [a, b, c, d], _ =>
    have hyl3 : ys.length = 3 := hyl
    have h0 : DataW.trod enc Try.prog w 0 (fun _ => true) true m 3 (List.take (Try.prog.cellsOf 3) [a, b, c, d]) = ys[0]? := hf 0 _ rfl
    have h1 : DataW.trod enc Try.prog w 0 (fun _ => true) true m 3 (List.take (Try.prog.cellsOf 3) [b, c, d]) = ys[1]? := hf 1 _ rfl
    have h2 : DataW.trod enc Try.prog w 0 (fun _ => true) true m 47 (List.take (Try.prog.cellsOf 47) [c, d]) = ys[2]? := hf 2 _ rfl
    have e3 : Try.prog.cellsOf 3 = 1 := by kernel_rfl
    have e47 : Try.prog.cellsOf 47 = 2 := by kernel_rfl
    have e23 : Try.prog.cellsOf 23 = 1 := by kernel_rfl
    simp only [e3, e47, List.take_succ_cons, List.take_zero] at h0 h1 h2
    obtain ⟨za, ha, -, -⟩ := DataW.trod_int Try.underlying3 (h0.trans (List.getElem?_eq_getElem (by omega)))
    obtain ⟨zb, hb, -, -⟩ := DataW.trod_int Try.underlying3 (h1.trans (List.getElem?_eq_getElem (by omega)))
    obtain ⟨ys2, m2, -, -, -, hyl2, hf2⟩ := DataW.trod_struct Try.underlying47 (h2.trans (List.getElem?_eq_getElem (by omega)))
    have hyl2' : ys2.length = 2 := hyl2
    have h3 : DataW.trod enc Try.prog w 0 (fun _ => true) true m2 23 (List.take (Try.prog.cellsOf 23) [c, d]) = ys2[0]? := hf2 0 _ rfl
    have h4 : DataW.trod enc Try.prog w 0 (fun _ => true) true m2 23 (List.take (Try.prog.cellsOf 23) [d]) = ys2[1]? := hf2 1 _ rfl
    simp only [e23, List.take_succ_cons, List.take_zero] at h3 h4
    obtain ⟨zc, hc, -, -⟩ := DataW.trod_int Try.underlying23 (h3.trans (List.getElem?_eq_getElem (by omega)))
    obtain ⟨zd, hd, -, -⟩ := DataW.trod_int Try.underlying23 (h4.trans (List.getElem?_eq_getElem (by omega)))
    have ha' : a = .int .i64 za := by simpa using ha
    have hb' : b = .int .i64 zb := by simpa using hb
    have hc' : c = .int .i64 zc := by simpa using hc
    have hd' : d = .int .i64 zd := by simpa using hd
    subst ha' hb' hc' hd'
    intro j hj
    rcases (show j = 0 ∨ j = 1 ∨ j = 2 ∨ j = 3 by omega) with rfl | rfl | rfl | rfl
    · exact ⟨_, rfl⟩
    · exact ⟨_, rfl⟩
    · exact ⟨_, rfl⟩
    · exact ⟨_, rfl⟩
theorem one_int (n : Nat) (cs : List Value) (y : DataW H × List MemPlace) (h : DataW.trod enc Try.prog w 0 (fun _ => true) true n 39 cs = some y) (_hl : cs.length = 1) : ∀ j, j < 1 → ∃ z : Int, cs[j]? = some (.int .i16 z) := by
  obtain ⟨z, rfl, -, -⟩ := DataW.trod_int Try.underlying39 h
  intro j hj
  obtain rfl : j = 0 := by omega
  exact ⟨z, rfl⟩
theorem rows_flat {α : Type} {f : α → List Value} (c : Nat) (hs : ∀ x, (f x).length = c) : ∀ (l : List α) (i : Nat) (h : i < l.length) (j : Nat), j < c → (l.flatMap f)[i * c + j]? = (f l[i])[j]?
  | x :: l, 0, _, j, hj => by
    simp only [List.flatMap_cons, Nat.zero_mul, Nat.zero_add, List.getElem_cons_zero]
    rw [List.getElem?_append_left (by rw [hs]; exact hj)]
  | x :: l, i + 1, h, j, hj => by
    have := rows_flat c hs l i (by simpa using h) j hj
    simp only [List.flatMap_cons, List.getElem_cons_succ]
    rw [List.getElem?_append_right (by rw [hs, Nat.add_mul]; omega), ← this, hs]
    congr 1
    rw [Nat.add_mul]; omega
theorem slv_rows {α : Type} {f : α → List Value} {c len cap : Nat} {a : Option Addr} {k : IntKind} {g : Nat → Nat → Int} (l : List α) (hc0 : 0 < c) (hs : ∀ x, (f x).length = c) (hl : l.length = len) (hr : len ≤ 140737488351232)
    (hg : ∀ i (h : i < l.length) j, j < c → (f l[i])[j]? = some (.int k (g i j))) (hcc : len = 0 ∨ ∃ b off, a = some ⟨b, off, none⟩ ∧ b < w.heap.size ∧ ∀ i j, i < len → j < c → w.cell? ⟨b, off + (i * c + j), none⟩ = some (.int k (g i j))) :
    SlV w (.slice a len cap) l.length (l.flatMap f) := by
  refine ⟨a, cap, by rw [hl], by omega, ?_⟩
  rcases hcc with h0 | ⟨b, off, rfl, hb, hcell⟩
  · exact .inl (by omega)
  · refine .inr ⟨b, off, rfl, hb, fun i hi => ?_⟩
    have hflat : (l.flatMap f).length = l.length * c := by
      clear hi hg hcell hl hr
      induction l with
      | nil => simp
      | cons x l ih => simp only [List.flatMap_cons, List.length_append, List.length_cons, ih, hs, Nat.add_mul]; omega
    rw [hflat] at hi
    have hd : i / c < l.length := Nat.div_lt_of_lt_mul (by rw [Nat.mul_comm]; exact hi)
    have hm : i % c < c := Nat.mod_lt _ hc0
    have h1 := rows_flat c hs l (i / c) hd (i % c) hm
    have he : i / c * c + i % c = i := by rw [Nat.mul_comm]; exact Nat.div_add_mod i c
    rw [he, hg (i / c) hd (i % c) hm] at h1
    obtain ⟨h2, h3⟩ := List.getElem?_eq_some_iff.1 h1
    rw [h3]
    have h4 := hcell (i / c) (i % c) (by omega) hm
    rw [he] at h4
    exact h4
theorem bytes49 : 1 ≤ Try.prog.bytesOf 49 := of_decide_eq_true (by kernel_rfl)
theorem bytes39 : 1 ≤ Try.prog.bytesOf 39 := of_decide_eq_true (by kernel_rfl)
theorem cells49 : Try.prog.cellsOf 49 = 4 := by kernel_rfl
theorem cells39 : Try.prog.cellsOf 39 = 1 := by kernel_rfl
set_option maxRecDepth 100000 in
theorem rd_stones {r : Reach} {b0 : Nat} {v : Value} {d : DataW H} {ps : List MemPlace} (h : DataW.Trod enc Try.prog w 0 (fun _ => true) true 22 v d ps) (hv : Value.okWide Try.prog w r b0 22 v) (hw : ∀ k ∈ d.weights Try.prog 22, k ≤ reachBytes) (hlt : ∀ q ∈ ps, q.block < w.heap.size) :
    ∃ (a : Option Addr) (cap : Nat) (l : List StoneD), v = .slice a l.length cap ∧ SlS w (.slice a l.length cap) l ∧ (∀ ad, a = some ad → ad.block < w.heap.size) ∧ l.length ≤ cap := by
  obtain ⟨a, len, cap, rfl⟩ := okWide_slice Try.underlying22 hv
  obtain ⟨fuel, hf⟩ := h
  obtain ⟨a', len', cap', g, e, hcap, hr, hcc⟩ := rd_intRows (c := 4) (k := .i64) Try.underlying22 cells49 (by decide) bytes49 (fun n cs' y => stone_ints n cs' y) hf hw hlt
  simp only [Value.cells, List.cons.injEq, and_true] at e
  obtain ⟨rfl, rfl, rfl⟩ := Value.slice.inj e
  obtain ⟨l, hl⟩ : ∃ l, (List.range len).map (fun i => StoneD.mk (g i 0) (g i 1) (g i 2) (g i 3)) = l := ⟨_, rfl⟩
  have hL : l.length = len := by rw [← hl]; simp
  have h1 : SlV w (.slice a len cap) l.length (l.flatMap StoneD.cells) := slv_rows (c := 4) (g := g) (k := .i64) l (by decide) (fun _ => rfl) hL hr (fun i hi j hj => by
    have hil : i < len := by omega
    have hgi : l[i] = StoneD.mk (g i 0) (g i 1) (g i 2) (g i 3) := by
      have h2 : l[i]? = some (StoneD.mk (g i 0) (g i 1) (g i 2) (g i 3)) := by rw [← hl, List.getElem?_map, List.getElem?_range hil]; rfl
      rw [List.getElem?_eq_getElem hi] at h2
      exact Option.some.inj h2
    rw [hgi]
    rcases (show j = 0 ∨ j = 1 ∨ j = 2 ∨ j = 3 by omega) with rfl | rfl | rfl | rfl <;> rfl) hcc
  subst hL
  refine ⟨a, cap, l, rfl, h1, fun ad had => ?_, hcap⟩
  subst had
  simp only [Value.okWide, Try.underlying22, Cell.okWide, Cell.ok] at hv
  obtain ⟨-, -, -, -, row, cells, hsh, -⟩ := hv
  unfold World.shape? at hsh
  split at hsh
  · next ho => exact (Array.getElem?_eq_some_iff.1 ho).1
  · cases hsh
set_option maxRecDepth 100000 in
theorem rd_errs {r : Reach} {b0 : Nat} {v : Value} {d : DataW H} {ps : List MemPlace} (h : DataW.Trod enc Try.prog w 0 (fun _ => true) true 26 v d ps) (hv : Value.okWide Try.prog w r b0 26 v) (hw : ∀ k ∈ d.weights Try.prog 26, k ≤ reachBytes) (hlt : ∀ q ∈ ps, q.block < w.heap.size) :
    ∃ l, SlE w v l := by
  obtain ⟨a, len, cap, rfl⟩ := okWide_slice Try.underlying26 hv
  obtain ⟨fuel, hf⟩ := h
  obtain ⟨a', len', cap', g, e, hcap, hr, hcc⟩ := rd_intRows (c := 1) (k := .i16) Try.underlying26 cells39 (by decide) bytes39 (fun n cs' y => one_int n cs' y) hf hw hlt
  simp only [Value.cells, List.cons.injEq, and_true] at e
  obtain ⟨rfl, rfl, rfl⟩ := Value.slice.inj e
  refine ⟨(List.range len).map fun i => g i 0, a, cap, by simp, by simpa using hr, ?_⟩
  rcases hcc with h0 | ⟨b, off, rfl, hb, hcell⟩
  · exact .inl (by simpa using h0)
  · refine .inr ⟨b, off, rfl, hb, fun i hi => ?_⟩
    have hil : i < len := by simpa using hi
    have := hcell i 0 hil (by decide)
    simpa using this
set_option maxRecDepth 100000 in
theorem rd_tool {r : Reach} {b0 : Nat} {v : Value} {d : DataW H} {ps : List MemPlace} (h : DataW.Trod enc Try.prog w 0 (fun _ => true) true 25 v d ps) (hv : Value.okWide Try.prog w r b0 25 v) : ∃ off per : Int, v = .agg #[.int .i64 off, .int .i64 per] := by
  obtain ⟨cs, rfl, hsz⟩ := okWide_struct Try.underlying25 hv
  obtain ⟨fuel, hf⟩ := h
  have hf2 : DataW.trod enc Try.prog w 0 (fun _ => true) true fuel 25 cs.toList = some (d, ps) := hf
  obtain ⟨ys, m, -, -, hl, hyl, hfl⟩ := DataW.trod_struct Try.underlying25 hf2
  have e25 : Try.prog.cellsOf 25 = 2 := by kernel_rfl
  rw [e25] at hl
  obtain ⟨l⟩ := cs
  match l, hl with
  | [a, b], _ =>
    have hyl2 : ys.length = 2 := hyl
    have h0 : DataW.trod enc Try.prog w 0 (fun _ => true) true m 23 (List.take (Try.prog.cellsOf 23) [a, b]) = ys[0]? := hfl 0 _ rfl
    have h1 : DataW.trod enc Try.prog w 0 (fun _ => true) true m 3 (List.take (Try.prog.cellsOf 3) [b]) = ys[1]? := hfl 1 _ rfl
    have e3 : Try.prog.cellsOf 3 = 1 := by kernel_rfl
    have e23 : Try.prog.cellsOf 23 = 1 := by kernel_rfl
    simp only [e3, e23, List.take_succ_cons, List.take_zero] at h0 h1
    obtain ⟨za, ha, -, -⟩ := DataW.trod_int Try.underlying23 (h0.trans (List.getElem?_eq_getElem (by omega)))
    obtain ⟨zb, hb, -, -⟩ := DataW.trod_int Try.underlying3 (h1.trans (List.getElem?_eq_getElem (by omega)))
    have ha' : a = .int .i64 za := by simpa using ha
    have hb' : b = .int .i64 zb := by simpa using hb
    subst ha' hb'
    exact ⟨_, _, rfl⟩
end
end Go.Proofs.Ytolnhicngepnnaa
