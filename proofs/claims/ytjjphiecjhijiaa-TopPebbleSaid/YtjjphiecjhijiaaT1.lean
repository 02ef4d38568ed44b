/- besomtop.TopPebble: the jobs of the draws, and the plain law. -/
import Derived.Test.YtjjphiecjhijiaaS12
import Derived.Test.YtjjphiecjhijiaaM1
namespace Go.Proofs.Ytjjphiecjhijiaa
open Go.RowKit

theorem info30 : (Try.prog.info? 30).map (fun i => (i.zero, i.size, i.bytes)) = some (some (.agg #[.int .i64 0, .int .i64 0, .int .i64 0]), 3, 24) := by kernel_rfl
theorem made_job (w : World) (base : Nat) (m : Mach) (hb : base ≤ w.heap.size) : (w.alloc (.cells #[.int .i64 m.cold, .int .i64 m.power, .int .i64 m.start] 30)).ownsRow base 30 3 (.slice (some ⟨w.heap.size, 0, none⟩) 1 1) 1 m.cells :=
  ⟨rfl, .inr ⟨w.heap.size, 1, _, rfl, hb, heap_alloc_new w _, Nat.le_refl _, by decide, rfl, rfl⟩⟩
theorem cellsM_len : ∀ l : List Mach, (l.flatMap Mach.cells).length = l.length * 3
  | [] => rfl
  | x :: l => by rw [List.flatMap_cons, List.length_append, cellsM_len l, List.length_cons]; simp only [Mach.cells, List.length_cons, List.length_nil]; omega
theorem SlM_of_own {w : World} {base : Nat} {v : Value} {l : List Mach} (h : w.ownsRow base 30 3 v l.length (l.flatMap Mach.cells)) (hn : l.length ≤ 140737488351232) : SlM w v l := by
  have hlen := cellsM_len l
  rcases h.2 with ⟨rfl, h0⟩ | ⟨g, cap, cur, rfl, hg, hh, hnc, hcm, hcs, htake⟩
  · exact ⟨none, 0, by rw [h0], hn, .inl h0⟩
  · refine ⟨_, cap, rfl, hn, .inr ⟨g, 0, rfl, (Array.getElem?_eq_some_iff.1 hh).1, fun i hi => ?_⟩⟩
    rw [hlen] at hi
    rw [Nat.zero_add, h.cellAt i hi]
    exact List.getElem?_eq_getElem (by rw [hlen]; exact hi)
/-- The first draw that does not fit, of the first k. -/
def firstP (n c : Nat) (ds : List Nat) (k : Nat) : Int := if 0 < k ∧ n * c < ds.getD 0 0 then 0 else -1
theorem firstP_succ {n c m : Nat} {ds : List Nat} (hg : GoodD m ds) {i : Nat} (hi : i < ds.length) :
    firstP n c ds (i + 1) = if firstP n c ds i < 0 then (if n * c < ds.getD i 0 then (i : Int) else -1) else firstP n c ds i := by
  have h0 : ds.getD i 0 ≤ ds.getD 0 0 := by
    have h1 : ds.getD 0 0 = m := by
      rcases ds with - | ⟨d, r⟩
      · simp at hi
      · exact hg.2 d rfl
    rw [h1, List.getD_eq_getElem?_getD, List.getElem?_eq_getElem hi]
    exact hg.1 _ (List.getElem_mem _)
  unfold firstP
  by_cases hz : i = 0
  · subst hz
    generalize ds.getD 0 0 = a
    by_cases h : n * c < a <;> simp [h]
  · have hp : 0 < i := Nat.pos_of_ne_zero hz
    generalize ds.getD 0 0 = a at *
    generalize ds.getD i 0 = b at *
    by_cases h : n * c < a
    · simp [h, hp]
    · have h2 : ¬ n * c < b := by omega
      simp [h, h2]
/-- All jobs are good where the draws end by slot 500. -/
theorem jobs_good {n m : Nat} (hn : 1 ≤ n) {ds : List Nat} (hg : GoodD m ds) (hm : m ≤ 8) (h5 : ds.length * n ≤ 500) (h2 : (jobsP n ds ds.length).length ≤ 200) : jobsOk (jobsP n ds ds.length) = true := by
  unfold jobsOk
  simp only [Bool.and_eq_true, decide_eq_true_eq, Bool.not_eq_true', List.any_eq_false]
  refine ⟨h2, fun j hj => ?_⟩
  obtain ⟨i, hi, hj⟩ := jobsP_mem hj
  obtain ⟨k, hk, rfl⟩ := drawJ_mem hj
  have hd : ds.getD i 0 ≤ m := by
    rw [List.getD_eq_getElem?_getD, List.getElem?_eq_getElem hi]
    exact hg.1 _ (List.getElem_mem _)
  have h1 : (i + 1) * n ≤ ds.length * n := Nat.mul_le_mul_right n hi
  have h3 : i * n + n = (i + 1) * n := by rw [Nat.add_mul, Nat.one_mul]
  generalize (i + 1) * n = e at *
  generalize i * n = b at *
  simp [badJ, inB]
  omega
/-- No draw is greater than the first: in the jobs. -/
theorem jobs_from {n c m : Nat} (hn : 1 ≤ n) {ds : List Nat} (hg : GoodD m ds) (hc : ¬ n * c < ds.getD 0 0) (i : Nat) : fromN (jobsP n ds ds.length) ((i * n : Nat) : Int) ≤ n * c := by
  rw [jobsP_from hn]
  split
  · next hi =>
    have h1 : ds.getD 0 0 = m := by
      rcases ds with - | ⟨d, r⟩
      · simp at hi
      · exact hg.2 d rfl
    have : ds.getD i 0 ≤ m := by
      rw [List.getD_eq_getElem?_getD, List.getElem?_eq_getElem hi]
      exact hg.1 _ (List.getElem_mem _)
    omega
  · omega
theorem jobs_from0 {n : Nat} (hn : 1 ≤ n) {ds : List Nat} (h : 0 < ds.length) : fromN (jobsP n ds ds.length) 0 = ds.getD 0 0 := by
  have := jobsP_from hn ds 0 ds.length
  simpa [h] using this
theorem jobs_b {n k : Nat} {ds : List Nat} (hk : k ≤ 128) (hn : n ≤ 4) : ∀ j ∈ jobsP n ds k, j.power ≤ 1000000 := by
  intro j hj
  obtain ⟨i, hi, hj⟩ := jobsP_mem hj
  obtain ⟨q, hq, rfl⟩ := drawJ_mem hj
  have : i * n ≤ 128 * 4 := Nat.mul_le_mul (by omega) hn
  simp only
  omega
theorem jobs_start {l : List Mach} (h : jobsOk l = true) : ∀ j ∈ l, j.start ≤ 500 := by
  intro j hj
  unfold jobsOk at h
  simp only [Bool.and_eq_true, decide_eq_true_eq, Bool.not_eq_true', List.any_eq_false] at h
  have := h.2 j hj
  simp [badJ, inB] at this
  omega
theorem drawJ_succ (n i k : Nat) : drawJ n i (k + 1) = drawJ n i k ++ [⟨(k : Int), ((i * n : Nat) : Int), (((i + 1) * n : Nat) : Int)⟩] := by
  unfold drawJ
  rw [List.range_succ, List.map_append]
  rfl
theorem jobsP_len {n m : Nat} {ds : List Nat} (hg : GoodD m ds) (hm : m ≤ 8) : ∀ k, k ≤ ds.length → (jobsP n ds k).length ≤ 8 * k
  | 0, _ => by simp [jobsP]
  | k + 1, h => by
    have ih := jobsP_len (n := n) hg hm k (by omega)
    have hd : ds.getD k 0 ≤ m := by
      rw [List.getD_eq_getElem?_getD, List.getElem?_eq_getElem (by omega)]
      exact hg.1 _ (List.getElem_mem _)
    simp only [jobsP, List.length_append, drawJ, List.length_map, List.length_range]
    omega
end Go.Proofs.Ytjjphiecjhijiaa
