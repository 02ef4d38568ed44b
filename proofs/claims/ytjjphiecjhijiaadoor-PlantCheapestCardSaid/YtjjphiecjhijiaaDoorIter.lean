import Derived.Test.YtjjphiecjhijiaaDoorMap
import Derived.Laws.IdiomRangeMap
namespace Go.Proofs.YtjjphiecjhijiaaDoor
open Go.RowKit

section
variable {P : Program} {K : Type} [DecidableEq K] {enc : K → Value} {t e mt : TypeId}

/-- The keys whose entries are still to come. -/
def leftK (m : List (K × Value)) (es : List MapEntry) (seen : Array Nat) : List K :=
  ((m.zip es).filter fun x => !seen.contains x.2.born).map fun x => x.1.1
/-- An iterator over a map that reads as a function: the keys still to come. -/
def IterF (enc : K → Value) (w : World) (r b : Nat) (M : K → Option Value) (left : List K) : Prop :=
  ∃ m es clock seen, w.heap[b]? = some (.map es clock) ∧ es.toList.map (fun e => (e.key, e.val)) = m.map (fun x => (enc x.1, x.2)) ∧ (m.map (·.1)).Nodup ∧
    (∀ e ∈ es.toList, e.born < clock) ∧ (es.toList.map (·.born)).Nodup ∧ (∀ k, getM m k = M k) ∧ w.heap[r]? = some (.mapIter (some b) clock seen clock) ∧ left = leftK m es.toList seen
/-- The iterator stands at an entry. -/
def AtF (w : World) (r b : Nat) (kv v : Value) : Prop :=
  ∃ es clock since seen st e, w.heap[b]? = some (.map es clock) ∧ w.heap[r]? = some (.mapIter (some b) since seen clock) ∧ seen.back? = some st ∧ es.find? (·.born == st) = some e ∧ e.key = kv ∧ e.val = v

theorem AtF.entry {w : World} {r b : Nat} {kv v : Value} (h : AtF w r b kv v) : (Instr.entry (.pointer (some ⟨r, 0, none⟩))).run P w = .ok (.tuple #[kv, v]) w := by
  obtain ⟨es, clock, since, seen, st, e, hb, hr, hs, hf, rfl, rfl⟩ := h
  simp only [Instr.entry, getObj, Sem.run_bind, Sem.run, hb, hr, Result.andThen, hs, bne_self_eq_false, Bool.false_eq_true, if_false, hf]
  rfl
theorem AtF.block {w w' : World} {r b : Nat} {kv v : Value} (h : AtF w r b kv v) (hb : w'.heap[b]? = w.heap[b]?) (hr : w'.heap[r]? = w.heap[r]?) : AtF w' r b kv v := by
  obtain ⟨es, clock, since, seen, st, e, h1, h2, h3⟩ := h
  exact ⟨es, clock, since, seen, st, e, hb.trans h1, hr.trans h2, h3⟩
theorem IterF.block {w w' : World} {r b : Nat} {M : K → Option Value} {left : List K} (h : IterF enc w r b M left) (hb : w'.heap[b]? = w.heap[b]?) (hr : w'.heap[r]? = w.heap[r]?) : IterF enc w' r b M left := by
  obtain ⟨m, es, clock, seen, h1, h2, h3, h4, h5, h6, h7, h8⟩ := h
  exact ⟨m, es, clock, seen, hb.trans h1, h2, h3, h4, h5, h6, hr.trans h7, h8⟩
theorem IterF.lt {w : World} {r b : Nat} {M : K → Option Value} {left : List K} (h : IterF enc w r b M left) : b < w.heap.size ∧ r < w.heap.size := by
  obtain ⟨m, es, clock, seen, h1, _, _, _, _, _, h7, _⟩ := h
  exact ⟨(Array.getElem?_eq_some_iff.1 h1).1, (Array.getElem?_eq_some_iff.1 h7).1⟩
theorem IterF.map {w : World} {r b : Nat} {M : K → Option Value} {left : List K} (h : IterF enc w r b M left) : MapF enc w b M := by
  obtain ⟨m, es, clock, seen, h1, h2, h3, h4, h5, h6, h7, h8⟩ := h
  exact ⟨m, ⟨es, clock, h1, h2, h3, h4, h5⟩, h6⟩

omit [DecidableEq K] in
theorem leftK_nil (m : List (K × Value)) (es : List MapEntry) (h : m.length = es.length) : leftK m es #[] = m.map (·.1) := by
  unfold leftK
  have : (m.zip es).filter (fun x => !(#[] : Array Nat).contains x.2.born) = m.zip es := by rw [List.filter_eq_self]; intro a _; simp
  rw [this]
  have h2 : (m.zip es).map (fun x => x.1.1) = ((m.zip es).map (·.1)).map (·.1) := by rw [List.map_map]; rfl
  rw [h2, List.map_fst_zip (by omega)]

/-- 'range' over a map. -/
theorem MapF.range (ht : P.underlying mt = some (.map t e)) {w : World} {b : Nat} {M : K → Option Value} (h : MapF enc w b M) :
    ∃ clock left, (Instr.range mt (.map (some b))).run P w = .ok (.pointer (some ⟨w.heap.size, 0, none⟩)) (w.alloc (.mapIter (some b) clock #[] clock)) ∧
      IterF enc (w.alloc (.mapIter (some b) clock #[] clock)) w.heap.size b M left ∧ left.Nodup ∧ ∀ k, k ∈ left ↔ (M k).isSome = true := by
  have hlt := h.lt
  obtain ⟨m, ⟨es, clock, hb, hm, hd, hbn, hn⟩, hM⟩ := h
  have hlen : m.length = es.toList.length := by have := congrArg List.length hm; simpa using this.symm
  refine ⟨clock, m.map (·.1), run_range_map w mt t e b es clock ht hb, ⟨m, es, clock, #[], ?_, hm, hd, hbn, hn, hM, heap_alloc_new _ _, (leftK_nil m es.toList hlen).symm⟩, hd, ?_⟩
  · rw [heap_alloc_old w _ hlt, hb]
  · intro k
    rw [← hM k]
    constructor
    · intro hk
      obtain ⟨x, hx, rfl⟩ := List.mem_map.1 hk
      rw [getM_of_mem hd (v := x.2) hx]; rfl
    · intro hk
      obtain ⟨v, hv⟩ := Option.isSome_iff_exists.1 hk
      exact List.mem_map.2 ⟨_, mem_of_getM hv, rfl⟩

theorem run_choose_next (n : Nat) (w : World) (hn : 0 < n) : ∃ i w', (choose (.mapNext n)).run P w = .ok i w' ∧ i < n ∧ w'.heap = w.heap ∧ w'.os = w.os ∧ w'.tape = w.tape ∧ w'.output = w.output := by
  simp only [choose, Sem.run]
  by_cases h : Question.forced (.mapNext n) = true
  · rw [if_pos h]
    exact ⟨0, w, rfl, hn, rfl, rfl, rfl, rfl⟩
  · rw [if_neg h]
    exact ⟨_, _, rfl, Nat.mod_lt _ hn, rfl, rfl, rfl, rfl⟩

omit [DecidableEq K] in
theorem leftK_sub {m : List (K × Value)} {es : List MapEntry} {seen : Array Nat} {k : K} (h : k ∈ leftK m es seen) : ∃ v, (k, v) ∈ m := by
  unfold leftK at h
  obtain ⟨x, hx, rfl⟩ := List.mem_map.1 h
  have := (List.mem_filter.1 hx).1
  exact ⟨x.1.2, (List.of_mem_zip this).1⟩
theorem leftK_step {m : List (K × Value)} {es : List MapEntry} {seen : Array Nat} (hlen : m.length = es.length) (hd : (m.map (·.1)).Nodup) (hn : (es.map (·.born)).Nodup) {i0 : Nat} (hi : i0 < es.length) :
    leftK m es (seen.push es[i0].born) = (leftK m es seen).filter (fun k => decide (k ≠ (m[i0]'(by omega)).1)) := by
  have him : i0 < m.length := by omega
  have key : ∀ y ∈ m.zip es, (y.2.born = es[i0].born ↔ y.1.1 = m[i0].1) := by
    intro y hy
    obtain ⟨j, hj, rfl⟩ := List.getElem_of_mem hy
    have hj1 : j < m.length := by simp at hj; omega
    have hj2 : j < es.length := by simp at hj; omega
    simp only [List.getElem_zip]
    rw [List.nodup_iff_pairwise_ne, List.pairwise_iff_getElem] at hd hn
    by_cases e : j = i0
    · subst e; simp
    · have h1 : m[j].1 ≠ m[i0].1 := by
        by_cases lt : j < i0
        · have := hd j i0 (by simpa using hj1) (by simpa using him) lt; simpa using this
        · have := hd i0 j (by simpa using him) (by simpa using hj1) (by omega); simp at this; exact fun h => this h.symm
      have h2 : es[j].born ≠ es[i0].born := by
        by_cases lt : j < i0
        · have := hn j i0 (by simpa using hj2) (by simpa using hi) lt; simpa using this
        · have := hn i0 j (by simpa using hi) (by simpa using hj2) (by omega); simp at this; exact fun h => this h.symm
      exact ⟨fun h => absurd h h2, fun h => absurd h h1⟩
  unfold leftK
  rw [List.filter_map, List.filter_filter]
  congr 1
  apply List.filter_congr
  intro y hy
  have := key y hy
  simp only [Array.contains_push, Function.comp]
  by_cases h : y.2.born = es[i0].born
  · have h2 := this.1 h
    simp [h, h2]
  · have h2 : ¬ y.1.1 = m[i0].1 := fun hh => h (this.2 hh)
    simp [h, h2]

theorem getM_at {m : List (K × Value)} (hd : (m.map (·.1)).Nodup) {i : Nat} (hi : i < m.length) : getM m m[i].1 = some m[i].2 :=
  getM_of_mem hd (List.getElem_mem hi)

/-- 'next' over a map that nobody writes meanwhile: nothing is left, or one of the keys that are left comes out. -/
theorem IterF.next {w : World} {r b : Nat} {M : K → Option Value} {left : List K} (h : IterF enc w r b M left) (ty : TypeId) :
    (left = [] ∧ (Instr.next (.pointer (some ⟨r, 0, none⟩)) false ty).run P w = .ok (.tuple #[.bool false]) w) ∨
    ∃ k v w', k ∈ left ∧ M k = some v ∧ (Instr.next (.pointer (some ⟨r, 0, none⟩)) false ty).run P w = .ok (.tuple #[.bool true, enc k, v]) w' ∧
      IterF enc w' r b M (left.filter (fun k' => decide (k' ≠ k))) ∧ AtF w' r b (enc k) v ∧ w.grownBy w' (some r) ∧ w'.heap.size = w.heap.size := by
  have hlt := h.lt
  obtain ⟨m, es, clock, seen, hb, hm, hd, hbn, hn, hM, hr, rfl⟩ := h
  have hlen : m.length = es.toList.length := by have := congrArg List.length hm; simpa using this.symm
  have hbr : b ≠ r := by intro e; subst e; rw [hb] at hr; cases hr
  have hL : ∀ x, x ∈ es.filter (fun e => !seen.contains e.born) ↔ x ∈ es ∧ seen.contains x.born = false := by intro x; simp [Array.mem_filter]
  have e1 : (es.filter (fun e => !seen.contains e.born)).filter (fun x => decide (x.born < clock)) = es.filter (fun e => !seen.contains e.born) :=
    Array.filter_eq_self.2 (fun x hx => by have := hbn x (by simpa using ((hL x).1 hx).1); simpa using this)
  have e2 : (es.filter (fun e => !seen.contains e.born)).filter (fun x => decide (x.born ≥ clock)) = #[] := by
    rw [Array.filter_eq_empty_iff]
    intro x hx
    have := hbn x (by simpa using ((hL x).1 hx).1)
    simp; omega
  have htest := next_test_false seen es clock clock (fun x hx => hbn x hx) (Nat.le_refl _)
  have hrun : (Instr.next (.pointer (some ⟨r, 0, none⟩)) false ty).run P w =
      ((choose (.mapNext ((if (es.filter (fun (e : MapEntry) => !seen.contains e.born)).isEmpty then #[none] else #[]) ++ (es.filter (fun (e : MapEntry) => !seen.contains e.born)).map some).size)).run P w).andThen fun i w1 =>
        Sem.run P (match ((if (es.filter (fun (e : MapEntry) => !seen.contains e.born)).isEmpty then #[none] else #[]) ++ (es.filter (fun (e : MapEntry) => !seen.contains e.born)).map some)[i]? with
          | some (some e) => do
            setObj r (.mapIter (some b) clock (seen.push e.born) clock)
            pure (.tuple #[.bool true, e.key, e.val])
          | some none => pure (.tuple #[.bool false])
          | none => stuck "Next: no such candidate") w1 := by
    simp only [Instr.next, getObj, Sem.run_bind, Sem.run, hr, hb, Result.andThen, htest, Bool.false_eq_true, if_false, e1, e2, Array.append_empty]
    rfl
  generalize hLe : es.filter (fun (e : MapEntry) => !seen.contains e.born) = L at *
  by_cases hemp : L.size = 0
  · left
    have hL0 : L = #[] := Array.eq_empty_of_size_eq_zero hemp
    subst hL0
    constructor
    · unfold leftK
      rw [List.map_eq_nil_iff, List.filter_eq_nil_iff]
      intro y hy
      have hy2 := (List.of_mem_zip hy).2
      have := (hL y.2)
      simp at this
      have h3 := this (by simpa using hy2)
      simpa using h3
    · rw [hrun]
      simp [choose, Sem.run, Question.forced, Result.andThen]
  · right
    have hemp' : L.isEmpty = false := by simp [Array.isEmpty, hemp]
    rw [hemp'] at hrun
    simp only [Bool.false_eq_true, if_false, Array.empty_append, Array.size_map] at hrun
    obtain ⟨i, w1, hch, hi, hh, ho1, ho2, ho3⟩ := run_choose_next (P := P) L.size w (by omega)
    rw [hch] at hrun
    simp only [Result.andThen] at hrun
    have hget : (L.map some)[i]? = some (some L[i]) := by simp [hi]
    rw [hget] at hrun
    have hmem : L[i] ∈ es ∧ seen.contains L[i].born = false := (hL _).1 (Array.getElem_mem hi)
    obtain ⟨i0, hi0, he0⟩ := List.getElem_of_mem (show L[i] ∈ es.toList by simpa using hmem.1)
    have him : i0 < m.length := by omega
    have hkv : (es.toList[i0].key, es.toList[i0].val) = (enc m[i0].1, m[i0].2) := by
      have h3 : (es.toList.map (fun e => (e.key, e.val)))[i0]? = (m.map (fun x => (enc x.1, x.2)))[i0]? := by rw [hm]
      rw [List.getElem?_map, List.getElem?_map, List.getElem?_eq_getElem hi0, List.getElem?_eq_getElem him] at h3
      simpa using h3
    simp only [Prod.mk.injEq] at hkv
    rw [he0] at hkv
    have hr1 : w1.heap[r]? = some (.mapIter (some b) clock seen clock) := by rw [hh]; exact hr
    have hw2r : ({ w1 with heap := w1.heap.setIfInBounds r (.mapIter (some b) clock (seen.push L[i].born) clock) } : World).heap[r]? = some (.mapIter (some b) clock (seen.push L[i].born) clock) := by
      have := hlt.2
      simp [hh, this]
    have hw2b : ({ w1 with heap := w1.heap.setIfInBounds r (.mapIter (some b) clock (seen.push L[i].born) clock) } : World).heap[b]? = some (.map es clock) := by
      simp only [Array.getElem?_setIfInBounds]
      rw [if_neg (fun e => hbr e.symm), hh, hb]
    refine ⟨m[i0].1, m[i0].2, { w1 with heap := w1.heap.setIfInBounds r (.mapIter (some b) clock (seen.push L[i].born) clock) }, ?_, ?_, ?_, ?_, ?_, ?_, ?_⟩
    · unfold leftK
      refine List.mem_map.2 ⟨(m[i0], es.toList[i0]), List.mem_filter.2 ⟨?_, ?_⟩, rfl⟩
      · exact List.mem_of_getElem? (i := i0) (by rw [List.getElem?_zip_eq_some]; exact ⟨List.getElem?_eq_getElem him, List.getElem?_eq_getElem hi0⟩)
      · simp only [he0, hmem.2]; rfl
    · rw [← hM]; exact getM_at hd him
    · rw [hrun, ← hkv.1, ← hkv.2]
      simp [setObj, Sem.run, hr1, Result.andThen]
    · refine ⟨m, es, clock, seen.push L[i].born, hw2b, hm, hd, hbn, hn, hM, hw2r, ?_⟩
      have := leftK_step (seen := seen) hlen hd hn hi0
      rw [he0] at this
      exact this.symm
    · refine ⟨es, clock, clock, seen.push L[i].born, L[i].born, L[i], hw2b, hw2r, by simp, ?_, hkv.1, hkv.2⟩
      rw [← Array.find?_toList]
      rw [List.find?_eq_some_iff_getElem]
      refine ⟨by simp, i0, hi0, he0, ?_⟩
      intro j hj
      rw [List.nodup_iff_pairwise_ne, List.pairwise_iff_getElem] at hn
      have := hn j i0 (by simp; simp at hi0; omega) (by simpa using hi0) hj
      simp only [List.getElem_map] at this
      rw [he0] at this
      simpa using this
    · refine ⟨ho1, ho2, ho3, by simp [hh], fun k _ hk => ?_⟩
      simp only [Array.getElem?_setIfInBounds]
      rw [if_neg (fun e => hk (by rw [e])), hh]
    · simp [hh]
end
end Go.Proofs.YtjjphiecjhijiaaDoor
