import Derived.Test.YtolnhicngepnnaaGreatBase
import Derived.Laws.StructEq
import Derived.MapKept
namespace Go.Proofs.YtolnhicngepnnaaGreat
open Go.RowKit

/-- The place of a key in a list of entries. -/
def findM {K : Type} [DecidableEq K] (k : K) : List (K × Value) → Nat → Option (Nat × Value)
  | [], _ => none
  | (k', v) :: m, i => if k = k' then some (i, v) else findM k m (i + 1)
def getM {K : Type} [DecidableEq K] (m : List (K × Value)) (k : K) : Option Value := (findM k m 0).map (·.2)
def setM {K : Type} [DecidableEq K] (m : List (K × Value)) (k : K) (v : Value) : List (K × Value) :=
  match findM k m 0 with
  | some (i, _) => m.set i (k, v)
  | none => m ++ [(k, v)]

theorem findM_shift {K : Type} [DecidableEq K] (k : K) (m : List (K × Value)) : ∀ i, findM k m i = (findM k m 0).map fun x => (x.1 + i, x.2) := by
  induction m with
  | nil => intro i; rfl
  | cons x m ih =>
    intro i
    obtain ⟨k', v⟩ := x
    simp only [findM]
    split
    · simp
    · rw [ih (i + 1), ih 1]
      cases findM k m 0 <;> simp; omega
theorem findM_some {K : Type} [DecidableEq K] {k : K} {m : List (K × Value)} {i : Nat} {v : Value} (h : findM k m 0 = some (i, v)) : m[i]? = some (k, v) := by
  induction m generalizing i with
  | nil => simp [findM] at h
  | cons x m ih =>
    obtain ⟨k', v'⟩ := x
    simp only [findM] at h
    split at h
    · rename_i e
      simp at h
      obtain ⟨rfl, rfl⟩ := h
      simp [e]
    · rw [findM_shift] at h
      cases e : findM k m 0 with
      | none => rw [e] at h; simp at h
      | some y =>
        obtain ⟨a, b⟩ := y
        rw [e] at h
        simp at h
        obtain ⟨rfl, rfl⟩ := h
        simpa using ih e
theorem findM_none {K : Type} [DecidableEq K] {k : K} {m : List (K × Value)} (h : findM k m 0 = none) : ∀ x ∈ m, x.1 ≠ k := by
  induction m with
  | nil => simp
  | cons x m ih =>
    obtain ⟨k', v'⟩ := x
    simp only [findM] at h
    split at h
    · simp at h
    · rename_i e
      rw [findM_shift] at h
      have h' : findM k m 0 = none := by cases e2 : findM k m 0 <;> simp [e2] at h ⊢
      intro y hy
      simp only [List.mem_cons] at hy
      rcases hy with rfl | hy
      · exact fun e3 => e e3.symm
      · exact ih h' y hy
theorem findM_isSome {K : Type} [DecidableEq K] {k : K} {m : List (K × Value)} (h : ∃ x ∈ m, x.1 = k) : (findM k m 0).isSome = true := by
  cases e : findM k m 0 with
  | some _ => rfl
  | none =>
    obtain ⟨x, hx, hk⟩ := h
    exact absurd hk (findM_none e x hx)
/-- With keys apart, an entry is what is found at its key. -/
theorem getM_of_mem {K : Type} [DecidableEq K] {m : List (K × Value)} (hd : (m.map (·.1)).Nodup) {k : K} {v : Value} (h : (k, v) ∈ m) : getM m k = some v := by
  have hs := findM_isSome (k := k) ⟨_, h, rfl⟩
  obtain ⟨⟨i, v'⟩, hi⟩ := Option.isSome_iff_exists.1 hs
  have h1 := findM_some hi
  obtain ⟨j, hj, hjv⟩ := List.getElem_of_mem h
  obtain ⟨hi', hiv⟩ := List.getElem?_eq_some_iff.1 h1
  have : i = j := by
    rw [List.nodup_iff_pairwise_ne, List.pairwise_iff_getElem] at hd
    by_cases e : i = j
    · exact e
    · exfalso
      by_cases lt : i < j
      · exact hd i j (by simpa using hi') (by simpa using hj) lt (by simp [hiv, hjv])
      · exact hd j i (by simpa using hj) (by simpa using hi') (by omega) (by simp [hiv, hjv])
  subst this
  rw [hiv] at hjv
  simp at hjv
  simp [getM, hi, hjv]
theorem mem_of_getM {K : Type} [DecidableEq K] {m : List (K × Value)} {k : K} {v : Value} (h : getM m k = some v) : (k, v) ∈ m := by
  unfold getM at h
  cases e : findM k m 0 with
  | none => rw [e] at h; simp at h
  | some y =>
    obtain ⟨i, v'⟩ := y
    rw [e] at h
    simp at h
    subst h
    exact List.mem_of_getElem? (findM_some e)
theorem keys_setM {K : Type} [DecidableEq K] (m : List (K × Value)) (k : K) (v : Value) (hd : (m.map (·.1)).Nodup) : ((setM m k v).map (·.1)).Nodup := by
  unfold setM
  cases e : findM k m 0 with
  | none =>
    simp only [List.map_append, List.map_cons, List.map_nil]
    rw [List.nodup_append]
    refine ⟨hd, by simp, ?_⟩
    intro a ha b hb
    simp at hb
    subst hb
    obtain ⟨x, hx, rfl⟩ := List.mem_map.1 ha
    exact findM_none e x hx
  | some y =>
    obtain ⟨i, v'⟩ := y
    have h1 := findM_some e
    have : (m.set i (k, v)).map (·.1) = m.map (·.1) := by
      rw [List.map_set]
      apply List.ext_getElem?
      intro j
      rw [List.getElem?_set]
      split
      · rename_i hij
        subst hij
        rw [List.getElem?_map, h1]
        obtain ⟨hi', _⟩ := List.getElem?_eq_some_iff.1 h1
        simp [hi']
      · rfl
    simp only [this]
    exact hd
theorem getM_setM {K : Type} [DecidableEq K] (m : List (K × Value)) (k : K) (v : Value) (hd : (m.map (·.1)).Nodup) (k' : K) : getM (setM m k v) k' = if k' = k then some v else getM m k' := by
  have hd' := keys_setM m k v hd
  by_cases hk : k' = k
  · subst hk
    rw [if_pos rfl]
    apply getM_of_mem hd'
    unfold setM
    cases e : findM k' m 0 with
    | none => simp
    | some y =>
      obtain ⟨i, v'⟩ := y
      have h1 := findM_some e
      obtain ⟨hi', _⟩ := List.getElem?_eq_some_iff.1 h1
      exact List.mem_of_getElem? (i := i) (by rw [List.getElem?_set]; simp [hi'])
  · rw [if_neg hk]
    have key : ∀ u, ((k', u) ∈ setM m k v ↔ (k', u) ∈ m) := by
      intro u
      unfold setM
      cases e : findM k m 0 with
      | none => simp [hk]
      | some y =>
        obtain ⟨i, v'⟩ := y
        have h1 := findM_some e
        obtain ⟨hi', hiv⟩ := List.getElem?_eq_some_iff.1 h1
        constructor
        · intro h
          rcases List.mem_or_eq_of_mem_set h with h | h
          · exact h
          · simp at h; exact absurd h.1 hk
        · intro h
          obtain ⟨j, hj, hjv⟩ := List.getElem_of_mem h
          have hij : i ≠ j := by
            intro hh; subst hh
            rw [hiv] at hjv; simp at hjv; exact hk hjv.1.symm
          exact List.mem_of_getElem? (i := j) (by rw [List.getElem?_set]; simp [hij, hj, hjv])
    cases e : getM m k' with
    | none =>
      cases e2 : getM (setM m k v) k' with
      | none => rfl
      | some u =>
        have := getM_of_mem hd ((key u).1 (mem_of_getM e2))
        rw [e] at this; simp at this
    | some u =>
      exact getM_of_mem hd' ((key u).2 (mem_of_getM e))

section
variable {P : Program}

/-- What is asked of a key's type: keys are found by being equal, and nothing is drawn. -/
structure KeyT (P : Program) (t : TypeId) (K : Type) [DecidableEq K] (enc : K → Value) : Prop where
  find : ∀ (k : K) (es : List MapEntry) (m : List (K × Value)) (w : World), es.map (fun e => (e.key, e.val)) = m.map (fun x => (enc x.1, x.2)) → (Instr.findKey t (enc k) es).run P w = .ok (findM k m 0) w
  check : ∀ (b : Bool) (k : K) (w : World), (Instr.checkKey b 10000 t (enc k)).run P w = .ok () w
  same : ∀ k : K, Instr.sameBits 10000 (enc k) (enc k) = true

/-- A map's block that holds these entries, in this order. -/
def MapL {K : Type} [DecidableEq K] (enc : K → Value) (w : World) (b : Nat) (m : List (K × Value)) : Prop :=
  ∃ es clock, w.heap[b]? = some (.map es clock) ∧ es.toList.map (fun e => (e.key, e.val)) = m.map (fun x => (enc x.1, x.2)) ∧ (m.map (·.1)).Nodup ∧
    (∀ e ∈ es.toList, e.born < clock) ∧ (es.toList.map (·.born)).Nodup
/-- A map's block that reads as a function. -/
def MapF {K : Type} [DecidableEq K] (enc : K → Value) (w : World) (b : Nat) (M : K → Option Value) : Prop :=
  ∃ m, MapL enc w b m ∧ ∀ k, getM m k = M k

variable {K : Type} [DecidableEq K] {enc : K → Value} {t e mt : TypeId}

theorem MapF.lt {w : World} {b : Nat} {M : K → Option Value} (h : MapF enc w b M) : b < w.heap.size := by
  obtain ⟨m, ⟨es, clock, hb, _⟩, _⟩ := h
  exact (Array.getElem?_eq_some_iff.1 hb).1
theorem MapF.block {w w' : World} {b : Nat} {M : K → Option Value} (h : MapF enc w b M) (hb : w'.heap[b]? = w.heap[b]?) : MapF enc w' b M := by
  obtain ⟨m, ⟨es, clock, h1, h2⟩, h3⟩ := h
  exact ⟨m, ⟨es, clock, hb.trans h1, h2⟩, h3⟩
theorem MapF.below {w w' : World} {b B : Nat} {M : K → Option Value} (h : MapF enc w b M) (hb : Below B w w') (hB : b < B) : MapF enc w' b M := h.block (hb.block b hB)
theorem MapF.below' {w w' : World} {b : Nat} {M : K → Option Value} (h : MapF enc w b M) (hb : Below w.heap.size w w') : MapF enc w' b M := h.below hb h.lt
theorem MapF.made (w : World) : MapF enc (w.alloc (.map #[] 0)) w.heap.size (fun _ => none) :=
  ⟨[], ⟨#[], 0, heap_alloc_new _ _, rfl, by simp, by simp, by simp⟩, fun _ => rfl⟩
theorem MapF.congr {w : World} {b : Nat} {M M' : K → Option Value} (h : MapF enc w b M) (hm : ∀ k, M k = M' k) : MapF enc w b M' := by
  obtain ⟨m, h1, h2⟩ := h
  exact ⟨m, h1, fun k => (h2 k).trans (hm k)⟩

theorem MapF.lookup_ok (KT : KeyT P t K enc) (ht : P.underlying mt = some (.map t e)) {w : World} {b : Nat} {M : K → Option Value} (h : MapF enc w b M) {z : Value} (hz : (zeroValue e).run P w = .ok z w) (k : K) :
    (Instr.lookup mt (.map (some b)) (enc k) true).run P w = .ok (.tuple #[(M k).getD z, .bool (M k).isSome]) w := by
  obtain ⟨m, ⟨es, clock, hb, hm, hd, hbn, hn⟩, hM⟩ := h
  have h1 := KT.find k es.toList m w hm
  rw [← hM k]
  unfold getM
  cases e1 : findM k m 0 with
  | none => rw [e1] at h1; simp [Instr.lookup, run_underlying ht, MapKept.run_getObj_map hb, KT.check, h1, hz, Result.andThen]
  | some y => obtain ⟨i, v⟩ := y; rw [e1] at h1; simp [Instr.lookup, run_underlying ht, MapKept.run_getObj_map hb, KT.check, h1, Result.andThen]
theorem MapF.lookup (KT : KeyT P t K enc) (ht : P.underlying mt = some (.map t e)) {w : World} {b : Nat} {M : K → Option Value} (h : MapF enc w b M) {z : Value} (hz : (zeroValue e).run P w = .ok z w) (k : K) :
    (Instr.lookup mt (.map (some b)) (enc k) false).run P w = .ok ((M k).getD z) w := by
  obtain ⟨m, ⟨es, clock, hb, hm, hd, hbn, hn⟩, hM⟩ := h
  have h1 := KT.find k es.toList m w hm
  rw [← hM k]
  unfold getM
  cases e1 : findM k m 0 with
  | none => rw [e1] at h1; simp [Instr.lookup, run_underlying ht, MapKept.run_getObj_map hb, KT.check, h1, hz, Result.andThen]
  | some y => obtain ⟨i, v⟩ := y; rw [e1] at h1; simp [Instr.lookup, run_underlying ht, MapKept.run_getObj_map hb, KT.check, h1, Result.andThen]

theorem run_setObj_map {w : World} {b : Nat} {es : Array MapEntry} {c : Nat} (hb : w.heap[b]? = some (.map es c)) (o : Obj) : (setObj b o).run P w = .ok () { w with heap := w.heap.setIfInBounds b o } := by
  simp [setObj, Sem.run, hb]
theorem setObj_grown (w : World) (b : Nat) (o : Obj) : w.grownBy { w with heap := w.heap.setIfInBounds b o } (some b) :=
  ⟨rfl, rfl, rfl, by simp, fun k _ hk => by simp only [Array.getElem?_setIfInBounds]; rw [if_neg]; intro hh; exact hk (by rw [hh])⟩

theorem MapF.update (KT : KeyT P t K enc) (ht : P.underlying mt = some (.map t e)) {w : World} {b : Nat} {M : K → Option Value} (h : MapF enc w b M) (k : K) (v : Value) :
    ∃ w', (Instr.mapUpdate mt (.map (some b)) (enc k) v).run P w = .ok () w' ∧ MapF enc w' b (fun k' => if k' = k then some v else M k') ∧ w.grownBy w' (some b) ∧ w'.heap.size = w.heap.size := by
  have hlt := h.lt
  obtain ⟨m, ⟨es, clock, hb, hm, hd, hbn, hn⟩, hM⟩ := h
  have h1 := KT.find k es.toList m w hm
  have hset : ∀ o : Obj, ({ w with heap := w.heap.setIfInBounds b o } : World).heap[b]? = some o := by
    intro o; simp [hlt]
  have hMs : ∀ k', getM (setM m k v) k' = if k' = k then some v else M k' := fun k' => by rw [getM_setM m k v hd, hM]
  cases e1 : findM k m 0 with
  | none =>
    rw [e1] at h1
    refine ⟨{ w with heap := w.heap.setIfInBounds b (.map (es.push { key := enc k, val := v, born := clock }) (clock + 1)) }, ?_, ⟨setM m k v, ⟨_, _, hset _, ?_, keys_setM m k v hd, ?_, ?_⟩, hMs⟩, setObj_grown _ _ _, by simp⟩
    · simp [Instr.mapUpdate, run_underlying ht, MapKept.run_getObj_map hb, KT.check, h1, run_setObj_map hb, Result.andThen]
    · simp [setM, e1, hm]
    · intro x hx
      simp at hx
      rcases hx with hx | rfl
      · have := hbn x (by simpa using hx); omega
      · simp
    · simp only [Array.toList_push, List.map_append, List.map_cons, List.map_nil]
      rw [List.nodup_append]
      refine ⟨hn, by simp, ?_⟩
      intro a ha c hc
      simp only [List.mem_singleton] at hc
      subst hc
      obtain ⟨x, hx, rfl⟩ := List.mem_map.1 ha
      have := hbn x hx
      omega
  | some y =>
    obtain ⟨i, v0⟩ := y
    rw [e1] at h1
    have h2 := findM_some e1
    have hlen : es.toList.length = m.length := by have := congrArg List.length hm; simpa using this
    obtain ⟨hi, hiv⟩ := List.getElem?_eq_some_iff.1 h2
    have hi' : i < es.size := by have : es.toList.length = es.size := by simp
                                 omega
    have hkey : (es[i]'hi').key = enc k := by
      have h3 : (es.toList.map (fun e => (e.key, e.val)))[i]? = (m.map (fun x => (enc x.1, x.2)))[i]? := by rw [hm]
      rw [List.getElem?_map, List.getElem?_map, h2] at h3
      simp [hi'] at h3
      exact h3.1
    refine ⟨{ w with heap := w.heap.setIfInBounds b (.map (es.modify i fun e => { e with key := enc k, val := v }) clock) }, ?_, ⟨setM m k v, ⟨_, _, hset _, ?_, keys_setM m k v hd, ?_, ?_⟩, hMs⟩, setObj_grown _ _ _, by simp⟩
    · simp [Instr.mapUpdate, run_underlying ht, MapKept.run_getObj_map hb, KT.check, h1, run_setObj_map hb, Result.andThen, Instr.keyThatStays, hi', hkey, KT.same]
    · simp only [setM, e1]
      apply List.ext_getElem?
      intro j
      have h3 : (es.toList.map (fun e => (e.key, e.val)))[j]? = (m.map (fun x => (enc x.1, x.2)))[j]? := by rw [hm]
      simp only [List.getElem?_map, Array.toList_modify, List.getElem?_modify, List.getElem?_set] at h3 ⊢
      by_cases hij : i = j
      · subst hij
        simp [hi, hi']
      · simp only [hij, if_false]
        rw [← h3]
        cases es.toList[j]? <;> simp
    · intro x hx
      simp only [Array.toList_modify] at hx
      obtain ⟨j, hj, rfl⟩ := List.getElem_of_mem hx
      rw [List.getElem_modify]
      have hj' : j < es.toList.length := by simpa using hj
      have := hbn _ (List.getElem_mem hj')
      split <;> simpa using this
    · have : (es.modify i fun e => { e with key := enc k, val := v }).toList.map (·.born) = es.toList.map (·.born) := by
        apply List.ext_getElem?
        intro j
        simp only [List.getElem?_map, Array.toList_modify, List.getElem?_modify]
        cases es.toList[j]? <;> simp
        split <;> rfl
      rw [this]; exact hn
end
end Go.Proofs.YtolnhicngepnnaaGreat
