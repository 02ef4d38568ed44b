import Derived.Test.YtjjphiecjhijiaaJ7
namespace Go.Proofs.Ytjjphiecjhijiaa
open Go.RowKit Go.Maps

/-- The job to be done first. -/
def minJ (l : List Mach) : List Nat → Nat
  | [] => 0
  | x :: q => q.foldl (fun m y => if lessJ l y m then y else m) x
theorem minJ_fold (l : List Mach) (q : List Nat) : ∀ x, (q.foldl (fun m y => if lessJ l y m then y else m) x = x ∨ q.foldl (fun m y => if lessJ l y m then y else m) x ∈ q) ∧
    lessJ l x (q.foldl (fun m y => if lessJ l y m then y else m) x) = false ∧ ∀ y ∈ q, lessJ l y (q.foldl (fun m y => if lessJ l y m then y else m) x) = false := by
  induction q with
  | nil => intro x; exact ⟨.inl rfl, (less_ord l).irr x, by simp⟩
  | cons y q ih =>
    intro x
    simp only [List.foldl_cons]
    by_cases h : lessJ l y x = true
    · rw [if_pos h]
      obtain ⟨h1, h2, h3⟩ := ih y
      have hxy : lessJ l x y = false := by
        cases hx : lessJ l x y with
        | false => rfl
        | true => have := (less_ord l).tr _ _ _ h hx; rw [(less_ord l).irr] at this; cases this
      refine ⟨?_, (less_ord l).ntr _ _ _ hxy h2, ?_⟩
      · rcases h1 with h1 | h1
        · exact .inr (by rw [h1]; simp)
        · exact .inr (List.mem_cons_of_mem _ h1)
      · intro z hz
        rcases List.mem_cons.1 hz with rfl | hz
        · exact h2
        · exact h3 z hz
    · have h' : lessJ l y x = false := by simpa using h
      rw [if_neg h]
      obtain ⟨h1, h2, h3⟩ := ih x
      refine ⟨h1.imp id (List.mem_cons_of_mem _), h2, ?_⟩
      intro z hz
      rcases List.mem_cons.1 hz with rfl | hz
      · exact (less_ord l).ntr _ _ _ h' h2
      · exact h3 z hz
theorem minJ_mem (l : List Mach) {q : List Nat} (h : q ≠ []) : minJ l q ∈ q := by
  cases q with
  | nil => exact absurd rfl h
  | cons x q =>
    rcases (minJ_fold l q x).1 with e | e
    · show List.foldl _ x q ∈ _; rw [e]; simp
    · exact List.mem_cons_of_mem _ e
theorem minJ_least (l : List Mach) {q : List Nat} : ∀ y ∈ q, lessJ l y (minJ l q) = false := by
  cases q with
  | nil => simp
  | cons x q =>
    intro y hy
    rcases List.mem_cons.1 hy with rfl | hy
    · exact (minJ_fold l q y).2.1
    · exact (minJ_fold l q x).2.2 y hy
theorem minJ_unique (l : List Mach) {q : List Nat} {x : Nat} (h : x ∈ q) (hm : ∀ y ∈ q, lessJ l y x = false) : x = minJ l q := by
  have hne : q ≠ [] := by rintro rfl; simp at h
  by_cases e : x = minJ l q
  · exact e
  · have a := (less_ord l).tot _ _ e (minJ_least l x h)
    rw [hm _ (minJ_mem l hne)] at a; cases a
/-- The first of the heap is the job to be done first. -/
theorem heap_min (l : List Mach) {a q : List Nat} (ho : HeapO (lessJ l) a) (hp : a.Perm q) (hne : 0 < a.length) : a.getD 0 0 = minJ l q ∧ (cutL a).Perm (q.erase (minJ l q)) := by
  have hmem : a.getD 0 0 ∈ q := by
    refine hp.mem_iff.1 ?_
    rw [List.getD_eq_getElem?_getD, List.getElem?_eq_getElem hne]
    exact List.getElem_mem _
  have e : a.getD 0 0 = minJ l q := by
    refine minJ_unique l hmem (fun y hy => ?_)
    obtain ⟨j, hj, rfl⟩ := List.getElem_of_mem (hp.mem_iff.2 hy)
    have := ho.first (less_ord l) j j (Nat.le_refl _) hj
    simpa [List.getD_eq_getElem?_getD, hj] using this
  refine ⟨e, ?_⟩
  cases a with
  | nil => simp at hne
  | cons x r =>
    have ex : x = minJ l q := by simpa using e
    refine (cutL_perm x r).trans ?_
    have h1 : (x :: r).Perm (x :: q.erase x) := hp.trans (List.perm_cons_erase (by simpa using hmem))
    rw [← ex]
    exact List.Perm.cons_inv h1

/-- Up to c jobs of the queue are done at slot t. -/
def takeC (l : List Mach) (t : Int) : Nat → List Nat → List Int → Option (List Nat × List Int)
  | 0, q, o => some (q, o)
  | c + 1, q, o => if q = [] then some (q, o) else if due l (minJ l q) ≤ t then none else takeC l t c (q.erase (minJ l q)) (o.set (minJ l q) t)
theorem takeC_nil (l : List Mach) (t : Int) (c : Nat) (o : List Int) : takeC l t c [] o = some ([], o) := by cases c <;> simp [takeC]
def stepS (l : List Mach) (c : Nat) (s : Option (List Nat × List Int)) (t : Int) : Option (List Nat × List Int) :=
  match s with
  | none => none
  | some (q, o) => takeC l t c (q ++ gF l l.length t) o
def planS (l : List Mach) (c : Nat) (ts : List Int) : Option (List Nat × List Int) := ts.foldl (stepS l c) (some ([], List.replicate l.length 0))
def slotL (pre : List (Fin 500)) : List Int := pre.map fun x => (x.1 : Int)
theorem planS_snoc (l : List Mach) (c : Nat) (pre : List (Fin 500)) (x : Fin 500) : planS l c (slotL (pre ++ [x])) = stepS l c (planS l c (slotL pre)) (x.1 : Int) := by simp [planS, slotL]
theorem stepS_none (l : List Mach) (c : Nat) (ts : List Int) : ts.foldl (stepS l c) none = none := by
  induction ts with
  | nil => rfl
  | cons t ts ih => simpa [stepS] using ih
theorem planS_prefix (l : List Mach) (c : Nat) {a b : List (Fin 500)} (h : a <+: b) (hn : planS l c (slotL a) = none) : planS l c (slotL b) = none := by
  obtain ⟨r, rfl⟩ := h
  rw [slotL, List.map_append, planS, List.foldl_append]
  have : (List.map (fun x : Fin 500 => (x.1 : Int)) a).foldl (stepS l c) (some ([], List.replicate l.length 0)) = none := hn
  rw [this, stepS_none]
/-- What plant.Plan returns: the plan, if there is one. -/
def planF (l : List Mach) (c : Nat) : Option (List Int) :=
  match planS l c (slotL (List.finRange 500)) with
  | none => none
  | some (q, o) => if q = [] then some o else none

/-- The state between two slots: all numbers are jobs', and the plan is as long as the jobs. -/
def QOk (l : List Mach) (n : Nat) (q : List Nat) (o : List Int) : Prop := (∀ y ∈ q, y < l.length) ∧ q.length ≤ n ∧ o.length = l.length
theorem takeC_ok {l : List Mach} {t : Int} {n : Nat} : ∀ (c : Nat) (q : List Nat) (o : List Int), QOk l n q o → ∀ q' o', takeC l t c q o = some (q', o') → QOk l n q' o'
  | 0, q, o, h, q', o', e => by simp [takeC] at e; obtain ⟨rfl, rfl⟩ := e; exact h
  | c + 1, q, o, h, q', o', e => by
    unfold takeC at e
    split at e
    · simp at e; obtain ⟨rfl, rfl⟩ := e; exact h
    · split at e
      · cases e
      · refine takeC_ok c _ _ ⟨fun y hy => h.1 y (List.mem_of_mem_erase hy), ?_, by simpa using h.2.2⟩ q' o' e
        have := List.length_erase_le (a := minJ l q) (l := q)
        have := h.2.1
        omega
theorem planS_ok (l : List Mach) (c : Nat) (pre : List (Fin 500)) : ∀ q o, planS l c (slotL pre) = some (q, o) → QOk l (pre.length * l.length) q o := by
  generalize hn : pre.length = n
  induction n generalizing pre with
  | zero =>
    intro q o h
    obtain rfl : pre = [] := List.length_eq_zero_iff.1 hn
    simp [planS, slotL] at h
    obtain ⟨rfl, rfl⟩ := h
    exact ⟨by simp, by simp, by simp⟩
  | succ n ih =>
    intro q o h
    rcases List.eq_nil_or_concat pre with rfl | ⟨pre, x, rfl⟩
    · simp at hn
    · rw [List.concat_eq_append] at h hn
      rw [planS_snoc] at h
      cases e : planS l c (slotL pre) with
      | none => rw [e] at h; simp [stepS] at h
      | some s =>
        obtain ⟨q0, o0⟩ := s
        rw [e] at h
        have hk := ih pre (by simpa using hn) q0 o0 e
        refine takeC_ok c _ _ ⟨?_, ?_, hk.2.2⟩ q o h
        · intro y hy
          rcases List.mem_append.1 hy with hy | hy
          · exact hk.1 y hy
          · exact (gF_mem hy).1
        · have := gF_length l l.length (x.1 : Int)
          have := hk.2.1
          rw [List.length_append, Nat.add_mul]
          omega
end Go.Proofs.Ytjjphiecjhijiaa
