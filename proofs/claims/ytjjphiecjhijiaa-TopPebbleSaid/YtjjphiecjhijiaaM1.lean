/- Jobs of draws of n slots: when there is a plan of crews, and where there is a crowd: the plain law. -/
import Derived.Test.YtjjphiecjhijiaaJ8
import Derived.Test.YtjjphiecjhijiaaK1
namespace Go.Proofs.Ytjjphiecjhijiaa
open Go.RowKit Go.Maps

/-- The jobs of a draw, and those of the first k draws. -/
def drawJ (n i d : Nat) : List Mach := (List.range d).map fun (k : Nat) => ⟨(k : Int), ((i * n : Nat) : Int), (((i + 1) * n : Nat) : Int)⟩
def jobsP (n : Nat) (ds : List Nat) : Nat → List Mach
  | 0 => []
  | k + 1 => jobsP n ds k ++ drawJ n k (ds.getD k 0)
theorem drawJ_mem {n i d : Nat} {j : Mach} (h : j ∈ drawJ n i d) : ∃ k : Nat, k < d ∧ j = ⟨(k : Int), ((i * n : Nat) : Int), (((i + 1) * n : Nat) : Int)⟩ := by
  obtain ⟨k, hk, rfl⟩ := List.mem_map.1 h
  exact ⟨k, List.mem_range.1 hk, rfl⟩
theorem jobsP_mem {n : Nat} {ds : List Nat} {j : Mach} : ∀ {k : Nat}, j ∈ jobsP n ds k → ∃ i, i < k ∧ j ∈ drawJ n i (ds.getD i 0)
  | 0, h => by simp [jobsP] at h
  | k + 1, h => by
    rcases List.mem_append.1 h with h | h
    · obtain ⟨i, hi, h⟩ := jobsP_mem h
      exact ⟨i, by omega, h⟩
    · exact ⟨k, by omega, h⟩
/-- Each job is one of a draw. -/
def DrawJ (n : Nat) (l : List Mach) : Prop := ∀ j ∈ l, ∃ i : Nat, j.power = ((i * n : Nat) : Int) ∧ j.start = (((i + 1) * n : Nat) : Int)
theorem jobsP_draw (n : Nat) (ds : List Nat) (k : Nat) : DrawJ n (jobsP n ds k) := by
  intro j hj
  obtain ⟨i, _, h⟩ := jobsP_mem hj
  obtain ⟨x, _, rfl⟩ := drawJ_mem h
  exact ⟨i, rfl, rfl⟩
/-- How many jobs begin at a slot. -/
def fromN (l : List Mach) (t : Int) : Nat := l.countP fun j => j.power == t
theorem drawJ_from (n i d : Nat) (t : Int) : fromN (drawJ n i d) t = if ((i * n : Nat) : Int) = t then d else 0 := by
  unfold fromN drawJ
  rw [List.countP_map]
  by_cases h : ((i * n : Nat) : Int) = t
  · rw [if_pos h]
    have : ((fun j : Mach => j.power == t) ∘ fun k : Nat => (⟨(k : Int), ((i * n : Nat) : Int), (((i + 1) * n : Nat) : Int)⟩ : Mach)) = fun _ => true := by
      funext k; simp only [Function.comp]; rw [h]; simp
    rw [this]; simp
  · rw [if_neg h]
    have : ((fun j : Mach => j.power == t) ∘ fun k : Nat => (⟨(k : Int), ((i * n : Nat) : Int), (((i + 1) * n : Nat) : Int)⟩ : Mach)) = fun _ => false := by
      funext k; simp only [Function.comp]; simp; exact fun e => h (by exact_mod_cast e)
    rw [this]; simp
theorem jobsP_from {n : Nat} (hn : 1 ≤ n) (ds : List Nat) (i : Nat) : ∀ k, fromN (jobsP n ds k) ((i * n : Nat) : Int) = if i < k then ds.getD i 0 else 0
  | 0 => rfl
  | k + 1 => by
    have h := jobsP_from hn ds i k
    have hd := drawJ_from n k (ds.getD k 0) ((i * n : Nat) : Int)
    have e : fromN (jobsP n ds (k + 1)) ((i * n : Nat) : Int) = fromN (jobsP n ds k) ((i * n : Nat) : Int) + fromN (drawJ n k (ds.getD k 0)) ((i * n : Nat) : Int) := List.countP_append
    rw [e, h, hd]
    by_cases hik : i = k
    · subst hik; simp
    · have hne : ¬ ((k * n : Nat) : Int) = ((i * n : Nat) : Int) := by
        intro e
        have e2 : k * n = i * n := by exact_mod_cast e
        exact hik (Nat.eq_of_mul_eq_mul_right (by omega) e2).symm
      rw [if_neg hne]
      by_cases h1 : i < k
      · rw [if_pos h1, if_pos (by omega)]; rfl
      · rw [if_neg h1, if_neg (by omega)]
theorem gF_from (l : List Mach) (t : Int) : (gF l l.length t).length = fromN l t := by
  unfold gF fromN
  rw [← List.countP_eq_length_filter]
  have h : l = (List.range l.length).map (fun i => l.getD i ⟨0, 0, 0⟩) := by
    apply List.ext_getElem
    · simp
    · intro i h1 h2; simp [List.getD_eq_getElem?_getD, h1]
  conv => rhs; rw [h, List.countP_map]
  rfl

theorem takeC_late {l : List Mach} {t : Int} : ∀ (c : Nat) (q : List Nat) (o : List Int), (∀ y ∈ q, t < due l y) → ∃ q' o', takeC l t c q o = some (q', o') ∧ (∀ y ∈ q', y ∈ q) ∧ q'.length = q.length - c
  | 0, q, o, _ => ⟨q, o, rfl, fun _ h => h, by simp⟩
  | c + 1, q, o, h => by
    by_cases hq : q = []
    · exact ⟨q, o, by rw [takeC, if_pos hq], fun _ h => h, by simp [hq]⟩
    · have hm := minJ_mem l hq
      obtain ⟨q', o', e, h1, h2⟩ := takeC_late c (q.erase (minJ l q)) (o.set (minJ l q) t) (fun y hy => h y (List.mem_of_mem_erase hy))
      refine ⟨q', o', ?_, fun y hy => List.mem_of_mem_erase (h1 y hy), ?_⟩
      · have := h _ hm
        rw [takeC, if_neg hq, if_neg (by omega), e]
      · rw [h2, List.length_erase_of_mem hm]; omega

/-- The state ahead of a slot. -/
def stP (l : List Mach) (c t : Nat) : Option (List Nat × List Int) := planS l c (slotL ((List.finRange 500).take t))
theorem stP_succ (l : List Mach) (c t : Nat) (h : t < 500) : stP l c (t + 1) = stepS l c (stP l c t) (t : Int) := by
  unfold stP; rw [fin_take t h, planS_snoc]
theorem DrawJ.at {n : Nat} {l : List Mach} (h : DrawJ n l) {y : Nat} (hy : y < l.length) : ∃ i : Nat, (l.getD y ⟨0, 0, 0⟩).power = ((i * n : Nat) : Int) ∧ due l y = (((i + 1) * n : Nat) : Int) := by
  have hm : l.getD y ⟨0, 0, 0⟩ ∈ l := by rw [List.getD_eq_getElem?_getD, List.getElem?_eq_getElem hy]; exact List.getElem_mem _
  obtain ⟨i, h1, h2⟩ := h _ hm
  exact ⟨i, h1, h2⟩
/-- The jobs that begin at a slot are due at the end of its draw. -/
theorem DrawJ.new {n : Nat} (hn : 1 ≤ n) {l : List Mach} (h : DrawJ n l) {t y : Nat} (hy : y ∈ gF l l.length (t : Int)) : t % n = 0 ∧ due l y = (((t / n + 1) * n : Nat) : Int) := by
  obtain ⟨h1, h2⟩ := gF_mem hy
  obtain ⟨i, h3, h4⟩ := h.at h1
  rw [h3] at h2
  have e : t = i * n := by exact_mod_cast h2.symm
  subst e
  exact ⟨Nat.mul_mod_left _ _, by rw [h4, Nat.mul_div_cancel _ (by omega)]⟩

theorem stP_ok {n c : Nat} {l : List Mach} (hn : 1 ≤ n) (hd : DrawJ n l) (hc : ∀ i : Nat, fromN l ((i * n : Nat) : Int) ≤ n * c) :
    ∀ t, t ≤ 500 → ∃ q o, stP l c t = some (q, o) ∧ (t % n = 0 → q = []) ∧ (∀ y ∈ q, due l y = (((t / n + 1) * n : Nat) : Int)) ∧ q.length + (t % n) * c ≤ n * c
  | 0, _ => ⟨[], List.replicate l.length 0, rfl, fun _ => rfl, by simp, by simp⟩
  | t + 1, ht => by
    obtain ⟨q, o, hs, h1, h2, h3⟩ := stP_ok hn hd hc t (by omega)
    have hdue : ∀ y ∈ q ++ gF l l.length (t : Int), due l y = (((t / n + 1) * n : Nat) : Int) := by
      intro y hy
      rcases List.mem_append.1 hy with hy | hy
      · exact h2 y hy
      · exact (hd.new hn hy).2
    have hlt : t < (t / n + 1) * n := by
      have a := Nat.mod_lt t (show 0 < n by omega)
      have b := Nat.div_add_mod t n
      rw [Nat.add_mul, Nat.one_mul, Nat.mul_comm (t / n)]
      omega
    have hlen : (q ++ gF l l.length (t : Int)).length + (t % n) * c ≤ n * c := by
      by_cases h0 : t % n = 0
      · rw [h1 h0, h0, List.nil_append, gF_from]
        have e : t = t / n * n := by have := Nat.div_add_mod t n; rw [Nat.mul_comm]; omega
        have := hc (t / n)
        rw [← e] at this
        omega
      · have e : gF l l.length (t : Int) = [] := by
          rw [List.eq_nil_iff_forall_not_mem]
          intro y hy
          exact h0 (hd.new hn hy).1
        rw [e, List.append_nil]; exact h3
    obtain ⟨q', o', he, h4, h5⟩ := takeC_late (l := l) (t := (t : Int)) c (q ++ gF l l.length (t : Int)) o (fun y hy => by rw [hdue y hy]; exact_mod_cast hlt)
    have hst : stP l c (t + 1) = some (q', o') := by
      rw [stP_succ l c t (by omega), hs]; exact he
    generalize hQ : (q ++ gF l l.length (t : Int)).length = L at *
    have hm := Nat.mod_lt t (show 0 < n by omega)
    have hsm : (t % n + 1) * c = t % n * c + c := Nat.succ_mul _ _
    by_cases hw : t % n + 1 = n
    · have e1 : (t + 1) % n = 0 := by
        have := Nat.div_add_mod t n
        have e : t + 1 = n * (t / n + 1) := by rw [Nat.mul_add, Nat.mul_one]; omega
        rw [e]; exact Nat.mul_mod_right _ _
      have hz : q' = [] := by
        have : n * c = t % n * c + c := by rw [← hsm, hw]
        exact List.length_eq_zero_iff.1 (by omega)
      subst hz
      exact ⟨[], o', hst, fun _ => rfl, by simp, by rw [e1]; simp⟩
    · have e1 : (t + 1) % n = t % n + 1 := by
        have := Nat.div_add_mod t n
        have e : t + 1 = t % n + 1 + n * (t / n) := by omega
        rw [e, Nat.add_mul_mod_self_left]; exact Nat.mod_eq_of_lt (by omega)
      have e2 : (t + 1) / n = t / n := by
        have := Nat.div_add_mod t n
        have e : t + 1 = t % n + 1 + n * (t / n) := by omega
        conv => lhs; rw [e, Nat.add_mul_div_left _ _ (by omega), Nat.div_eq_of_lt (show t % n + 1 < n by omega)]
        omega
      refine ⟨q', o', hst, fun h => by omega, fun y hy => by rw [e2]; exact hdue y (h4 y hy), ?_⟩
      rw [e1, h5, hsm]
      have : (t % n + 1) * c ≤ n * c := Nat.mul_le_mul_right _ (by omega)
      omega
theorem planF_ok {n c : Nat} {l : List Mach} (hn : 1 ≤ n) (hd : DrawJ n l) (hc : ∀ i : Nat, fromN l ((i * n : Nat) : Int) ≤ n * c) (hb : ∀ j ∈ l, j.start ≤ 500) :
    ∃ o, planF l c = some o ∧ o.length = l.length := by
  obtain ⟨q, o, h1, h2, h3, h4⟩ := stP_ok hn hd hc 500 (Nat.le_refl _)
  have e : (List.finRange 500).take 500 = List.finRange 500 := List.take_of_length_le (by simp)
  unfold stP at h1
  rw [e] at h1
  have hk := planS_ok l c _ q o h1
  have hq : q = [] := by
    rw [List.eq_nil_iff_forall_not_mem]
    intro y hy
    have hl := hk.1 y hy
    have hm : l.getD y ⟨0, 0, 0⟩ ∈ l := by rw [List.getD_eq_getElem?_getD, List.getElem?_eq_getElem hl]; exact List.getElem_mem _
    have a : due l y ≤ 500 := hb _ hm
    rw [h3 y hy] at a
    have b := Nat.mod_lt 500 (show 0 < n by omega)
    have c := Nat.div_add_mod 500 n
    have d : (500 / n + 1) * n = n * (500 / n) + n := by rw [Nat.add_mul, Nat.one_mul, Nat.mul_comm]
    rw [d] at a
    omega
  subst hq
  exact ⟨o, by unfold planF; rw [h1]; simp, hk.2.2⟩

/-- Too many jobs in the first draw: no plan. -/
theorem stP_bad {n c : Nat} {l : List Mach} (hn : 1 ≤ n) (hn5 : n < 500) (hd : DrawJ n l) :
    ∀ s, s ≤ n → ∃ q o, stP l c s = some (q, o) ∧ (s = 0 → q = []) ∧ (∀ y ∈ q, due l y = (n : Int)) ∧ (0 < s → fromN l 0 ≤ q.length + s * c)
  | 0, _ => ⟨[], List.replicate l.length 0, rfl, fun _ => rfl, by simp, by omega⟩
  | s + 1, hs => by
    obtain ⟨q, o, h1, h2, h3, h4⟩ := stP_bad hn hn5 hd s (by omega)
    have hdv : s / n = 0 := Nat.div_eq_of_lt (by omega)
    have hmd : s % n = s := Nat.mod_eq_of_lt (by omega)
    have hdue : ∀ y ∈ q ++ gF l l.length (s : Int), due l y = (n : Int) := by
      intro y hy
      rcases List.mem_append.1 hy with hy | hy
      · exact h3 y hy
      · rw [(hd.new hn hy).2, hdv]; simp
    obtain ⟨q', o', he, h5, h6⟩ := takeC_late (l := l) (t := (s : Int)) c (q ++ gF l l.length (s : Int)) o (fun y hy => by rw [hdue y hy]; omega)
    refine ⟨q', o', by rw [stP_succ l c s (by omega), h1]; exact he, by omega, fun y hy => hdue y (h5 y hy), fun _ => ?_⟩
    rw [h6, List.length_append, gF_from]
    have hsm : (s + 1) * c = s * c + c := Nat.succ_mul _ _
    by_cases h0 : s = 0
    · subst h0
      rw [h2 rfl]
      simp only [List.length_nil, Nat.zero_mul] at *
      have : fromN l ((0 : Nat) : Int) = fromN l 0 := rfl
      omega
    · have := h4 (by omega)
      omega
theorem planF_bad {n c : Nat} {l : List Mach} (hn : 1 ≤ n) (hn5 : n < 500) (hc1 : 1 ≤ c) (hd : DrawJ n l) (h : n * c < fromN l 0) : planF l c = none := by
  obtain ⟨q, o, h1, _, h3, h4⟩ := stP_bad (c := c) hn hn5 hd n (Nat.le_refl _)
  have h5 := h4 (by omega)
  have hlen : 0 < q.length := by omega
  have hs : stP l c (n + 1) = none := by
    rw [stP_succ l c n hn5, h1]
    show takeC l (n : Int) c (q ++ gF l l.length (n : Int)) o = none
    have hne : q ++ gF l l.length (n : Int) ≠ [] := by
      intro e
      rw [(List.append_eq_nil_iff.1 e).1] at hlen
      simp at hlen
    obtain ⟨y, hy⟩ := List.exists_mem_of_length_pos hlen
    have hle := minJ_least l (q := q ++ gF l l.length (n : Int)) y (List.mem_append_left _ hy)
    have hdy := h3 y hy
    have hmin : due l (minJ l (q ++ gF l l.length (n : Int))) ≤ (n : Int) := by
      unfold lessJ at hle
      simp at hle
      omega
    obtain ⟨c, rfl⟩ : ∃ c', c = c' + 1 := ⟨c - 1, by omega⟩
    rw [takeC, if_neg hne, if_pos hmin]
  have hp : (List.finRange 500).take (n + 1) <+: List.finRange 500 := List.take_prefix _ _
  unfold planF
  rw [planS_prefix l c hp hs]

theorem inside_zero {n : Nat} {l : List Mach} (hd : DrawJ n l) (a b : Int) (h : b < n) : insideN l a b = 0 := by
  unfold insideN
  rw [List.length_eq_zero_iff, List.filter_eq_nil_iff]
  intro j hj
  obtain ⟨i, h1, h2⟩ := hd j hj
  have : (n : Int) ≤ (((i + 1) * n : Nat) : Int) := by
    have : n ≤ (i + 1) * n := by rw [Nat.add_mul, Nat.one_mul]; omega
    exact_mod_cast this
  simp
  intro _
  omega
theorem inside_first {n : Nat} (hn : 1 ≤ n) {l : List Mach} (hd : DrawJ n l) : insideN l 0 (n : Int) = fromN l 0 := by
  unfold insideN fromN
  rw [← List.countP_eq_length_filter]
  apply List.countP_congr
  intro j hj
  obtain ⟨i, h1, h2⟩ := hd j hj
  rw [h1, h2]
  simp only [Bool.and_eq_true, decide_eq_true_eq, beq_iff_eq]
  constructor
  · rintro ⟨_, h⟩
    have h' : (i + 1) * n ≤ n := by exact_mod_cast h
    have : i = 0 := by
      rcases Nat.eq_zero_or_pos i with h0 | h0
      · exact h0
      · have : 2 * n ≤ (i + 1) * n := Nat.mul_le_mul_right _ (by omega)
        omega
    subst this; simp
  · intro h
    have h' : i * n = 0 := by exact_mod_cast h
    have : i = 0 := by
      rcases Nat.mul_eq_zero.1 h' with h | h
      · exact h
      · omega
    subst this; simp
theorem ends_from {n : Nat} (hn : 1 ≤ n) {l : List Mach} (hd : DrawJ n l) (a : Int) (b : Nat) :
    endsN l a (b : Int) = 0 ∨ ∃ i : Nat, b = (i + 1) * n ∧ a ≤ ((i * n : Nat) : Int) ∧ endsN l a (b : Int) ≤ fromN l ((i * n : Nat) : Int) := by
  by_cases h : endsN l a (b : Int) = 0
  · exact .inl h
  · right
    unfold endsN at h
    obtain ⟨j, hj⟩ := List.exists_mem_of_length_pos (Nat.pos_of_ne_zero h)
    obtain ⟨hj, hp⟩ := List.mem_filter.1 hj
    obtain ⟨i, h1, h2⟩ := hd j hj
    rw [h1, h2] at hp
    simp only [Bool.and_eq_true, decide_eq_true_eq, beq_iff_eq] at hp
    have hbi : b = (i + 1) * n := by exact_mod_cast hp.2.symm
    refine ⟨i, hbi, hp.1, ?_⟩
    unfold endsN fromN
    rw [← List.countP_eq_length_filter]
    apply List.countP_mono_left
    intro x hx hxp
    obtain ⟨i', h3, h4⟩ := hd x hx
    simp only [Bool.and_eq_true, decide_eq_true_eq, beq_iff_eq] at hxp
    rw [h4, hbi] at hxp
    have e : (i' + 1) * n = (i + 1) * n := by exact_mod_cast hxp.2
    have e2 : i' + 1 = i + 1 := Nat.eq_of_mul_eq_mul_right (by omega) e
    rw [h3, show i' = i by omega]
    simp
theorem inside_ok {n c : Nat} (hn : 1 ≤ n) {l : List Mach} (hd : DrawJ n l) (hc : ∀ i : Nat, fromN l ((i * n : Nat) : Int) ≤ n * c) (a : Nat) :
    ∀ b : Nat, insideN l (a : Int) (b : Int) ≤ c * (b / n * n - a)
  | 0 => by rw [inside_zero hd (a : Int) ((0 : Nat) : Int) (by omega)]; omega
  | b + 1 => by
    have ih := inside_ok hn hd hc a b
    have hs := inside_succ l (a : Int) (b : Int)
    have e : ((b : Int) + 1) = ((b + 1 : Nat) : Int) := by omega
    rw [e] at hs
    rw [hs]
    have hmono : b / n * n ≤ (b + 1) / n * n := Nat.mul_le_mul_right _ (Nat.div_le_div_right (by omega))
    rcases ends_from hn hd (a : Int) (b + 1) with h0 | ⟨i, h1, h2, h3⟩
    · rw [h0]
      have : c * (b / n * n - a) ≤ c * ((b + 1) / n * n - a) := Nat.mul_le_mul_left _ (by omega)
      omega
    · have h4 := hc i
      have h2' : a ≤ i * n := by exact_mod_cast h2
      have e1 : (b + 1) / n * n = (i + 1) * n := by rw [h1, Nat.mul_div_cancel _ (by omega)]
      have e2 : b / n * n ≤ i * n := by
        have : b / n ≤ i := by
          have : b / n < i + 1 := (Nat.div_lt_iff_lt_mul (by omega)).2 (by omega)
          omega
        exact Nat.mul_le_mul_right _ this
      have e3 : (i + 1) * n = i * n + n := Nat.succ_mul _ _
      rw [e1, e3]
      have e4 : c * (i * n + n - a) = c * (i * n - a) + n * c := by
        rw [show i * n + n - a = (i * n - a) + n by omega, Nat.mul_add, Nat.mul_comm c n]
      have e5 : c * (b / n * n - a) ≤ c * (i * n - a) := Nat.mul_le_mul_left _ (by omega)
      omega
theorem crowd_no {n c : Nat} (hn : 1 ≤ n) {l : List Mach} (hd : DrawJ n l) (hc : ∀ i : Nat, fromN l ((i * n : Nat) : Int) ≤ n * c) (a b : Nat) (hab : a < b) : crowdAt l c a b = false := by
  have h := inside_ok hn hd hc a b
  have h1 : b / n * n ≤ b := Nat.div_mul_le_self _ _
  have h2 : c * (b / n * n - a) ≤ c * (b - a) := Nat.mul_le_mul_left _ (by omega)
  unfold crowdAt
  rw [decide_eq_false_iff_not]
  have h3 : (insideN l (a : Int) (b : Int) : Int) ≤ ((c * (b - a) : Nat) : Int) := by exact_mod_cast Nat.le_trans h h2
  have h4 : ((c * (b - a) : Nat) : Int) = ((b : Int) - a) * c := by
    rw [Int.natCast_mul, Int.ofNat_sub (by omega), Int.mul_comm]
  omega
theorem crowd_ok {n c : Nat} (hn : 1 ≤ n) {l : List Mach} (hd : DrawJ n l) (hc : ∀ i : Nat, fromN l ((i * n : Nat) : Int) ≤ n * c) {r : Int × Int × Int} (h : CrowdIs l c r) : r = (0, 0, 7) := by
  rcases h with ⟨a, b, _, h1, _, h2, _⟩ | ⟨h, _⟩
  · rw [crowd_no hn hd hc a b h1] at h2; cases h2
  · exact h
theorem crowd_bad {n c : Nat} (hn : 1 ≤ n) (hn5 : n ≤ 500) {l : List Mach} (hd : DrawJ n l) (hc : n * c < fromN l 0) {r : Int × Int × Int} (h : CrowdIs l c r) : r = (0, (n : Int), 0) := by
  have hx : crowdAt l c 0 n = true := by
    unfold crowdAt
    rw [decide_eq_true_eq]
    have := inside_first hn hd
    rw [show ((0 : Nat) : Int) = 0 from rfl, this, Int.sub_zero]
    exact_mod_cast hc
  rcases h with ⟨a, b, hr, h1, h5, h2, h3⟩ | ⟨_, h⟩
  · have ha : a = 0 := by
      rcases Nat.eq_zero_or_pos a with h0 | h0
      · exact h0
      · rw [h3 0 n (by omega) hn5 (.inl h0)] at hx; cases hx
    subst ha
    have hb1 : ¬ n < b := by
      intro hlt
      rw [h3 0 n (by omega) hn5 (.inr ⟨rfl, hlt⟩)] at hx; cases hx
    have hb2 : ¬ b < n := by
      intro hlt
      unfold crowdAt at h2
      rw [decide_eq_true_eq, inside_zero hd ((0 : Nat) : Int) (b : Int) (by omega)] at h2
      have : 0 ≤ ((b : Int) - ((0 : Nat) : Int)) * (c : Int) := Int.mul_nonneg (by omega) (by omega)
      omega
    obtain rfl : b = n := by omega
    exact hr
  · rw [h 0 n (by omega) hn5] at hx; cases hx
end Go.Proofs.Ytjjphiecjhijiaa
