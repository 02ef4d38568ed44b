import Derived.Test.YtjjphiecjhijiaaDoorBase
namespace Go.Proofs.YtjjphiecjhijiaaDoor
open Go.RowKit

def inB (n a b : Int) : Bool := decide (a ≤ n) && decide (n ≤ b)
def okN (n : Int) : Bool := inB n 0 1000000
def badN (n : Int) : Bool := !okN n

theorem within_any (n a b : Int) (w : World) :
    Calls Tryd.prog 59 #[.int .i64 n, .int .i64 a, .int .i64 b] w fun e w' => e = .returned (.bool (inB n a b)) ∧ w = w' := by
  go_enter Tryd.func59, Tryd.ntmps59
  go_wp2
  all_goals (go_ret; exact ⟨ret_bool (by simp [inB, *]; try omega), rfl⟩)
theorem In_any (n a b : Int) (w : World) :
    Calls Tryd.prog 74 #[.int .i64 n, .int .i64 a, .int .i64 b] w fun e w' => e = .returned (.bool (inB n a b)) ∧ w = w' := by
  go_enter Tryd.func74, Tryd.ntmps74
  go_wp2
  all_goals (go_ret; exact ⟨ret_bool (by simp [inB, *]; try omega), rfl⟩)
theorem in_any (n a b : Int) (w : World) :
    Calls Tryd.prog 43 #[.int .i64 n, .int .i64 a, .int .i64 b] w fun e w' => e = .returned (.bool (inB n a b)) ∧ w = w' := by
  go_enter Tryd.func43, Tryd.ntmps43
  go_wp2_with (go_at_call 74; refine (In_any _ _ _ _).mono ?_; rintro e w' ⟨rfl, rfl⟩)
  go_ret
  exact ⟨rfl, rfl⟩
theorem few1_any (n : Int) (w : World) :
    Calls Tryd.prog 77 #[.int .i64 n] w fun e w' => e = .returned (.bool (badN n)) ∧ w = w' := by
  go_enter Tryd.func77, Tryd.ntmps77
  go_wp2_with (go_at_call 59; refine (within_any _ _ _ _).mono ?_; rintro e w' ⟨rfl, rfl⟩)
  go_ret
  exact ⟨ret_bool (by simp [badN, okN]), rfl⟩

/-- The index that IndexFunc gives. -/
def idxOf {α : Type} (p : α → Bool) (l : List α) : Int := match l.findIdx? p with | some i => (i : Int) | none => -1

theorem idxOf_hit {α : Type} (p : α → Bool) (l : List α) (k : Nat) (hk : k < l.length) (hno : ∀ j (h : j < l.length), j < k → p l[j] = false) (hp : p l[k] = true) : idxOf p l = k := by
  have : l.findIdx? p = some k := by
    rw [List.findIdx?_eq_some_iff_getElem]
    exact ⟨hk, hp, fun j hj => by simpa using hno j (by omega) hj⟩
  simp [idxOf, this]
theorem idxOf_none {α : Type} (p : α → Bool) (l : List α) (hno : ∀ j (h : j < l.length), p l[j] = false) : idxOf p l = -1 := by
  have : l.findIdx? p = none := by
    rw [List.findIdx?_eq_none_iff]
    intro x hx
    obtain ⟨j, hj, rfl⟩ := List.getElem_of_mem hx
    simpa using hno j hj
  simp [idxOf, this]
theorem idxOf_any {α : Type} (p : α → Bool) (l : List α) : decide (0 ≤ idxOf p l) = l.any p := by
  cases h : l.findIdx? p with
  | none =>
    simp only [idxOf, h]
    rw [List.findIdx?_eq_none_iff] at h
    have : l.any p = false := by rw [List.any_eq_false]; intro x hx; simpa using h x hx
    rw [this]; decide
  | some k =>
    simp only [idxOf, h]
    rw [List.findIdx?_eq_some_iff_getElem] at h
    obtain ⟨hk, hp, _⟩ := h
    have : l.any p = true := List.any_eq_true.2 ⟨l[k], List.getElem_mem _, hp⟩
    rw [this]; simp

/-- slices.IndexFunc over ints, whatever function that leaves what was there alone. -/
theorem index_int (g : Nat) (hg : g = 77 ∨ g = 81) (cs : Array Value) (p : Int → Bool) (v : Value) (l : List Int) (w : World) (hs : SlI w v l)
    (hf : ∀ x w1, Below w.heap.size w w1 → Calls Tryd.prog g (#[.int .i64 x] ++ cs) w1 fun e w2 => e = .returned (.bool (p x)) ∧ Below w1.heap.size w1 w2) :
    Calls Tryd.prog 86 #[v, .func (.func g) #[] cs] w fun e w' => e = .returned (.int .i64 (idxOf p l)) ∧ Below w.heap.size w w' := by
  obtain ⟨a, cap, rfl, hl, hc⟩ := hs.open
  clear hs
  have HF := hid hf
  have HC := hid hc
  clear hf hc
  rcases hg with rfl | rfl
  all_goals
    go_enter Tryd.func86, Tryd.ntmps86
    go_wp2
    go_loopw [8] (fun i wr => ∃ k : Nat, k ≤ l.length ∧ i = .int .i64 k ∧ Below w.heap.size w wr ∧ ∀ j (h : j < l.length), j < k → p l[j] = false) (fun i _ => l.length - (intOf i).toNat)
    case atStart => exact ⟨0, Nat.zero_le _, rfl, Below.refl _ _, by omega⟩
    case round =>
      obtain ⟨k, hk, rfl, hb, hno⟩ := hrel
      have HN := hid hno
      clear hno
      by_cases hlt : k < l.length
      · obtain ⟨b, off, rfl, hbl, hc⟩ := HC.out k hlt
        have hx := (hb.cell (p := ⟨b, off + k, none⟩) hbl).trans (hc k hlt)
        have Hc := hid hc
        clear hc HC
        generalize hxe : l[k] = x at hx
        have HX := hid hxe
        clear hxe
        have hcall := hid (HF.out x wr hb)
        go_wp2_with fail
        refine hcall.out.mono ?_
        rintro e w' ⟨rfl, hb2⟩
        clear hcall
        by_cases hp : p x = true
        · go_wp2
          go_ret
          exact ⟨ret_int (idxOf_hit p l k hlt HN.out (by rw [HX.out]; exact hp)).symm, hb.trans (hb2.mono hb.size)⟩
        · have hp' : p x = false := by simpa using hp
          go_wp2
          go_roundw
          case rel =>
            refine ⟨k + 1, by omega, by go_num, hb.trans (hb2.mono hb.size), ?_⟩
            intro j hj hjk
            by_cases e : j = k
            · subst e; rw [HX.out]; exact hp'
            · exact HN.out j hj (by omega)
          case measure => simp [intOf]; omega
      · go_wp2
        go_ret
        have hkl : k = l.length := by omega
        exact ⟨ret_int (idxOf_none p l (fun j hj => HN.out j hj (by omega))).symm, hb⟩

theorem contains_int (g : Nat) (hg : g = 77 ∨ g = 81) (cs : Array Value) (p : Int → Bool) (v : Value) (l : List Int) (w : World) (hs : SlI w v l)
    (hf : ∀ x w1, Below w.heap.size w w1 → Calls Tryd.prog g (#[.int .i64 x] ++ cs) w1 fun e w2 => e = .returned (.bool (p x)) ∧ Below w1.heap.size w1 w2) :
    Calls Tryd.prog 76 #[v, .func (.func g) #[] cs] w fun e w' => e = .returned (.bool (l.any p)) ∧ Below w.heap.size w w' := by
  have H := index_int g hg cs p v l w hs hf
  have HA := hid (idxOf_any p l)
  generalize idxOf p l = n at *
  clear hf hs
  go_enter Tryd.func76, Tryd.ntmps76
  go_wp2_with fail
  refine H.mono ?_
  rintro e w' ⟨rfl, hb⟩
  go_wp2
  go_ret
  exact ⟨ret_bool HA.out, hb⟩

def fewB (l : List Int) : Bool := !l.any badN
theorem few_any (v : Value) (l : List Int) (w : World) (hs : SlI w v l) :
    Calls Tryd.prog 48 #[v] w fun e w' => e = .returned (.bool (fewB l)) ∧ Below w.heap.size w w' := by
  have H := contains_int 77 (.inl rfl) #[] badN v l w hs (fun x w1 _ => (few1_any x w1).mono fun e w2 ⟨h1, h2⟩ => ⟨h1, by subst h2; exact Below.refl _ _⟩)
  go_enter Tryd.func48, Tryd.ntmps48
  go_wp2_with fail
  refine H.mono ?_
  rintro e w' ⟨rfl, hb⟩
  go_wp2
  go_ret
  exact ⟨rfl, hb⟩
end Go.Proofs.YtjjphiecjhijiaaDoor
