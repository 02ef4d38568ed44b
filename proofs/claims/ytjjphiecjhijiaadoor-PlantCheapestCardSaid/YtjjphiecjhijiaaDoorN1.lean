import Derived.Test.YtjjphiecjhijiaaDoorM2
import Derived.Test.YtjjphiecjhijiaaDoorA3
namespace Go.Proofs.YtjjphiecjhijiaaDoor
open Go.RowKit

def cells2 (x : Int × Int) : List Value := [.int .i64 x.1, .int .i64 x.2]
/-- A slice of marks. -/
def SlK (w : World) (v : Value) (l : List (Int × Int)) : Prop := SlV w v l.length (l.flatMap cells2)
theorem SlK.below {w w' : World} {v : Value} {l : List (Int × Int)} (h : SlK w v l) (hb : Below w.heap.size w w') : SlK w' v l := SlV.below h hb
theorem cells2_get (l : List (Int × Int)) : ∀ (j : Nat) (h : j < l.length) (c : Nat) (hc : c < 2), (l.flatMap cells2)[j * 2 + c]? = some ((cells2 l[j])[c]'(by simpa [cells2] using hc)) := by
  induction l with
  | nil => intro j h; simp at h
  | cons m l ih =>
    intro j h c hc
    cases j with
    | zero =>
      simp only [List.flatMap_cons, Nat.zero_mul, Nat.zero_add, List.getElem_cons_zero]
      rw [List.getElem?_append_left (by simpa [cells2] using hc)]
      rw [List.getElem?_eq_getElem (by simpa [cells2] using hc)]
    | succ j =>
      have h' : j < l.length := by simpa using h
      simp only [List.flatMap_cons, List.getElem_cons_succ]
      rw [List.getElem?_append_right (by simp [cells2]; omega)]
      have := ih j h' c hc
      rw [← this]
      congr 1
      simp [cells2]; omega
theorem cells2_length (l : List (Int × Int)) : (l.flatMap cells2).length = l.length * 2 := by
  induction l with
  | nil => rfl
  | cons m l ih => simp only [List.flatMap_cons, List.length_append, ih, List.length_cons]; simp [cells2]; omega
theorem SlK.open {w : World} {v : Value} {l : List (Int × Int)} (h : SlK w v l) :
    ∃ a cap, v = .slice a l.length cap ∧ l.length ≤ 140737488351232 ∧ ∀ k, k < l.length → ∃ b off, a = some ⟨b, off, none⟩ ∧ b < w.heap.size ∧
      ∀ j (h : j < l.length), w.cell? ⟨b, off + j * 2, none⟩ = some (.int .i64 l[j].1) ∧ w.cell? ⟨b, off + j * 2 + 1, none⟩ = some (.int .i64 l[j].2) := by
  obtain ⟨a, cap, rfl, hn, hc⟩ := h
  refine ⟨a, cap, rfl, hn, fun k hk => ?_⟩
  rcases hc with hc | ⟨b, off, rfl, hlt, hc⟩
  · omega
  · refine ⟨b, off, rfl, hlt, fun j hj => ?_⟩
    have g : ∀ c (hc2 : c < 2), w.cell? ⟨b, off + j * 2 + c, none⟩ = some ((cells2 l[j])[c]'(by simpa [cells2] using hc2)) := by
      intro c hc2
      have h1 := cells2_get l j hj c hc2
      have h2 : j * 2 + c < (l.flatMap cells2).length := by rw [cells2_length]; omega
      have h3 := hc _ h2
      rw [List.getElem?_eq_getElem h2] at h1
      rw [show off + j * 2 + c = off + (j * 2 + c) by omega, h3]
      exact h1
    exact ⟨g 0 (by omega), g 1 (by omega)⟩

def badK (x : Int × Int) : Bool := !fewB [x.1, x.2]
set_option maxHeartbeats 400000 in
/-- plant.Match$1 -/
theorem match1_any (x : Int × Int) (w : World) :
    Calls Tryd.prog 47 #[.agg #[.int .i64 x.1, .int .i64 x.2]] w fun e w' => e = .returned (.bool (badK x)) ∧ Below w.heap.size w w' := by
  obtain ⟨c, s⟩ := x
  have HB := hid (show badK (c, s) = !fewB [c, s] from rfl)
  have HF := hid (fun v w' (h : SlI w' v [c, s]) => few_any v [c, s] w' h)
  generalize badK (c, s) = r at *
  generalize fewB [c, s] = f at *
  go_enter Tryd.func47, Tryd.ntmps47
  go_wp2_with fail
  obtain ⟨W1, hW1⟩ : ∃ W1, ((w.alloc (.cells #[.int .i64 c, .int .i64 s] 51)).alloc (.cells #[.int .i64 c, .int .i64 s] 3)) = W1 := ⟨_, rfl⟩
  rw [hW1]
  have hb1 : Below w.heap.size w W1 := by rw [← hW1]; exact ((Below.refl _ _).alloc (Nat.le_refl _) _).alloc (by simp) _
  refine (HF.out _ W1 ?_).mono ?_
  · rw [← hW1]
    refine ⟨_, 2, rfl, by simp, .inr ⟨_, 0, rfl, by simp, ?_⟩⟩
    intro i hi
    have := World.cell?_alloc_new (w.alloc (.cells #[.int .i64 c, .int .i64 s] 51)) #[.int .i64 c, .int .i64 s] 3 (0 + i)
    rw [World.size_alloc] at this
    rw [this]
    simp at hi
    rcases (by omega : i = 0 ∨ i = 1) with rfl | rfl <;> rfl
  · clear hW1
    rintro e w' ⟨rfl, hb2⟩
    have HB2 := hid (hb1.trans (hb2.mono hb1.size))
    clear hb1 hb2
    cases f
    all_goals
      go_wp2_with fail
      go_ret
      exact ⟨by rw [HB.out]; rfl, HB2.out⟩
/-- slices.IndexFunc over marks. -/
theorem index_mark (p : Int × Int → Bool) (v : Value) (l : List (Int × Int)) (w : World) (hs : SlK w v l)
    (hf : ∀ x ∈ l, ∀ w1, Below w.heap.size w w1 → Calls Tryd.prog 47 #[.agg #[.int .i64 x.1, .int .i64 x.2]] w1 fun e w2 => e = .returned (.bool (p x)) ∧ Below w1.heap.size w1 w2) :
    Calls Tryd.prog 75 #[v, .func (.func 47) #[] #[]] w fun e w' => e = .returned (.int .i64 (idxOf p l)) ∧ Below w.heap.size w w' := by
  obtain ⟨a, cap, rfl, hl, hc⟩ := hs.open
  clear hs
  have HF := hid hf
  have HC := hid hc
  clear hf hc
  go_enter Tryd.func75, Tryd.ntmps75
  go_wp2
  go_loopw [8] (fun i wr => ∃ k : Nat, k ≤ l.length ∧ i = .int .i64 k ∧ Below w.heap.size w wr ∧ ∀ j (h : j < l.length), j < k → p l[j] = false) (fun i _ => l.length - (intOf i).toNat)
  case atStart => exact ⟨0, Nat.zero_le _, rfl, Below.refl _ _, by omega⟩
  case round =>
    obtain ⟨k, hk, rfl, hb, hno⟩ := hrel
    have HN := hid hno
    clear hno
    by_cases hlt : k < l.length
    · obtain ⟨b, off, rfl, hbl, hc⟩ := HC.out k hlt
      have hx0 := (hb.cell (p := ⟨b, off + k * 2, none⟩) hbl).trans (hc k hlt).1
      have hx1 := (hb.cell (p := ⟨b, off + k * 2 + 1, none⟩) hbl).trans (hc k hlt).2
      have hcall := hid (HF.out l[k] (List.getElem_mem _) wr hb)
      clear hc HC
      generalize hxe : l[k] = x at *
      have HX := hid hxe
      clear hxe
      go_wp2_with fail
      refine hcall.out.mono ?_
      rintro e w' ⟨rfl, hb2⟩
      clear hcall
      by_cases hp : p x = true
      · go_wp2
        go_ret
        exact ⟨ret_int (idxOf_hit p l k hlt HN.out (by rw [HX.out]; exact hp)).symm, hb.trans (hb2.mono hb.size)⟩
      · have hp' : p x = false := by simpa using hp
        go_wp2
        go_roundw
        case rel =>
          refine ⟨k + 1, by omega, by go_num, hb.trans (hb2.mono hb.size), ?_⟩
          intro j hj hjk
          by_cases e : j = k
          · subst e; rw [HX.out]; exact hp'
          · exact HN.out j hj (by omega)
        case measure => simp [intOf]; omega
    · go_wp2
      go_ret
      have hkl : k = l.length := by omega
      exact ⟨ret_int (idxOf_none p l (fun j hj => HN.out j hj (by omega))).symm, hb⟩
theorem contains_mark (p : Int × Int → Bool) (v : Value) (l : List (Int × Int)) (w : World) (hs : SlK w v l)
    (hf : ∀ x ∈ l, ∀ w1, Below w.heap.size w w1 → Calls Tryd.prog 47 #[.agg #[.int .i64 x.1, .int .i64 x.2]] w1 fun e w2 => e = .returned (.bool (p x)) ∧ Below w1.heap.size w1 w2) :
    Calls Tryd.prog 46 #[v, .func (.func 47) #[] #[]] w fun e w' => e = .returned (.bool (l.any p)) ∧ Below w.heap.size w w' := by
  have H := index_mark p v l w hs hf
  have HA := hid (idxOf_any p l)
  generalize idxOf p l = n at *
  clear hf hs
  go_enter Tryd.func46, Tryd.ntmps46
  go_wp2_with fail
  refine H.mono ?_
  rintro e w' ⟨rfl, hb⟩
  go_wp2
  go_ret
  exact ⟨ret_bool HA.out, hb⟩
/-- plant.size, and the document's. -/
theorem size_p (n : Int) (w : World) (h1 : -1000000 ≤ n) (h2 : n ≤ 1000000) : Calls Tryd.prog 52 #[.int .i64 n] w fun e w' => e = .returned (.int .i64 (absI n)) ∧ w = w' := by
  go_enter Tryd.func52, Tryd.ntmps52
  go_wp2_with fail
  all_goals go_ret
  all_goals exact ⟨ret_int (by unfold absI; omega), rfl⟩
theorem size_r (n : Int) (w : World) (h1 : -1000000 ≤ n) (h2 : n ≤ 1000000) : Calls Tryd.prog 54 #[.int .i64 n] w fun e w' => e = .returned (.int .i64 (absI n)) ∧ w = w' := by
  go_enter Tryd.func54, Tryd.ntmps54
  go_wp2_with fail
  all_goals go_ret
  all_goals exact ⟨ret_int (by unfold absI; omega), rfl⟩
end Go.Proofs.YtjjphiecjhijiaaDoor
