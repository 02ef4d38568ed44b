import Derived.Test.YtdbfnonpndlejaaDoorS9
namespace Go.Proofs.YtdbfnonpndlejaaDoor
open Go.RowKit

/-- besomref02.Ints -/
def sameI (a b : List Int) : Bool := decide (a = b)
theorem ints_any (v u : Value) (l m : List Int) (w : World) (h1 : SlI w v l) (h2 : SlI w u m) :
    Calls Tryd.prog 19 #[v, u] w fun e w' => e = .returned (.bool (sameI l m)) ∧ Below w.heap.size w w' := by
  obtain ⟨a1, c1, rfl, hl1, hc1⟩ := h1.open
  obtain ⟨a2, c2, rfl, hl2, hc2⟩ := h2.open
  have H1 := hid hc1
  have H2 := hid hc2
  clear h1 h2 hc1 hc2
  by_cases hlen : l.length = m.length
  · have hl' : ((l.length : Int) != m.length) = false := by simp [hlen]
    have HL := hid hlen
    clear hlen
    go_enter Tryd.func19, Tryd.ntmps19
    go_wp2_with fail
    go_loopw [5] (fun i wr => ∃ k : Nat, k ≤ l.length ∧ i = .int .i64 k ∧ (∀ j (hj : j < l.length), j < k → m[j]? = some l[j]) ∧ Below w.heap.size w wr) (fun i _ => l.length - (intOf i).toNat)
    case atStart => exact ⟨0, Nat.zero_le _, rfl, by omega, Below.refl _ _⟩
    case round =>
      obtain ⟨k, hk, rfl, hno, hb⟩ := hrel
      have HN := hid hno
      clear hno
      by_cases hlt : k < l.length
      · obtain ⟨b1, o1, rfl, hb1, hc1⟩ := H1.out k hlt
        obtain ⟨b2, o2, rfl, hb2, hc2⟩ := H2.out k (by have := HL.out; omega)
        have x1 := rdB hb hb1 (hc1 k hlt)
        have x2 := rdB hb hb2 (hc2 k (by have := HL.out; omega))
        have hm : k < m.length := by have := HL.out; omega
        clear hc1 hc2 H1 H2
        generalize hxe : l[k] = x at x1
        generalize hye : m[k] = y at x2
        have HX := hid hxe
        have HY := hid hye
        clear hxe hye
        by_cases hxy : x = y
        · have hxy' : (x != y) = false := by simp [hxy]
          have HXY := hid hxy
          clear hxy
          go_wp2_with fail
          go_quiet (fail)
          go_wp2_with fail
          go_roundw
          case rel => exact ⟨k + 1, by omega, by go_num, step_all (P := fun _ => True) (fun _ _ _ => trivial) hlt trivial |> fun _ => by
            intro j hj hjk
            by_cases e : j = k
            · subst e; rw [List.getElem?_eq_getElem hm, HX.out, HY.out, HXY.out]
            · exact HN.out j hj (by omega), drewNB hb _⟩
          case measure => simp [intOf]; omega
        · have hxy' : (x != y) = true := by simp [hxy]
          have HXY := hid hxy
          clear hxy
          go_wp2_with fail
          go_quiet (fail)
          go_wp2_with fail
          go_ret
          refine ⟨ret_bool ?_, drewNB hb _⟩
          have : ¬ l = m := by
            intro e
            subst e
            exact HXY.out (by rw [← HX.out, ← HY.out])
          simp [sameI, this]
      · go_wp2_with fail
        go_ret
        refine ⟨ret_bool ?_, hb⟩
        have : l = m := by
          apply List.ext_getElem? 
          intro j
          by_cases hj : j < l.length
          · rw [HN.out j hj (by omega), List.getElem?_eq_getElem hj]
          · rw [List.getElem?_eq_none (by omega), List.getElem?_eq_none (by have := HL.out; omega)]
        simp [sameI, this]
  · have hl' : ((l.length : Int) != m.length) = true := by simp; omega
    have hne : ¬ l = m := fun e => hlen (by rw [e])
    have HNE := hid hne
    clear hlen hne
    go_enter Tryd.func19, Tryd.ntmps19
    go_wp2_with fail
    go_ret
    exact ⟨ret_bool (by simp [sameI, HNE.out]), Below.refl _ _⟩

def swap01 (x : Int) : Int := if x = 0 ∨ x = 1 then 1 - x else x
theorem swapped_any (x : Int) (w : World) : Calls Tryd.prog 20 #[.int .i64 x] w fun e w' => e = .returned (.int .i64 (swap01 x)) ∧ w = w' := by
  unfold swap01
  by_cases h0 : x = 0
  · subst h0
    go_enter Tryd.func20, Tryd.ntmps20
    go_wp2_with fail
    go_ret
    exact ⟨rfl, rfl⟩
  · by_cases h1 : x = 1
    · subst h1
      go_enter Tryd.func20, Tryd.ntmps20
      go_wp2_with fail
      go_ret
      exact ⟨rfl, rfl⟩
    · have e0 : (x == 0) = false := by simpa using h0
      have e1 : (x == 1) = false := by simpa using h1
      rw [if_neg (by simp [h0, h1])]
      clear h0 h1
      go_enter Tryd.func20, Tryd.ntmps20
      go_wp2_with fail
      go_ret
      exact ⟨rfl, rfl⟩
end Go.Proofs.YtdbfnonpndlejaaDoor
