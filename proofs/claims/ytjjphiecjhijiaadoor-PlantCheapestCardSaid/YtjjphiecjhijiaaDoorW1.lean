import Derived.Test.YtjjphiecjhijiaaDoorN1
import Derived.Deep.RegionHeld3
import Derived.ChangeKeysEq
namespace Go.Proofs.YtjjphiecjhijiaaDoor
open Go.RowKit

theorem eq33n (a b c d : Int) (n : Nat) (w : World) : (Op.equalIn (n + 2) 33 (.agg #[.int .i64 a, .int .i64 b]) (.agg #[.int .i64 c, .int .i64 d])).run Tryd.prog w = .ok (decide (a = c ∧ b = d)) w := by
  obtain ⟨i0, hi, hz0, hz1, hz2⟩ := info_parts (show (Tryd.prog.info? 3).map (fun i => (i.zero, i.size, i.bytes)) = some (some (.int .i64 0), 1, 8) from by kernel_rfl)
  have hc : Tryd.prog.cellsOf 3 = 1 := by kernel_rfl
  rw [run_equalIn_array (P := Tryd.prog) (w := w) (n + 1) (xs := #[.int .i64 a, .int .i64 b]) (ys := #[.int .i64 c, .int .i64 d]) (hu := Tryd.underlying33) (hi := hi), hc]
  simp only [show List.range 2 = [0, 1] from rfl, Op.eqItems]
  by_cases h1 : a = c <;> by_cases h2 : b = d <;> simp [go_sem, h1, h2]
theorem eq33 (a b c d : Int) (w : World) : (Op.equalIn 10000 33 (.agg #[.int .i64 a, .int .i64 b]) (.agg #[.int .i64 c, .int .i64 d])).run Tryd.prog w = .ok (decide (a = c ∧ b = d)) w := eq33n a b c d 9998 w
set_option maxRecDepth 100000 in
set_option maxHeartbeats 400000 in
/-- besomref12.SamePairs -/
theorem samePairs_any (u v : Value) (l m : List (Int × Int)) (w : World) (h1 : SlK w u l) (h2 : SlK w v m) :
    Calls Tryd.prog 21 #[u, v] w fun e w' => e = .returned (.bool (l == m)) ∧ ∃ k, w' = w.drewN k := by
  obtain ⟨a1, c1, rfl, hl1, hc1⟩ := h1.open
  obtain ⟨a2, c2, rfl, hl2, hc2⟩ := h2.open
  have HC1 := hid hc1
  have HC2 := hid hc2
  clear h1 h2 hc1 hc2
  by_cases hl : l.length = m.length
  · have hlI : ((l.length : Int) != (m.length : Int)) = false := by simp [hl]
    have HL := hid hl
    clear hl
    go_enter Tryd.func21, Tryd.ntmps21
    go_wp2_with fail
    go_loopw [5] (fun i wr => ∃ k : Nat, k ≤ l.length ∧ i = .int .i64 k ∧ (∀ j, j < k → l[j]? = m[j]?) ∧ ∃ n, wr = w.drewN n) (fun i _ => l.length - (intOf i).toNat)
    case atStart => exact ⟨0, Nat.zero_le _, rfl, by omega, 0, rfl⟩
    case round =>
      obtain ⟨k, hk, rfl, hsame, nd, rfl⟩ := hrel
      have HSM := hid hsame
      clear hsame
      by_cases hlt : k < l.length
      · have hlt2 : k < m.length := by have := HL.out; omega
        obtain ⟨b1, o1, rfl, hb1, hx⟩ := HC1.out k hlt
        obtain ⟨b2, o2, rfl, hb2, hy⟩ := HC2.out k hlt2
        have x0 : (w.drewN nd).cell? ⟨b1, o1 + k * 2, none⟩ = some (.int .i64 l[k].1) := (hx k hlt).1
        have x1 : (w.drewN nd).cell? ⟨b1, o1 + k * 2 + 1, none⟩ = some (.int .i64 l[k].2) := (hx k hlt).2
        have y0 : (w.drewN nd).cell? ⟨b2, o2 + k * 2, none⟩ = some (.int .i64 m[k].1) := (hy k hlt2).1
        have y1 : (w.drewN nd).cell? ⟨b2, o2 + k * 2 + 1, none⟩ = some (.int .i64 m[k].2) := (hy k hlt2).2
        have hi0 : (0 : Int) ≤ (k : Int) := by omega
        have hi1 : (k : Int) < (l.length : Int) := by omega
        have hi2 : (k : Int) < (m.length : Int) := by omega
        clear hx hy
        generalize hxa : l[k] = xa at *
        generalize hya : m[k] = ya at *
        have HXY := hid (And.intro hxa hya)
        clear hxa hya
        obtain ⟨xa0, xa1⟩ := xa
        obtain ⟨ya0, ya1⟩ := ya
        have heq := fun w => eq33 xa0 xa1 ya0 ya1 w
        generalize hd : decide (xa0 = ya0 ∧ xa1 = ya1) = d at *
        have HD := hid hd
        clear hd
        go_upto_region 6 with fail
        go_region_held3 (fun w2 => w2.cell? ⟨b1, o1 + k * 2, none⟩ = some (.int .i64 xa0) ∧ w2.cell? ⟨b1, o1 + k * 2 + 1, none⟩ = some (.int .i64 xa1) ∧ w2.cell? ⟨b2, o2 + k * 2, none⟩ = some (.int .i64 ya0) ∧ w2.cell? ⟨b2, o2 + k * 2 + 1, none⟩ = some (.int .i64 ya1)) (first | (exact ⟨x0, x1, y0, y1⟩) | go_keep) (fail)
        cases d with
        | true =>
          go_wp2_with fail
          have hxy : l[k] = m[k] := by
            rw [HXY.out.1, HXY.out.2]
            have := HD.out
            simp at this
            rw [this.1, this.2]
          refine ⟨⟨k + 1, by omega, by go_num, ?_, _, rfl⟩, by simp [intOf]; omega⟩
          intro j hj
          by_cases e : j = k
          · rw [e, List.getElem?_eq_getElem hlt, List.getElem?_eq_getElem hlt2, hxy]
          · exact HSM.out j (by omega)
        | false =>
          go_wp2_with fail
          go_ret
          refine ⟨ret_bool ?_, _, rfl⟩
          symm
          rw [beq_eq_false_iff_ne]
          rintro rfl
          have h1 := HXY.out.1.symm.trans HXY.out.2
          have := HD.out
          simp at this
          injection h1 with h1 h2
          exact this h1 h2
      · obtain rfl : k = l.length := by omega
        go_wp2_with fail
        go_ret
        refine ⟨ret_bool ?_, _, rfl⟩
        symm
        rw [beq_iff_eq]
        apply List.ext_getElem?
        intro j
        by_cases hj : j < l.length
        · exact HSM.out j hj
        · rw [List.getElem?_eq_none (by omega), List.getElem?_eq_none (by have := HL.out; omega)]
  · have hlI : ((l.length : Int) != (m.length : Int)) = true := by simp; omega
    have HL := hid hl
    clear hl
    go_enter Tryd.func21, Tryd.ntmps21
    go_wp2_with fail
    go_ret
    exact ⟨ret_bool (by symm; rw [beq_eq_false_iff_ne]; rintro rfl; exact HL.out rfl), 0, rfl⟩
end Go.Proofs.YtjjphiecjhijiaaDoor
