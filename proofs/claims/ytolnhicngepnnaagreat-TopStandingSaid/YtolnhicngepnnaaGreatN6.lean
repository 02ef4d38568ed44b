/- besomref11.Great; skip.Value of a game that is over. -/
import Derived.Test.YtolnhicngepnnaaGreatN5
namespace Go.Proofs.YtolnhicngepnnaaGreat
open Go.RowKit

set_option maxRecDepth 100000 in
set_option maxHeartbeats 4000000 in
theorem great12_any (d : Int) (v0 v1 : Value) (l0 l1 : List (List Int)) (w : World) (h0 : SlR w v0 l0) (h1 : SlR w v1 l1) : Calls Tryz.prog 12 #[.agg #[.int .i64 d, v0, v1]] w fun e w' => RetB e ∧ Below w.heap.size w w' := by
  obtain ⟨a0, c0, rfl, -, ho0⟩ := h0.open
  obtain ⟨a1, c1, rfl, -, ho1⟩ := h1.open
  have HO0 := hid ho0
  have HO1 := hid ho1
  have HB := hid ((Below.refl w.heap.size w).alloc (Nat.le_refl _) (.cells #[.int .i64 d, .slice a0 l0.length c0, .slice a1 l1.length c1] 49))
  have hN := heap_alloc_new w (.cells #[.int .i64 d, .slice a0 l0.length c0, .slice a1 l1.length c1] 49)
  obtain ⟨W1, hW1⟩ : ∃ W1, w.alloc (.cells #[.int .i64 d, .slice a0 l0.length c0, .slice a1 l1.length c1] 49) = W1 := ⟨_, rfl⟩
  rw [hW1] at HB hN
  have q0 : W1.cell? ⟨w.heap.size, 1, none⟩ = some (.slice a0 l0.length c0) := by simp [World.cell?, hN]
  have q1 : W1.cell? ⟨w.heap.size, 2, none⟩ = some (.slice a1 l1.length c1) := by simp [World.cell?, hN]
  have HW1 := hid hW1
  clear h0 h1 hW1 hN ho0 ho1
  go_enter Tryz.func12, Tryz.ntmps12
  go_upto_region 1 with fail
  rw [HW1.out]
  clear HW1
  go_wp2_with fail
  go_loopw [3] (fun i wr => ∃ k : Nat, k ≤ 2 ∧ i = .int .i64 k ∧ wr = W1) (fun i _ => 2 - (intOf i).toNat)
  case atStart => exact ⟨0, by omega, rfl, rfl⟩
  case round =>
    obtain ⟨k, hk, rfl, rfl⟩ := hrel
    obtain ⟨W1, rfl⟩ : ∃ x, x = wr := ⟨_, rfl⟩
    rcases (show k = 0 ∨ k = 1 ∨ k = 2 by omega) with rfl | rfl | rfl
    · have hkI : (0 : Int) ≤ 0 := by omega
      by_cases h9 : (9 : Int) < (l0.length : Int)
      · by_cases h3 : (3 : Int) < (l0.length : Int)
        · have h8 : ¬ (l0.length : Int) ≤ 8 := by omega
          go_wp2_with fail
          go_ret
          exact ⟨RetB.of _, HB.out⟩
        · exfalso; omega
      by_cases h3 : (3 : Int) < (l0.length : Int)
      · by_cases h8 : (l0.length : Int) ≤ 8
        · go_wp2_with fail
          go_ret
          exact ⟨RetB.of _, HB.out⟩
        · go_upto_region 7 with fail
          go_loopw [4] (fun i wq => ∃ n : Nat, n ≤ l0.length ∧ i = .int .i64 n ∧ wq = W1) (fun i _ => l0.length - (intOf i).toNat)
          case atStart => exact ⟨0, Nat.zero_le _, rfl, rfl⟩
          case round =>
            obtain ⟨n, hn, rfl, rfl⟩ := hrel
            by_cases hlt : n < l0.length
            · have hltI : (n : Int) < (l0.length : Int) := by omega
              obtain ⟨b, off, a2, c2, rfl, hx, -⟩ := HO0.out n hlt
              have hx0 := bcs HB.out hx
              clear hx
              by_cases h60 : (60 : Int) < (l0[n].length : Int)
              · go_wp2_with fail
                go_ret
                exact ⟨RetB.of _, HB.out⟩
              · go_wp2_with fail
                exact ⟨⟨n + 1, hlt, by go_num, by first | rfl | trivial⟩, by simp only [intOf]; omega⟩
            · have hltI : ¬ (n : Int) < (l0.length : Int) := by omega
              go_wp2_with fail
              exact ⟨⟨1, by omega, rfl, by first | rfl | trivial⟩, by simp [intOf]⟩
      · go_upto_region 7 with fail
        go_loopw [4] (fun i wq => ∃ n : Nat, n ≤ l0.length ∧ i = .int .i64 n ∧ wq = W1) (fun i _ => l0.length - (intOf i).toNat)
        case atStart => exact ⟨0, Nat.zero_le _, rfl, rfl⟩
        case round =>
          obtain ⟨n, hn, rfl, rfl⟩ := hrel
          by_cases hlt : n < l0.length
          · have hltI : (n : Int) < (l0.length : Int) := by omega
            obtain ⟨b, off, a2, c2, rfl, hx, -⟩ := HO0.out n hlt
            have hx0 := bcs HB.out hx
            clear hx
            by_cases h60 : (60 : Int) < (l0[n].length : Int)
            · go_wp2_with fail
              go_ret
              exact ⟨RetB.of _, HB.out⟩
            · go_wp2_with fail
              exact ⟨⟨n + 1, hlt, by go_num, by first | rfl | trivial⟩, by simp only [intOf]; omega⟩
          · have hltI : ¬ (n : Int) < (l0.length : Int) := by omega
            go_wp2_with fail
            exact ⟨⟨1, by omega, rfl, by first | rfl | trivial⟩, by simp [intOf]⟩
    · have hkI : (0 : Int) ≤ 1 := by omega
      by_cases h9 : (9 : Int) < (l1.length : Int)
      · by_cases h3 : (3 : Int) < (l1.length : Int)
        · have h8 : ¬ (l1.length : Int) ≤ 8 := by omega
          go_wp2_with fail
          go_ret
          exact ⟨RetB.of _, HB.out⟩
        · exfalso; omega
      by_cases h3 : (3 : Int) < (l1.length : Int)
      · by_cases h8 : (l1.length : Int) ≤ 8
        · go_wp2_with fail
          go_ret
          exact ⟨RetB.of _, HB.out⟩
        · go_upto_region 7 with fail
          go_loopw [4] (fun i wq => ∃ n : Nat, n ≤ l1.length ∧ i = .int .i64 n ∧ wq = W1) (fun i _ => l1.length - (intOf i).toNat)
          case atStart => exact ⟨0, Nat.zero_le _, rfl, rfl⟩
          case round =>
            obtain ⟨n, hn, rfl, rfl⟩ := hrel
            by_cases hlt : n < l1.length
            · have hltI : (n : Int) < (l1.length : Int) := by omega
              obtain ⟨b, off, a2, c2, rfl, hx, -⟩ := HO1.out n hlt
              have hx0 := bcs HB.out hx
              clear hx
              by_cases h60 : (60 : Int) < (l1[n].length : Int)
              · go_wp2_with fail
                go_ret
                exact ⟨RetB.of _, HB.out⟩
              · go_wp2_with fail
                exact ⟨⟨n + 1, hlt, by go_num, by first | rfl | trivial⟩, by simp only [intOf]; omega⟩
            · have hltI : ¬ (n : Int) < (l1.length : Int) := by omega
              go_wp2_with fail
              exact ⟨⟨2, by omega, rfl, by first | rfl | trivial⟩, by simp [intOf]⟩
      · go_upto_region 7 with fail
        go_loopw [4] (fun i wq => ∃ n : Nat, n ≤ l1.length ∧ i = .int .i64 n ∧ wq = W1) (fun i _ => l1.length - (intOf i).toNat)
        case atStart => exact ⟨0, Nat.zero_le _, rfl, rfl⟩
        case round =>
          obtain ⟨n, hn, rfl, rfl⟩ := hrel
          by_cases hlt : n < l1.length
          · have hltI : (n : Int) < (l1.length : Int) := by omega
            obtain ⟨b, off, a2, c2, rfl, hx, -⟩ := HO1.out n hlt
            have hx0 := bcs HB.out hx
            clear hx
            by_cases h60 : (60 : Int) < (l1[n].length : Int)
            · go_wp2_with fail
              go_ret
              exact ⟨RetB.of _, HB.out⟩
            · go_wp2_with fail
              exact ⟨⟨n + 1, hlt, by go_num, by first | rfl | trivial⟩, by simp only [intOf]; omega⟩
          · have hltI : ¬ (n : Int) < (l1.length : Int) := by omega
            go_wp2_with fail
            exact ⟨⟨2, by omega, rfl, by first | rfl | trivial⟩, by simp [intOf]⟩
    · go_wp2_with fail
      go_ret
      exact ⟨RetB.of _, HB.out⟩
end Go.Proofs.YtolnhicngepnnaaGreat
