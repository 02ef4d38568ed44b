/- fixed.wide.root: the loop over bits. -/
import Derived.Test.YtolnhicngepnnaaGreatF3
import Derived.Test.YtolnhicngepnnaaGreatF4
namespace Go.Proofs.YtolnhicngepnnaaGreat
open Go.RowKit

theorem btrans {w w1 w2 : World} {B : Nat} (h : Below B w w1) (hb : B ≤ w.heap.size) (h2 : Below w1.heap.size w1 w2) : Below B w w2 := h.trans (h2.mono (Nat.le_trans hb h.size))
/-- The bit of a step: the last step has none. -/
def bitP (i : Nat) : Nat := if i = 0 then 0 else 2 ^ (i - 1)
theorem bitP_half (j : Nat) : bitP (j + 1) / 2 = bitP j := by
  unfold bitP
  rcases j with _ | j
  · simp
  · simp [Nat.pow_succ]
theorem or_bit (n j : Nat) (hn : n < 9223372036854775808) (hm : n % 2 ^ (j + 1) = 0) (hj : j ≤ 62) : bits BinOp.or .u64 (n : Int) ((2 ^ j : Nat) : Int) = ((n + 2 ^ j : Nat) : Int) := by
  have hp : 2 ^ j ≤ 2 ^ 62 := Nat.pow_le_pow_right (by omega) hj
  rw [u64_or_nat _ _ (by omega) (by omega)]
  have hd : n = 2 ^ (j + 1) * (n / 2 ^ (j + 1)) := by
    have := Nat.div_add_mod n (2 ^ (j + 1))
    omega
  have h := Nat.two_pow_add_eq_or_of_lt (i := j + 1) (b := 2 ^ j) (Nat.pow_lt_pow_right (by omega) (by omega)) (n / 2 ^ (j + 1))
  rw [← hd] at h
  rw [← h]
/-- What stands between two steps. -/
def RootI (a i n : Nat) : Prop := i ≤ 63 ∧ n % 2 ^ i = 0 ∧ n + 2 ^ i ≤ 9223372036854775808 ∧ n * n ≤ a ∧ a < (n + 2 ^ i) * (n + 2 ^ i)
theorem RootI.start {a : Nat} (h : a < 85070591730234615865843651857942052864) : RootI a 63 0 := ⟨by omega, by simp, by simp, by simp, by simpa using h⟩
theorem RootI.step {a j n : Nat} (h : RootI a (j + 1) n) : RootI a j (if (n + 2 ^ j) * (n + 2 ^ j) ≤ a then n + 2 ^ j else n) := by
  obtain ⟨h1, h2, h3, h4, h5⟩ := h
  have hp : 2 ^ (j + 1) = 2 ^ j + 2 ^ j := by rw [Nat.pow_succ]; omega
  have hm : n % 2 ^ j = 0 := by
    have h6 : 2 ^ j ∣ 2 ^ (j + 1) := ⟨2, by rw [Nat.pow_succ]⟩
    exact Nat.mod_eq_zero_of_dvd (Nat.dvd_trans h6 (Nat.dvd_of_mod_eq_zero h2))
  rw [hp] at h3 h5
  split
  · next h7 =>
    refine ⟨by omega, ?_, by omega, h7, by rw [Nat.add_assoc]; exact h5⟩
    rw [Nat.add_mod, hm]; simp
  · next h7 => exact ⟨by omega, hm, by omega, h4, by omega⟩
theorem RootI.done {a n : Nat} (h : RootI a 0 n) : n * n ≤ a ∧ a < (n + 1) * (n + 1) ∧ n < 9223372036854775808 := by
  obtain ⟨-, -, h3, h4, h5⟩ := h
  exact ⟨h4, by simpa using h5, by simp at h3; omega⟩
set_option maxRecDepth 100000 in
set_option maxHeartbeats 2000000 in
theorem root57_any (a : Nat) (ha : a < 85070591730234615865843651857942052864) (w : World) : Calls Tryz.prog 102 #[wideV a] w fun e w' => (∃ n : Nat, e = .returned (.int .u64 (n : Int)) ∧ n * n ≤ a ∧ a < (n + 1) * (n + 1) ∧ n < 9223372036854775808) ∧ Below w.heap.size w w' := by
  have HW := hid (fun (x : Nat) (W : World) => compareW_any x a W)
  obtain ⟨hi, hhi⟩ : ∃ hi, a / 18446744073709551616 = hi := ⟨_, rfl⟩
  obtain ⟨lo, hlo⟩ : ∃ lo, a % 18446744073709551616 = lo := ⟨_, rfl⟩
  have HV := hid (show wideV a = .agg #[.int .u64 (hi : Int), .int .u64 (lo : Int)] by rw [wideV, hhi, hlo])
  rw [HV.out]
  rw [HV.out] at HW
  have HR := hid (RootI.start ha)
  clear hhi hlo ha
  obtain ⟨W2, hW2⟩ : ∃ W2, w.alloc (.cells #[.int .u64 (hi : Int), .int .u64 (lo : Int)] 149) = W2 := ⟨_, rfl⟩
  have hp := heap_alloc_new w (.cells #[.int .u64 (hi : Int), .int .u64 (lo : Int)] 149)
  have hb := (Below.refl w.heap.size w).alloc (Nat.le_refl _) (.cells #[.int .u64 (hi : Int), .int .u64 (lo : Int)] 149)
  have hz : W2.heap.size = w.heap.size + 1 := by rw [← hW2]; simp
  rw [hW2] at hp hb
  have c0 : W2.cell? ⟨w.heap.size, 0, none⟩ = some (.int .u64 (hi : Int)) := by simp [World.cell?, hp]
  have c1 : W2.cell? ⟨w.heap.size, 1, none⟩ = some (.int .u64 (lo : Int)) := by simp [World.cell?, hp]
  have HQ := hid (show ∀ W, Below W2.heap.size W2 W → W.cell? ⟨w.heap.size, 0, none⟩ = some (.int .u64 (hi : Int)) ∧ W.cell? ⟨w.heap.size, 1, none⟩ = some (.int .u64 (lo : Int)) from fun W hb => ⟨bcs hb c0, bcs hb c1⟩)
  have HB := hid hb
  have HW2 := hid hW2
  clear hp hb c0 c1 hW2
  go_enter Tryz.func102, Tryz.ntmps102
  go_wp2_with fail
  rw [HW2.out]
  clear HW2
  go_loopw [3, 4] (fun x y wr => ∃ i n : Nat, x = .int .u64 (n : Int) ∧ y = .int .u64 (bitP i : Int) ∧ RootI a i n ∧ Below W2.heap.size W2 wr) (fun _ y _ => (intOf y).toNat)
  case atStart => exact ⟨63, 0, rfl, rfl, HR.out, Below.refl _ _⟩
  case round =>
    obtain ⟨i, n, rfl, rfl, hri, hb⟩ := hrel
    have HRI := hid hri
    have HBR := hid hb
    clear hri hb
    rcases i with _ | j
    · have hbi : bitP 0 = 0 := rfl
      rw [hbi]
      go_wp2_with fail
      go_ret
      exact ⟨⟨n, rfl, HRI.out.done⟩, HB.out.trans (HBR.out.mono HB.out.size)⟩
    · have hbj : bitP (j + 1) = 2 ^ j := by unfold bitP; simp
      have hpos : 0 < 2 ^ j := Nat.pos_of_ne_zero (by simp)
      have HHALF := hid (bitP_half j)
      have hri := HRI.out
      have hpj : 2 ^ (j + 1) = 2 ^ j + 2 ^ j := by rw [Nat.pow_succ]; omega
      have hor := or_bit n j (by have := hri.2.2.1; omega) hri.2.1 (by have := hri.1; omega)
      have HST := hid (RootI.step hri)
      have hnb : n + 2 ^ j < 18446744073709551616 := by have := hri.2.2.1; omega
      rw [hbj] at HHALF ⊢
      generalize 2 ^ j = B at *
      clear hri hpj hbj
      obtain ⟨q, hq⟩ : ∃ q, n + B = q := ⟨_, rfl⟩
      rw [hq] at hor HST hnb
      clear hq
      have hBI : (0 : Int) < (B : Int) := by omega
      have HP := hid (fun W => product_any q q hnb hnb W)
      have HC := hid (fun W => HW.out (q * q) W)
      obtain ⟨lv, hlv⟩ : ∃ lv, decide (q * q ≤ a) = lv := ⟨_, rfl⟩
      have HLV := hid (show decide (cmpN (q * q) a ≤ 0) = lv by
        rw [← hlv]
        unfold cmpN
        by_cases h1 : q * q < a
        · simp [h1]; omega
        · by_cases h2 : a < q * q
          · simp [h1, h2]
          · simp [h1, h2]; omega)
      have HS2 := hid (show RootI a j (if lv = true then q else n) by
        have h1 := HST.out
        rw [← hlv]; simpa using h1)
      clear hlv HST
      obtain ⟨cv, hcv⟩ : ∃ cv, cmpN (q * q) a = cv := ⟨_, rfl⟩
      rw [hcv] at HLV HC
      clear hcv
      generalize wideV (q * q) = pv at *
      go_upto_region 6 with fail
      go_cut [18] (fun x wx => x = .bool lv ∧ Below W2.heap.size W2 wx)
      case first =>
        go_region_held3 (fun W => W.cell? ⟨w.heap.size, 0, none⟩ = some (.int .u64 (hi : Int)) ∧ W.cell? ⟨w.heap.size, 1, none⟩ = some (.int .u64 (lo : Int)))
          (exact HQ.out _ (by repeat' (first | exact HBR.out | apply Below.drew | refine btrans ?_ (by have := HBR.out.size; first | exact Nat.le_refl _ | simpa using this) (by assumption))))
          (first
            | (go_at_call 60; refine (HP.out _).mono ?_; rintro e w1 ⟨rfl, hb1⟩)
            | (go_at_call 104; refine (HC.out _).mono ?_; rintro e w2 ⟨rfl, hb2⟩))
        all_goals
          go_wp2_with fail
          go_meet
          refine ⟨by rw [← HLV.out], ?_⟩
          repeat' (first | exact HBR.out | apply Below.drew | refine btrans ?_ (by have := HBR.out.size; first | exact Nat.le_refl _ | simpa using this) (by assumption))
      case rest =>
        obtain ⟨rfl, hb9⟩ := hcut
        have HB9 := hid hb9
        clear hb9
        have hmeas : B / 2 < B := by omega
        have HH2 := hid (show ((B : Int) / 2 : Int) = (bitP j : Int) by rw [← HHALF.out]; simp)
        cases lv with
        | true =>
          rw [if_pos rfl] at HS2
          go_wp2_with fail
          rw [HH2.out]
          exact ⟨⟨j, q, rfl, rfl, HS2.out, HB9.out⟩, by rw [← HH2.out]; simp only [intOf]; omega⟩
        | false =>
          rw [if_neg (by simp)] at HS2
          go_wp2_with fail
          rw [HH2.out]
          exact ⟨⟨j, n, rfl, rfl, HS2.out, HB9.out⟩, by rw [← HH2.out]; simp only [intOf]; omega⟩
end Go.Proofs.YtolnhicngepnnaaGreat
