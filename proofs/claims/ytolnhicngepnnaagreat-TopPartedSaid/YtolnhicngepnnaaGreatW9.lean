/- fixed: share. -/
import Derived.Test.YtolnhicngepnnaaGreatW8
namespace Go.Proofs.YtolnhicngepnnaaGreat
open Go.RowKit

/-- The greatest share, bit by bit: i bits are left. -/
def shN (s X : Nat) : Nat → Nat → Nat
  | 0, n => n
  | i + 1, n => shN s X i (if n + 2 ^ i ≤ 65536 ∧ (n + 2 ^ i) * (n + 2 ^ i) * s ≤ X then n + 2 ^ i else n)
def shareN (x s : Nat) : Nat := shN s (x * x * 4294967296) 17 0
theorem shN_le (s X : Nat) : ∀ i n, n ≤ 65536 → shN s X i n ≤ 65536 := by
  intro i
  induction i with
  | zero => intro n h; exact h
  | succ i ih =>
    intro n h
    unfold shN
    apply ih
    split
    · omega
    · exact h
theorem shareN_le (x s : Nat) : shareN x s ≤ 65536 := shN_le _ _ _ _ (by omega)
theorem pow_mod {n i : Nat} (h : n % 2 ^ (i + 1) = 0) : n % 2 ^ i = 0 ∧ (n + 2 ^ i) % 2 ^ i = 0 := by
  have h1 : n % 2 ^ i = 0 := Nat.mod_eq_zero_of_dvd (Nat.dvd_trans ⟨2, by rw [Nat.pow_succ]⟩ (Nat.dvd_of_mod_eq_zero h))
  exact ⟨h1, by rw [Nat.add_mod, h1]; simp⟩
set_option maxRecDepth 100000 in
theorem share172_any (x s : Nat) (hx : x ≤ 70368744177664) (hs : s < 340282366920938463463374607431768211456) (w : World) :
    Calls Tryz.prog 172 #[.int .u64 (x : Int), wideV s] w fun e w' => e = .returned (.int .u64 (shareN x s : Int)) ∧ Below w.heap.size w w' := by
  have HBL := hid (fun n (hn : n < 4294967296) W => below_any n x s hn hx hs W)
  obtain ⟨hi, hhi⟩ : ∃ hi, s / 18446744073709551616 = hi := ⟨_, rfl⟩
  obtain ⟨lo, hlo⟩ : ∃ lo, s % 18446744073709551616 = lo := ⟨_, rfl⟩
  have HV := hid (show wideV s = .agg #[.int .u64 (hi : Int), .int .u64 (lo : Int)] by rw [wideV, hhi, hlo])
  rw [HV.out] at HBL ⊢
  clear hhi hlo HV
  have HA := hid (show shareN x s = shN s (x * x * 4294967296) 17 0 from rfl)
  generalize shareN x s = ans at *
  generalize x * x * 4294967296 = X at *
  obtain ⟨W2, hW2⟩ : ∃ W2, w.alloc (.cells #[.int .u64 (hi : Int), .int .u64 (lo : Int)] 149) = W2 := ⟨_, rfl⟩
  have hp := heap_alloc_new w (.cells #[.int .u64 (hi : Int), .int .u64 (lo : Int)] 149)
  have hb := (Below.refl w.heap.size w).alloc (Nat.le_refl _) (.cells #[.int .u64 (hi : Int), .int .u64 (lo : Int)] 149)
  have hz : W2.heap.size = w.heap.size + 1 := by rw [← hW2]; simp
  rw [hW2] at hp hb
  have HQ := hid (show ∀ W, Below W2.heap.size W2 W → W.cell? ⟨w.heap.size, 0, none⟩ = some (.int .u64 (hi : Int)) ∧ W.cell? ⟨w.heap.size, 1, none⟩ = some (.int .u64 (lo : Int)) from fun W hb => by
    obtain ⟨g0, g1, -, -⟩ := cells2 (carry hp hb)
    exact ⟨g0, g1⟩)
  have HB := hid hb
  have HW2 := hid hW2
  have HXX := hid (And.intro hx hs)
  clear hp hb hW2 hx hs
  go_enter Tryz.func172, Tryz.ntmps172
  go_wp2_with fail
  rw [HW2.out]
  clear HW2
  go_loopw [5, 6] (fun x y wr => ∃ i n : Nat, x = .int .u64 (n : Int) ∧ y = .int .u64 (bitP i : Int) ∧ Hid (i ≤ 17 ∧ n % 2 ^ i = 0 ∧ n ≤ 65536 ∧ shN s X i n = ans) ∧ Below W2.heap.size W2 wr) (fun _ y _ => (intOf y).toNat)
  case atStart => exact ⟨17, 0, rfl, rfl, hid ⟨by omega, by simp, by omega, HA.out.symm⟩, Below.refl _ _⟩
  case round =>
    obtain ⟨i, n, rfl, rfl, HRI, hb⟩ := hrel
    have HBR := hid hb
    clear hb
    rcases i with _ | j
    · have hbi : bitP 0 = 0 := rfl
      rw [hbi]
      go_wp2_with fail
      go_ret
      exact ⟨by rw [show n = ans from HRI.out.2.2.2]; rfl, HB.out.trans (HBR.out.mono HB.out.size)⟩
    · have hbj : bitP (j + 1) = 2 ^ j := by unfold bitP; simp
      have hpos : 0 < 2 ^ j := Nat.pos_of_ne_zero (by simp)
      have HHALF := hid (bitP_half j)
      obtain ⟨r1, r2, r3, r4⟩ := HRI.out
      have hjle : 2 ^ j ≤ 2 ^ 16 := Nat.pow_le_pow_right (by omega) (by omega)
      have hor := or_bit n j (by omega) r2 (by omega)
      have HM := hid (pow_mod r2)
      have HST := hid (show shN s X j (if n + 2 ^ j ≤ 65536 ∧ (n + 2 ^ j) * (n + 2 ^ j) * s ≤ X then n + 2 ^ j else n) = ans from r4)
      have HJ := hid (show j ≤ 17 by omega)
      clear r1 r2 r4
      rw [hbj] at HHALF ⊢
      obtain ⟨q, hq⟩ : ∃ q, n + 2 ^ j = q := ⟨_, rfl⟩
      rw [hq] at hor HST HM
      have hq32 : q < 4294967296 := by omega
      generalize hBB : 2 ^ j = B at *
      have hBI : (0 : Int) < (B : Int) := by omega
      have HBC := hid (HBL.out q hq32)
      have HHI := hid (show ((B : Int) / 2 : Int) = (bitP j : Int) by rw [← HHALF.out]; simp)
      have HMS := hid (show B / 2 < B by omega)
      have HBB := hid hBB
      have HN3 := hid r3
      clear hBB hq hjle hpos hbj HHALF r3
      obtain ⟨g0, g1⟩ := HQ.out _ HBR.out
      have fin : ∀ (m : Nat) (W : World), shN s X j m = ans → m % B = 0 → m ≤ 65536 → Below W2.heap.size W2 W → (∃ i n_1 : Nat, Value.int IntKind.u64 (m : Int) = Value.int IntKind.u64 (n_1 : Int) ∧ Value.int IntKind.u64 ((B : Int) / 2) = Value.int IntKind.u64 (bitP i : Int) ∧ Hid (i ≤ 17 ∧ n_1 % 2 ^ i = 0 ∧ n_1 ≤ 65536 ∧ shN s X i n_1 = ans) ∧ Below W2.heap.size W2 W) ∧ (intOf (Value.int IntKind.u64 ((B : Int) / 2))).toNat < (intOf (Value.int IntKind.u64 (B : Int))).toNat := fun m W h1 h2 h3 h4 => ⟨⟨j, m, rfl, by rw [HHI.out], hid ⟨HJ.out, (by rw [HBB.out]; exact h2), h3, h1⟩, h4⟩, by simp only [intOf]; have := HMS.out; omega⟩
      have HFIN := hid fin
      clear fin
      by_cases hle : q ≤ 65536
      · have hleI : ((q : Int) ≤ 65536) := by omega
        cases hbel : decide (q * q * s ≤ X) with
        | true =>
          have HOK := hid (show shN s X j q = ans by have h := HST.out; rwa [if_pos ⟨hle, of_decide_eq_true hbel⟩] at h)
          have HLE := hid hle
          rw [hbel] at HBC
          clear hbel hle HST
          go_wp2_with fail
          refine (HBC.out _).mono ?_
          rintro e w3 ⟨rfl, hb3⟩
          have HB3 := hid (btrans HBR.out (Nat.le_refl _) hb3)
          clear hb3 g0 g1
          go_wp2_with fail
          exact HFIN.out q _ HOK.out HM.out.2 HLE.out HB3.out
        | false =>
          have HOK := hid (show shN s X j n = ans by have h := HST.out; rwa [if_neg (fun hh => by simp [hh.2] at hbel)] at h)
          rw [hbel] at HBC
          clear hbel hle HST
          go_wp2_with fail
          refine (HBC.out _).mono ?_
          rintro e w3 ⟨rfl, hb3⟩
          have HB3 := hid (btrans HBR.out (Nat.le_refl _) hb3)
          clear hb3 g0 g1
          go_wp2_with fail
          exact HFIN.out n _ HOK.out HM.out.1 HN3.out HB3.out
      · have hleI : ¬ ((q : Int) ≤ 65536) := by omega
        have HOK := hid (show shN s X j n = ans by have h := HST.out; rwa [if_neg (fun hh => hle hh.1)] at h)
        clear hle HST
        go_wp2_with fail
        exact HFIN.out n _ HOK.out HM.out.1 HN3.out HBR.out
end Go.Proofs.YtolnhicngepnnaaGreat
