/- fixed: quotients below 2^64. -/
import Derived.Test.YtolnhicngepnnaaGreatFX
import Derived.BigRegion
namespace Go.Proofs.YtolnhicngepnnaaGreat
open Go.RowKit

theorem wrapU (q : Nat) (h : q < 18446744073709551616) : IntKind.u64.wrap (q : Int) = (q : Int) := by
  rw [IntKind.wrap_u64]; omega
theorem div84_any (x d : Nat) (hx : x < 18446744073709551616) (hd : 0 < d) (w : World) : Calls Tryz.prog 180 #[.int .u64 0, .int .u64 (x : Int), .int .u64 (d : Int)] w fun e w' => e = .returned (.tuple #[.int .u64 ((x / d : Nat) : Int), .int .u64 ((x % d : Nat) : Int)]) ∧ Below w.heap.size w w' := by
  have h0 : ¬ (d : Int) = 0 := by omega
  have h1 : ¬ (d : Int) ≤ 0 := by omega
  have hq : (x : Int) / (d : Int) = ((x / d : Nat) : Int) := by simp
  have hr : (x : Int) % (d : Int) = ((x % d : Nat) : Int) := by simp
  have HQ := hid (And.intro hq hr)
  clear hq hr
  have HWR := hid (wrapU (x / d) (by have := Nat.div_le_self x d; omega))
  go_enter Tryz.func180, Tryz.ntmps180
  go_wp2_with fail
  go_region
  all_goals
    go_wp2_with fail
    rw [HQ.out.1, HQ.out.2, HWR.out]
    go_ret2
    exact ⟨rfl, (Below.refl _ _).drew⟩
set_option maxRecDepth 100000 in
theorem over71_any (x d : Nat) (hx : x < 18446744073709551616) (hd : 0 < d) (w : World) : Calls Tryz.prog 147 #[wideV x, .int .u64 (d : Int)] w fun e w' => e = .returned (.tuple #[.int .u64 ((x / d : Nat) : Int), .int .u64 ((x % d : Nat) : Int), .bool true]) ∧ Below w.heap.size w w' := by
  have HD := hid (fun W => div84_any x d hx hd W)
  rw [show wideV x = .agg #[.int .u64 0, .int .u64 (x : Int)] by rw [wideV, Nat.div_eq_of_lt hx, Nat.mod_eq_of_lt hx]; rfl]
  have h1 : ¬ (d : Int) ≤ 0 := by omega
  obtain ⟨q, hq⟩ : ∃ q, x / d = q := ⟨_, rfl⟩
  obtain ⟨r, hr⟩ : ∃ r, x % d = r := ⟨_, rfl⟩
  rw [hq, hr] at HD
  rw [hq, hr]
  clear hq hr
  go_enter Tryz.func147, Tryz.ntmps147
  go_wp2_with fail
  refine (HD.out _).mono ?_
  rintro e w1 ⟨rfl, hb⟩
  go_wp2_with fail
  go_ret3
  exact ⟨rfl, btrans ((Below.refl _ _).alloc (Nat.le_refl _) _) (by simp) hb⟩
/-- What a quotient is. -/
def quoM (f : FuncId) (x d : Nat) (neg : Bool) : Nat := if 0 < x % d then (if roundR f (cmpN (2 * (x % d)) d) neg then x / d + 1 else x / d) else x / d
set_option maxRecDepth 100000 in
set_option maxHeartbeats 4000000 in
theorem quotient49_any (f : FuncId) (hf : isWay f) (x d : Nat) (neg : Bool) (hx : x < 18446744073709551616) (hd : 0 < d) (hd2 : d < 18446744073709551616) (w : World) : Calls Tryz.prog 93 #[wideV x, .int .u64 (d : Int), .bool neg, .func (.func f) #[] #[]] w fun e w' => EndsX (signX (quoM f x d neg) neg) e ∧ Below w.heap.size w w' := by
  have hcf := enters_way f hf
  have HO := hid (fun W => over71_any x d hx hd W)
  have HND := hid (fun W => need_any true 4 W)
  have HM := hid (show quoM f x d neg = if 0 < x % d then (if roundR f (cmpN (2 * (x % d)) d) neg then x / d + 1 else x / d) else x / d from rfl)
  have hrl : x % d < d := Nat.mod_lt _ hd
  have hql : x / d ≤ x := Nat.div_le_self x d
  have hqx : 0 < x % d → x / d + 1 ≤ x := fun h => by
    have := Nat.div_add_mod x d
    rcases Nat.lt_or_ge 1 d with h1 | h1
    · rcases Nat.eq_zero_or_pos (x / d) with h2 | h2
      · omega
      · have : 2 * (x / d) ≤ d * (x / d) := Nat.mul_le_mul_right _ h1
        omega
    · have : x % d < 1 := Nat.lt_of_lt_of_le (Nat.mod_lt _ hd) h1
      omega
  obtain ⟨q, hq⟩ : ∃ q, x / d = q := ⟨_, rfl⟩
  obtain ⟨r, hr⟩ : ∃ r, x % d = r := ⟨_, rfl⟩
  rw [hq, hr] at HO HM
  rw [hr] at hrl hqx
  rw [hq] at hql hqx
  clear hq hr
  obtain ⟨hi, hhi⟩ : ∃ hi, x / 18446744073709551616 = hi := ⟨_, rfl⟩
  obtain ⟨lo, hlo⟩ : ∃ lo, x % 18446744073709551616 = lo := ⟨_, rfl⟩
  have HV := hid (show wideV x = .agg #[.int .u64 (hi : Int), .int .u64 (lo : Int)] by rw [wideV, hhi, hlo])
  rw [HV.out] at HO ⊢
  clear HV hhi hlo
  generalize quoM f x d neg = m at *
  go_enter Tryz.func93, Tryz.ntmps93
  go_wp2_with fail
  refine (HO.out _).mono ?_
  rintro e W1 ⟨rfl, hb1⟩
  have HB1 := hid (btrans ((Below.refl w.heap.size w).alloc (Nat.le_refl _) _) (by simp) hb1)
  clear hb1 HO
  go_wp2_with fail
  refine (HND.out _).mono ?_
  rintro e W2 ⟨he, rfl⟩
  obtain rfl : e = .returned (.tuple #[]) := he
  have HFIN := hid (show ∀ (n : Nat), n < 18446744073709551616 → ∀ W, Calls Tryz.prog 105 #[.int .u64 (n : Int), .bool neg] W fun e w' => EndsX (signX n neg) e ∧ w' = W from fun n hn W => signed_any n neg hn W)
  by_cases hr0 : 0 < r
  · have hr0I : (0 : Int) < (r : Int) := by omega
    rw [if_pos hr0] at HM
    have h1 := hqx hr0
    have HPL := hid (fun W => plus_any r r (by omega) W)
    have HC := hid (fun W => compareW_any (2 * r) d W)
    rw [show r + r = 2 * r by omega, show wideV r = .agg #[.int .u64 0, .int .u64 (r : Int)] by rw [wideV, Nat.div_eq_of_lt (by omega), Nat.mod_eq_of_lt (by omega)]; rfl] at HPL
    rw [show wideV d = .agg #[.int .u64 0, .int .u64 (d : Int)] by rw [wideV, Nat.div_eq_of_lt hd2, Nat.mod_eq_of_lt hd2]; rfl] at HC
    have HRD := hid (fun c W => round_any f hf c neg W)
    have HZ := hid (And.intro hql (And.intro hqx hx))
    generalize wideV (2 * r) = v1 at *
    generalize cmpN (2 * r) d = c at *
    obtain ⟨rb, hrb⟩ : ∃ rb, roundR f c neg = rb := ⟨_, rfl⟩
    have HRB := hid (show ∀ W, Calls Tryz.prog f #[.int .i64 c, .bool neg] W fun e w' => e = .returned (.bool rb) ∧ w' = W from fun W => by rw [← hrb]; exact HRD.out c W)
    rw [hrb] at HM
    clear hrb HRD hql hqx hx h1 hrl hd hd2
    go_wp2_with fail
    refine (HPL.out _).mono ?_
    rintro e w3 ⟨rfl, hb3⟩
    have HB3 := hid (HB1.out.trans (hb3.mono HB1.out.size))
    clear hb3 HB1
    go_wp2_with fail
    refine (HC.out _).mono ?_
    rintro e w4 ⟨rfl, hb4⟩
    have HB4 := hid (HB3.out.trans (hb4.mono HB3.out.size))
    clear hb4 HB3
    go_wp2_with fail
    refine (HRB.out _).mono ?_
    rintro e w5 ⟨rfl, rfl⟩
    have HW1 := hid (show IntKind.u64.wrap ((q : Int) + 1) = ((q + 1 : Nat) : Int) by
      have h2 := HZ.out.2.1 hr0
      have h3 := HZ.out.2.2
      rw [IntKind.wrap_u64]; omega)
    cases rb with
    | true =>
      have HMM := hid (show signX m neg = signX (q + 1) neg by rw [HM.out]; rfl)
      have HS := hid (HFIN.out (q + 1) (by have h2 := HZ.out.2.1 hr0; have h3 := HZ.out.2.2; omega))
      obtain ⟨sx, hsx⟩ : ∃ sx, signX (q + 1) neg = sx := ⟨_, rfl⟩
      rw [hsx] at HS HMM
      clear hsx HM HFIN
      go_wp2_with fail
      rw [HW1.out]
      refine (HS.out _).mono ?_
      rintro e w6 ⟨he, rfl⟩
      cases sx with
      | ok v =>
        obtain rfl := he
        go_wp2_with fail
        go_ret
        exact ⟨by rw [HMM.out]; rfl, HB4.out⟩
      | error c =>
        obtain rfl := he
        refine ⟨rfl, ?_, HB4.out⟩
        rw [HMM.out]; rfl
    | false =>
      have HMM := hid (show signX m neg = signX q neg by rw [HM.out]; rfl)
      have HS := hid (HFIN.out q (by have h2 := HZ.out.1; have h3 := HZ.out.2.2; omega))
      obtain ⟨sx, hsx⟩ : ∃ sx, signX q neg = sx := ⟨_, rfl⟩
      rw [hsx] at HS HMM
      clear hsx HM HFIN
      go_wp2_with fail
      refine (HS.out _).mono ?_
      rintro e w6 ⟨he, rfl⟩
      cases sx with
      | ok v =>
        obtain rfl := he
        go_wp2_with fail
        go_ret
        exact ⟨by rw [HMM.out]; rfl, HB4.out⟩
      | error c =>
        obtain rfl := he
        refine ⟨rfl, ?_, HB4.out⟩
        rw [HMM.out]; rfl
  · have hr0I : ¬ (0 : Int) < (r : Int) := by omega
    rw [if_neg hr0] at HM
    have hq64 : q < 18446744073709551616 := by omega
    clear hql hqx hx hrl hd hd2
    have HMM := hid (show signX m neg = signX q neg by rw [HM.out])
    have HS := hid (HFIN.out q hq64)
    obtain ⟨sx, hsx⟩ : ∃ sx, signX q neg = sx := ⟨_, rfl⟩
    rw [hsx] at HS HMM
    clear hsx HM HFIN
    go_wp2_with fail
    refine (HS.out _).mono ?_
    rintro e w6 ⟨he, rfl⟩
    cases sx with
    | ok v =>
      obtain rfl := he
      go_wp2_with fail
      go_ret
      exact ⟨by rw [HMM.out]; rfl, HB1.out⟩
    | error c =>
      obtain rfl := he
      refine ⟨rfl, ?_, HB1.out⟩
      rw [HMM.out]; rfl
end Go.Proofs.YtolnhicngepnnaaGreat
