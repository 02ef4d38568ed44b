import Derived.Test.YtjjphiecjhijiaaDoorO1
namespace Go.Proofs.YtjjphiecjhijiaaDoor
open Go.RowKit Go.Maps

theorem coldL_get (p : PlantD) (k j : Nat) (h : j < k) : (p.coldL k)[j]? = some (p.cool j) := by simp [PlantD.coldL, h]
theorem powerL_get (p : PlantD) (k j : Nat) (h : j < k) : (p.powerL k)[j]? = some (p.power j) := by simp [PlantD.powerL, h]
theorem SlI.at {w : World} {v : Value} {l : List Int} (h : SlI w v l) (j : Nat) (x : Int) (hx : l[j]? = some x) :
    ∃ b off cap, v = .slice (some ⟨b, off, none⟩) l.length cap ∧ j < l.length ∧ l.length ≤ 140737488351232 ∧ b < w.heap.size ∧ w.cell? ⟨b, off + j, none⟩ = some (.int .i64 x) := by
  obtain ⟨hj, hx'⟩ := List.getElem?_eq_some_iff.1 hx
  obtain ⟨a, cap, rfl, hn, hc⟩ := h.open
  obtain ⟨b, off, rfl, hb, hc⟩ := hc j hj
  exact ⟨b, off, cap, rfl, hj, hn, hb, by rw [hc j hj, hx']⟩

set_option maxHeartbeats 400000 in
/-- plant.heat -/
theorem heat_any (b : Nat) (p : PlantD) (hour n : Nat) (heat : Int) (w : World) (hp : PObj w b p) (ho : p.Ok) (hh : hour < p.loads.length) (hn : n < 2 ^ p.m) (h1 : -1000000 ≤ heat) (h2 : heat ≤ 100000000) :
    Calls Tryd.prog 38 #[.pointer (some ⟨b, 0, none⟩), .int .i64 hour, .int .i64 heat, .int .i64 n] w fun e w' => e = .returned (.int .i64 (p.next hour heat n)) ∧ ∃ k, w' = w.drewN k := by
  obtain ⟨vl, vp, vm, vc, vw, e0, e1, e2, e3, e4, e5, e6, e7, hl, hpp, hm, hc, hw⟩ := hp
  obtain ⟨b1, o1, c1, rfl, j1, n1, l1, x1⟩ := hl.at hour (p.load hour) (by simp [PlantD.load, hh])
  obtain ⟨b2, o2, c2, rfl, j2, n2, l2, x2⟩ := hc.at n (p.cool n) (coldL_get p _ n hn)
  have hld := ho.load hour
  have hcl := Ok_cool ho n
  have hpw := pow_small (m := p.m) ho.few
  have HR := hid (show p.next hour heat n = max p.low (heat + p.load hour - p.cool n) from rfl)
  generalize p.next hour heat n = r at *
  generalize p.load hour = ld at *
  generalize p.cool n = cl at *
  rw [coldL_length] at *
  generalize 2 ^ p.m = q at *
  clear hl hpp hm hc hw e0 e2 e4 e5 e7
  go_enter Tryd.func38, Tryd.ntmps38
  go_wp2_with fail
  go_quiet (fail)
  go_wp2_with fail
  all_goals go_ret
  all_goals refine ⟨ret_int ?_, _, rfl⟩
  all_goals (have hr := HR.out; omega)

theorem bits_andNot_i64_nat (a b : Nat) (ha : a < 9223372036854775808) (hb : b < 9223372036854775808) :
    bits .andNot .i64 (a : Int) (b : Int) = ((a &&& (18446744073709551615 - b) : Nat) : Int) := by
  have hx : a &&& (18446744073709551615 - b) ≤ a := Nat.and_le_left
  show IntKind.i64.wrap ((BitVec.ofInt 64 (a : Int) &&& ~~~BitVec.ofInt 64 (b : Int)).toNat : Int) = _
  rw [BitVec.toNat_and, BitVec.toNat_not, ofInt64 a (by omega), ofInt64 b (by omega)]
  have e : (2 ^ 64 - 1 - b) = 18446744073709551615 - b := by omega
  rw [e]
  exact IntWalk.i64_in _ (by omega)
/-- The machines that run, and did not. -/
def newly (n b : Nat) : Nat := n &&& (18446744073709551615 - b)
theorem newly_bit (n b i : Nat) (hn : n < 9223372036854775808) (hb : b < 9223372036854775808) : (newly n b).testBit i = (n.testBit i && !b.testBit i) := by
  have e : 18446744073709551615 - b = 2 ^ 64 - (b + 1) := by omega
  have hl : b < 2 ^ 64 := by omega
  rw [newly, Nat.testBit_and, e, Nat.testBit_two_pow_sub_succ hl]
  by_cases hj : i < 64
  · simp [hj]
  · have h2 : 2 ^ 64 ≤ 2 ^ i := Nat.pow_le_pow_right (by decide) (by omega)
    have : n.testBit i = false := Nat.testBit_lt_two_pow (by omega)
    simp [this]
/-- What the starts of a set of machines cost. -/
def PlantD.setF (p : PlantD) (s i : Nat) : Int := if s.testBit i then (p.mach i).start else 0
def PlantD.setC (p : PlantD) (s : Nat) : Int := sumTo (p.setF s) p.m
theorem Ok_setF {p : PlantD} (h : p.Ok) (s i : Nat) : 0 ≤ p.setF s i ∧ p.setF s i ≤ 1000000 := by
  have := h.start i
  unfold PlantD.setF; split <;> omega
theorem Ok_setC {p : PlantD} (h : p.Ok) (s : Nat) : 0 ≤ p.setC s ∧ p.setC s ≤ 4000000 := by
  have := sumTo_bd (p.setF s) 1000000 p.m (fun i _ => Ok_setF h s i) p.m (Nat.le_refl _)
  have h4 := h.few
  unfold PlantD.setC PlantD.m at *; omega
theorem setC_newly (p : PlantD) (b n : Nat) (hn : n < 9223372036854775808) (hb : b < 9223372036854775808) : p.setC (newly n b) = p.starts b n := by
  unfold PlantD.setC PlantD.starts
  exact sumTo_congr _ _ p.m (fun i _ => by rw [PlantD.setF, newly_bit n b i hn hb, PlantD.startF]) p.m (Nat.le_refl _)
theorem sumTo_change (f g : Nat → Int) (a : Nat) (n : Nat) (h : ∀ i, i ≠ a → f i = g i) (ha : a < n) : sumTo f n - f a = sumTo g n - g a := by
  induction n with
  | zero => omega
  | succ n ih =>
    simp only [sumTo]
    by_cases e : a = n
    · subst e
      rw [sumTo_congr f g a (fun i hi => h i (by omega)) a (Nat.le_refl _)]; omega
    · have := ih (by omega)
      rw [h n (fun h => e h.symm)]; omega
theorem bit_lt {s m i : Nat} (hs : s < 2 ^ m) (h : s.testBit i = true) : i < m := by
  apply Nat.lt_of_not_le
  intro hle
  have h2 : 2 ^ m ≤ 2 ^ i := Nat.pow_le_pow_right (by decide) hle
  rw [Nat.testBit_lt_two_pow (by omega)] at h
  simp at h
theorem setC_clr (p : PlantD) (s : Nat) (h0 : s ≠ 0) (hs : s < 2 ^ p.m) (hs64 : s < 18446744073709551616) : low s < p.m ∧ p.setC s = p.setC (clr s (low s)) + (p.mach (low s)).start := by
  have h1 := low_lt s h0 hs64
  have h2 := (low_spec s h0 hs64).1
  have hm := bit_lt hs h2
  refine ⟨hm, ?_⟩
  have hc := sumTo_change (p.setF s) (p.setF (clr s (low s))) (low s) p.m (fun i hi => by
    rw [PlantD.setF, PlantD.setF, clr_bit s _ i h1 hs64]; simp [hi]) hm
  have e1 : p.setF s (low s) = (p.mach (low s)).start := by rw [PlantD.setF, h2]; rfl
  have e2 : p.setF (clr s (low s)) (low s) = 0 := by rw [PlantD.setF, clr_bit s _ _ h1 hs64]; simp
  unfold PlantD.setC
  omega

set_option maxHeartbeats 400000 in
/-- plant.cost -/
theorem cost_any (b : Nat) (p : PlantD) (hour bf n : Nat) (w : World) (hp : PObj w b p) (hT : TabW w) (ho : p.Ok) (hh : hour < p.loads.length) (hn : n < 2 ^ p.m) (hb16 : bf ≤ 16) :
    Calls Tryd.prog 65 #[.pointer (some ⟨b, 0, none⟩), .int .i64 hour, .int .i64 bf, .int .i64 n] w fun e w' => e = .returned (.int .i64 (p.hcost hour bf n)) ∧ ∃ k, w' = w.drewN k := by
  obtain ⟨vl, vp, vm, vc, vw, e0, e1, e2, e3, e4, e5, e6, e7, hl, hpp, hm, hc, hw⟩ := hp
  obtain ⟨b1, o1, c1, rfl, j1, n1, l1, x1⟩ := hpp.at hour (p.price hour) (by simp [PlantD.price, (show hour < p.prices.length by have := ho.len; omega)])
  obtain ⟨b2, o2, c2, rfl, j2, n2, l2, x2⟩ := hw.at n (p.power n) (powerL_get p _ n hn)
  obtain ⟨am, cm, rfl, hml, hmc⟩ := hm.open
  have HM := hid hmc
  have HT := hid hT
  have hpw := pow_small (m := p.m) ho.few
  have hpb := Ok_power ho n
  have hmb := Ok_mul ho hour (p.power n) 4000000 hpb.1 hpb.2
  have hcb := Ok_setC ho (newly n bf)
  have HR := hid (show p.hcost hour bf n = p.price hour * p.power n + p.setC (newly n bf) by rw [setC_newly p bf n (by omega) (by omega)]; rfl)
  have hN : newly n bf ≤ n := Nat.and_le_left
  have hbits := bits_andNot_i64_nat n bf (by omega) (by omega)
  rw [show (n &&& (18446744073709551615 - bf)) = newly n bf from rfl] at hbits
  rw [powerL_length] at *
  generalize p.hcost hour bf n = r at *
  generalize p.price hour = pr at *
  generalize p.power n = pw at *
  have HQ := hid (show newly n bf < 2 ^ p.m by omega)
  generalize newly n bf = s0 at *
  generalize hqe : 2 ^ p.m = q at *
  have HQE := hid hqe
  clear hqe
  clear hl hpp hm hc hw hmc hT e0 e1 e2 e3 e6
  go_enter Tryd.func65, Tryd.ntmps65
  go_wp2_with fail
  go_quiet (fail)
  go_wp2_with fail
  go_loopw [9, 10] (fun sum s wr => ∃ x : Nat, x ≤ s0 ∧ s = .int .u64 x ∧ sum = .int .i64 (pr * pw + p.setC s0 - p.setC x) ∧ ∃ k, wr = w.drewN k) (fun _ s _ => (intOf s).toNat)
  case atStart => exact ⟨s0, Nat.le_refl _, rfl, by congr 1; omega, _, rfl⟩
  case round =>
    obtain ⟨x, hx, rfl, rfl, kd, rfl⟩ := hrel
    have hsc := Ok_setC ho x
    by_cases h0 : x = 0
    · subst h0
      have h0s : p.setC 0 = 0 := by
        have : ∀ k, sumTo (p.setF 0) k = 0 := by
          intro k
          induction k with
          | zero => rfl
          | succ k ih => simp [sumTo, ih, PlantD.setF]
        exact this _
      have H0 := hid h0s
      clear h0s
      go_wp2_with fail
      go_ret
      exact ⟨ret_int (by have h1 := HR.out; have h2 := H0.out; show pr * pw + p.setC s0 - p.setC 0 = r; omega), _, rfl⟩
    · have hx64 : x < 18446744073709551616 := by omega
      have hne : ((x : Int) != 0) = true := by simp; omega
      obtain ⟨hlm, hstep⟩ := setC_clr p x h0 (by have := HQ.out; have := HQE.out; omega) hx64
      have hll := low_lt x h0 hx64
      have hcl := low_clr_lt x h0 hx64
      have HST := hid hstep
      have hstb := ho.start (low x)
      have hf := fun n => first_m x h0 hx64 (w.drewN n) HT.out
      have hwo := fun (w' : World) => without_m x (low x) w' hx64 hll
      have HF := hid hf
      have HWO := hid hwo
      obtain ⟨bm, off, rfl, hbm, hc⟩ := HM.out (low x) hlm
      have x3 := (hc (low x) hlm).2.2
      rw [p.mach_get _ hlm] at x3
      have hlm' : low x < p.machines.length := hlm
      have hcC := Ok_setC ho (clr x (low x))
      clear hstep hf hwo hc HM hlm
      generalize (p.mach (low x)).start = st at *
      generalize clr x (low x) = y at *
      generalize low x = lo at *
      generalize p.setC x = sx at *
      generalize hsy : p.setC y = sy at *
      have HSY := hid hsy
      clear hsy
      generalize p.setC s0 = s0c at *
      have hsum : IntKind.i64.wrap (pr * pw + s0c - sx + st) = pr * pw + s0c - sx + st := IntWalk.i64_in _ (by omega)
      obtain ⟨wk, hwk⟩ : ∃ wk, wk = w.drewN kd := ⟨_, rfl⟩
      have x3k : wk.cell? ⟨bm, off + lo * 3 + 2, none⟩ = some (.int .i64 st) := by rw [hwk]; exact x3
      have e5k : wk.cell? ⟨b, 5, none⟩ = some (.slice (some ⟨bm, off, none⟩) p.machines.length cm) := by rw [hwk]; exact e5
      have HFk := hid (fun n => by rw [hwk, World.drewN_drewN]; exact HF.out (kd + n) : ∀ n, Calls Tryd.prog 83 #[.int .u64 x] (wk.drewN n) fun e w' => e = .returned (.int .i64 lo) ∧ wk.drewN n = w')
      rw [← hwk]
      have HWK := hid hwk
      clear hwk HF
      go_wp2_with fail
      go_quiet ((go_at_call 83; exact Calls.quiet_of_same ((HFk.out _).mono fun _ _ ⟨h1, h2⟩ => ⟨h1, h2.symm⟩)))
      clear hsum
      go_wp2_with fail
      refine (HFk.out _).mono ?_
      rintro e w' ⟨rfl, rfl⟩
      go_wp2_with fail
      refine (HWO.out _).mono ?_
      rintro e w' ⟨rfl, rfl⟩
      go_wp2_with fail
      go_roundw
      case rel => exact ⟨y, by omega, rfl, by congr 1; have h1 := HST.out; have h2 := HSY.out; omega, _, by rw [HWK.out, World.drewN_drewN]⟩
      case measure => simp [intOf]; omega
end Go.Proofs.YtjjphiecjhijiaaDoor
