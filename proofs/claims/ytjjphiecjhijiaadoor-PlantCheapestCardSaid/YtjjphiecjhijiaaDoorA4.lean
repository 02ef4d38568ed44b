import Derived.Test.YtjjphiecjhijiaaDoorM1
namespace Go.Proofs.YtjjphiecjhijiaaDoor
open Go.RowKit

/-- besomref12.Runs -/
theorem runs_any (n i : Nat) (w : World) (hn : n ≤ 1000000) (hi : i ≤ 1000000) :
    Calls Tryd.prog 73 #[.int .i64 n, .int .i64 i] w fun e w' => e = .returned (.bool (n.testBit i)) ∧ w = w' := by
  go_enter Tryd.func73, Tryd.ntmps73
  go_wp2
  go_loop [0, 5] (fun x j => ∃ k : Nat, k ≤ i ∧ j = .int .i64 k ∧ x = .int .i64 ((n / 2 ^ k : Nat) : Int)) (fun _ j => i - (intOf j).toNat)
  case atStart => exact ⟨0, Nat.zero_le _, rfl, by simp⟩
  case round =>
    obtain ⟨k, hk, rfl, rfl⟩ := hrel
    have hd : n / 2 ^ k ≤ n := Nat.div_le_self _ _
    have HD := hid (div_pow n k)
    have HB := hid (bit_mod n k)
    generalize n / 2 ^ k = q at *
    by_cases hlt : k < i
    · go_wp2
      go_round
      case rel => exact ⟨k + 1, by omega, by go_num, by rw [← HD.out]; simp⟩
      case measure => simp [intOf]; omega
    · obtain rfl : k = i := by omega
      go_wp2
      go_ret
      exact ⟨ret_bool (by rw [← HB.out, Bool.eq_iff_iff]; simp; omega), rfl⟩

/-- besomref12.all -/
theorem all_any (v : Value) (p : PlantD) (w : World) (hp : PlantV w v p) (hm : p.machines.length ≤ 4) :
    Calls Tryd.prog 40 #[v] w fun e w' => e = .returned (.int .i64 ((2 ^ p.m : Nat) : Int)) ∧ Below w.heap.size w w' := by
  obtain ⟨vl, vp, vm, rfl, hL, hP, hM⟩ := hp
  obtain ⟨am, cm, rfl, hml, _⟩ := hM.open
  clear hL hP hM
  go_enter Tryd.func40, Tryd.ntmps40
  go_upto_region 1 with fail
  obtain ⟨W0, e0, hz0, hb0, hc0, hf0⟩ := box_new w #[.int .i64 p.heat, .int .i64 p.low, .int .i64 p.high, vl, vp, .slice am p.machines.length cm] 25
  rw [e0]
  clear e0
  go_wp2_with fail
  go_loop [3, 4] (fun x j => ∃ k : Nat, k ≤ p.machines.length ∧ j = .int .i64 k ∧ x = .int .i64 ((2 ^ k : Nat) : Int)) (fun _ j => p.machines.length - (intOf j).toNat)
  case atStart => exact ⟨0, Nat.zero_le _, rfl, rfl⟩
  case round =>
    obtain ⟨k, hk, rfl, rfl⟩ := hrel
    have hq := pow_small (m := k) (by omega)
    have HS := hid (Nat.pow_succ (n := 2) (m := k))
    generalize hqe : 2 ^ k = q at *
    by_cases hlt : k < p.machines.length
    · clear hqe
      go_wp2
      go_round
      case rel => exact ⟨k + 1, by omega, by go_num, by rw [HS.out]; congr 1; omega⟩
      case measure => simp [intOf]; omega
    · have HK := hid (show k = p.m by unfold PlantD.m; omega)
      have HQ := hid hqe
      clear hqe
      go_wp2
      go_ret
      exact ⟨ret_int (by rw [← HQ.out, HK.out]; simp), hb0⟩

/-- besomref12.behind -/
theorem behind_any (v : Value) (p : PlantD) (hour n : Nat) (heat : Int) (w : World) (hp : PlantV w v p) (ho : p.Ok) (hh : hour < p.loads.length) (hn : n ≤ 16) (h1 : -1000000 ≤ heat) (h2 : heat ≤ 100000000) :
    Calls Tryd.prog 41 #[v, .int .i64 hour, .int .i64 heat, .int .i64 n] w fun e w' => e = .returned (.int .i64 (p.next hour heat n)) ∧ Below w.heap.size w w' := by
  obtain ⟨vl, vp, vm, rfl, hL, hP, hM⟩ := hp
  obtain ⟨am, cm, rfl, hml, hmc⟩ := hM.open
  obtain ⟨al, cl, rfl, hll, hlc⟩ := hL.open
  have HM := hid hmc
  obtain ⟨bl, ol, rfl, hbl, hlc⟩ := hlc hour hh
  have hx := hlc hour hh
  have e : p.loads[hour] = p.load hour := by simp [PlantD.load, hh]
  rw [e] at hx
  clear hL hP hM hmc hlc e
  have hld := ho.load hour
  have hfew := ho.few
  go_enter Tryd.func41, Tryd.ntmps41
  go_upto_region 1 with fail
  obtain ⟨W0, e0, hz0, hb0, hc0, hf0⟩ := box_new w #[.int .i64 p.heat, .int .i64 p.low, .int .i64 p.high, .slice (some ⟨bl, ol, none⟩) p.loads.length cl, vp, .slice am p.machines.length cm] 25
  rw [e0]
  clear e0
  have hx0 := rdB hb0 hbl hx
  go_wp2_with fail
  go_loop [2, 9] (fun x j => ∃ k : Nat, k ≤ p.machines.length ∧ j = .int .i64 k ∧ x = .int .i64 (heat + p.load hour - sumTo (p.coldF n) k)) (fun _ j => p.machines.length - (intOf j).toNat)
  case atStart => exact ⟨0, Nat.zero_le _, rfl, by simp [sumTo]⟩
  case round =>
    obtain ⟨k, hk, rfl, rfl⟩ := hrel
    have hs := sumTo_bd (p.coldF n) 1000000 p.m (fun i _ => Ok_coldF ho n i) k hk
    have HS := hid (show sumTo (p.coldF n) (k + 1) = sumTo (p.coldF n) k + p.coldF n k from rfl)
    have HC := hid (show p.coldF n k = if n.testBit k then (p.mach k).cold else 0 from rfl)
    have hcb := ho.cold k
    by_cases hlt : k < p.machines.length
    · obtain ⟨b, off, rfl, hbm, hc⟩ := HM.out k hlt
      obtain ⟨c0, _, _⟩ := hc k hlt
      rw [p.mach_get k hlt] at c0
      have c0' := rdB hb0 hbm c0
      clear hc HM c0
      generalize (p.mach k).cold = cold at *
      generalize sumTo (p.coldF n) k = s at *
      go_wp2_with fail
      refine (runs_any n k _ (by omega) (by omega)).mono ?_
      rintro e w' ⟨rfl, rfl⟩
      cases hb : n.testBit k
      · go_wp2_with fail
        go_round
        case rel => exact ⟨k + 1, by omega, by go_num, by rw [HS.out, HC.out, hb]; simp⟩
        case measure => simp [intOf]; omega
      · go_wp2_with fail
        go_round
        case rel => exact ⟨k + 1, by omega, by go_num, by rw [HS.out, HC.out, hb]; simp; omega⟩
        case measure => simp [intOf]; omega
    · have HK := hid (show k = p.m by unfold PlantD.m; omega)
      go_wp2_with fail
      all_goals go_ret
      all_goals refine ⟨ret_int ?_, hb0⟩
      all_goals (have hk := HK.out; subst hk; unfold PlantD.next PlantD.cool; omega)

/-- besomref12.costs -/
theorem costs_any (v : Value) (p : PlantD) (hour b n : Nat) (w : World) (hp : PlantV w v p) (ho : p.Ok) (hh : hour < p.loads.length) (hn : n ≤ 16) (hb16 : b ≤ 16) :
    Calls Tryd.prog 42 #[v, .int .i64 hour, .int .i64 b, .int .i64 n] w fun e w' => e = .returned (.int .i64 (p.hcost hour b n)) ∧ Below w.heap.size w w' := by
  rw [hcost_eq]
  obtain ⟨vl, vp, vm, rfl, hL, hP, hM⟩ := hp
  obtain ⟨am, cm, rfl, hml, hmc⟩ := hM.open
  obtain ⟨ap, cp, rfl, hpl, hpc⟩ := hP.open
  have HM := hid hmc
  have hh' : hour < p.prices.length := by have := ho.len; omega
  obtain ⟨bl, ol, rfl, hbl, hlc⟩ := hpc hour hh'
  have hx := hlc hour hh'
  have e : p.prices[hour] = p.price hour := by simp [PlantD.price, hh']
  rw [e] at hx
  clear hL hP hM hmc hlc hpc e
  have hpr := ho.price hour
  have hfew := ho.few
  go_enter Tryd.func42, Tryd.ntmps42
  go_upto_region 1 with fail
  obtain ⟨W0, e0, hz0, hb0, hc0, hf0⟩ := box_new w #[.int .i64 p.heat, .int .i64 p.low, .int .i64 p.high, vl, .slice (some ⟨bl, ol, none⟩) p.prices.length cp, .slice am p.machines.length cm] 25
  rw [e0]
  clear e0
  have hx0 := rdB hb0 hbl hx
  go_wp2_with fail
  go_loopw [9, 10] (fun x j wr => ∃ k : Nat, k ≤ p.machines.length ∧ j = .int .i64 k ∧ x = .int .i64 (sumTo (p.hcostF hour b n) k) ∧ Below W0.heap.size W0 wr) (fun _ j _ => p.machines.length - (intOf j).toNat)
  case atStart => exact ⟨0, Nat.zero_le _, rfl, by simp [sumTo], Below.refl _ _⟩
  case round =>
    obtain ⟨k, hk, rfl, rfl, hbr⟩ := hrel
    have hs := sumTo_bd (p.hcostF hour b n) 1000001000000 p.m (fun i _ => Ok_hcostF ho hour b n i) k hk
    have HS := hid (show sumTo (p.hcostF hour b n) (k + 1) = sumTo (p.hcostF hour b n) k + p.hcostF hour b n k from rfl)
    have HC := hid (show p.hcostF hour b n k = if n.testBit k then p.price hour * (p.mach k).power + (if b.testBit k then 0 else (p.mach k).start) else 0 from rfl)
    have hcb := ho.power k
    have hsb := ho.start k
    have hmb := Ok_mul ho hour (p.mach k).power 1000000 hcb.1 hcb.2
    have hlt0 : w.heap.size < W0.heap.size := by omega
    have c4 : wr.cell? ⟨w.heap.size, 4, none⟩ = some (.slice (some ⟨bl, ol, none⟩) p.prices.length cp) := rdB hbr hlt0 (hc0 4)
    have c5 : wr.cell? ⟨w.heap.size, 5, none⟩ = some (.slice am p.machines.length cm) := rdB hbr hlt0 (hc0 5)
    have hx1 := rdB hbr (by omega) hx0
    clear hc0 hf0
    by_cases hlt : k < p.machines.length
    · obtain ⟨bm, off, rfl, hbm, hc⟩ := HM.out k hlt
      obtain ⟨_, c1, c2⟩ := hc k hlt
      rw [p.mach_get k hlt] at c1 c2
      have c1' := rdB hbr (by omega) (rdB hb0 hbm c1)
      have c2' := rdB hbr (by omega) (rdB hb0 hbm c2)
      clear hc HM c1 c2
      generalize (p.mach k).power = power at *
      generalize (p.mach k).start = start at *
      generalize sumTo (p.hcostF hour b n) k = s at *
      go_wp2_with fail
      refine (runs_any n k _ (by omega) (by omega)).mono ?_
      rintro e w' ⟨rfl, rfl⟩
      cases hbit : n.testBit k
      · go_wp2_with fail
        go_roundw
        case rel => exact ⟨k + 1, by omega, by go_num, by rw [HS.out, HC.out, hbit]; simp, hbr⟩
        case measure => simp [intOf]; omega
      · go_wp2_with fail
        go_quiet (fail)
        go_wp2_with fail
        refine (runs_any b k _ (by omega) (by omega)).mono ?_
        rintro e w' ⟨rfl, rfl⟩
        cases hbit2 : b.testBit k
        · go_wp2_with fail
          go_roundw
          case rel => exact ⟨k + 1, by omega, by go_num, by rw [HS.out, HC.out, hbit, hbit2]; simp; omega, drewNB hbr _⟩
          case measure => simp [intOf]; omega
        · go_wp2_with fail
          go_roundw
          case rel => exact ⟨k + 1, by omega, by go_num, by rw [HS.out, HC.out, hbit, hbit2]; simp, drewNB hbr _⟩
          case measure => simp [intOf]; omega
    · have HK := hid (show k = p.m by unfold PlantD.m; omega)
      go_wp2_with fail
      go_ret
      refine ⟨ret_int ?_, hb0.trans (hbr.mono (by omega))⟩
      rw [HK.out]
end Go.Proofs.YtjjphiecjhijiaaDoor
