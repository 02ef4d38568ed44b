import Derived.Test.YtjjphiecjhijiaaDoorO3
namespace Go.Proofs.YtjjphiecjhijiaaDoor
open Go.RowKit Go.Maps

theorem sched_facts {p : PlantD} {l : List Int} (hok : p.sched l = true) : p.ok = true ∧ l.length = p.loads.length ∧ l.length ≤ 48 := by
  simp only [PlantD.sched, Bool.and_eq_true, beq_iff_eq] at hok
  have := (ok_Ok hok.1.1).day
  exact ⟨hok.1.1, hok.1.2, by omega⟩
theorem PObj.drewN {w : World} {b : Nat} {p : PlantD} (h : PObj w b p) (n : Nat) : PObj (w.drewN n) b p := h

set_option maxHeartbeats 400000 in
/-- plant.Heats -/
theorem heats_any (v u : Value) (p : PlantD) (l : List Int) (w : World) (hp : PlantV w v p) (hs : SlI w u l) :
    Calls Tryd.prog 31 #[v, u] w (SlIE (p.heatsR l) (errOf (p.sched l)) w) := by
  have HP := hid hp
  have HSS := hid hs
  obtain ⟨vl, vp, vm, rfl, hL, hP, hM⟩ := hp
  obtain ⟨ar, cr, rfl, hls, hsc⟩ := hs.open
  have HS := hid hsc
  clear hsc hL hP hM hs
  obtain ⟨i0, hi, hz0, hz1, hz2⟩ := info_parts info3
  go_enter Tryd.func31, Tryd.ntmps31
  go_upto_region 1 with fail
  obtain ⟨W0, e0, hz0', hb0, hc0, hf0⟩ := box_new w #[.int .i64 p.heat, .int .i64 p.low, .int .i64 p.high, vl, vp, vm] 25
  rw [e0]
  clear e0
  have hlt1 : w.heap.size < W0.heap.size := by omega
  cases hok : p.sched l
  · have HO := hid hok
    clear hok
    go_wp2_with fail
    refine (scheduled_no _ _ p l _ (HP.out.below hb0) (HSS.out.below hb0) HO.out).mono ?_
    rintro e w1 ⟨rfl, hb1⟩
    go_wp2_with fail
    go_ret2
    exact ⟨_, by rw [HO.out]; rfl, by rw [PlantD.heatsR, HO.out]; exact nil_SlI _, hb0.trans (hb1.mono (by omega))⟩
  · have HO := hid hok
    obtain ⟨hO, hll, hl48⟩ := sched_facts hok
    have HLL := hid hll
    have ho := ok_Ok hO
    have HN := hid (sched_num hok)
    clear hok hll hO
    go_wp2_with fail
    refine (scheduled_yes _ _ p l _ (HP.out.below hb0) (HSS.out.below hb0) HO.out).mono ?_
    rintro e w1 ⟨⟨b, rfl, hbb, hobj⟩, hb1⟩
    have HB := hid hobj
    have d0 : w1.cell? ⟨w.heap.size, 0, none⟩ = some (.int .i64 p.heat) := rdB hb1 hlt1 (hc0 0)
    have hbw1 : Below w.heap.size w w1 := hb0.trans (hb1.mono (by omega))
    have hsz1 := hb1.size
    clear hc0 hf0 hobj
    go_wp2_with fail
    go_loopw [8, 9, 24] (fun v h i wr => ∃ k : Nat, k ≤ l.length ∧ i = .int .i64 k ∧ h = .int .i64 (p.heatAt l k) ∧ wr.ownsRow w1.heap.size 3 1 v k ((p.heats l k).map (.int .i64)) ∧ Below w1.heap.size w1 wr) (fun _ _ i _ => l.length - (intOf i).toNat)
    case atStart => exact ⟨0, Nat.zero_le _, rfl, rfl, World.ownsRow_nil _ _ _ _, Below.refl _ _⟩
    case round =>
      obtain ⟨k, hk, rfl, rfl, hown, hb⟩ := hrel
      have hbwr : Below w.heap.size w wr := hbw1.trans (hb.mono (by omega))
      have hbd := heatAt_bd ho l k
      by_cases hlt : k < l.length
      · obtain ⟨ba, off, rfl, hbl, hc⟩ := HS.out k hlt
        have x0 := rdB hbwr hbl (hc k hlt)
        obtain ⟨hx, hx2⟩ := HN.out k hlt
        rw [hx] at x0
        have hhr : k < p.loads.length := by have := HLL.out; omega
        have HX2 := hid hx2
        clear hc HS hx hx2
        have HH := hid (show p.heatAt l (k + 1) = p.next k (p.heatAt l k) (num l k) from rfl)
        have hnb := Ok_next ho k (num l k) (p.heatAt l k) 100000000 (by omega) (by omega) (by omega)
        have HHS := hid (heats_succ p l k)
        have hHL := heats_length p l k
        generalize hq : p.heatAt l k = ht at *
        clear hq
        generalize hnx : p.next k ht (num l k) = nx at *
        have HNX := hid hnx
        clear hnx
        generalize num l k = n at *
        go_wp2_with fail
        refine (heat_any b p k n ht _ (HB.out.below hb) ho hhr HX2.out (by omega) (by omega)).mono ?_
        rw [HNX.out]
        rintro e w2 ⟨rfl, kd, rfl⟩
        have hb3 : Below w1.heap.size w1 (wr.drewN kd) := drewNB hb kd
        have hown2 : (wr.drewN kd).ownsRow w1.heap.size 3 1 u8 k ((p.heats l k).map (.int .i64)) := hown
        generalize wr.drewN kd = w2 at *
        have hszb := hb3.size
        clear hown
        go_wp2_with (at_builtin; refine wpList_append_own _ rfl _ _ 22 rfl w1.heap.size 3 i0 (.int .i64 0) 1 8 Tryd.underlying22 hi hz0 hz1 hz2 rfl (by decide) _ _ _ rfl (hown2.alloc _) ⟨w2.heap.size, 0, none⟩ 1 1 [.int .i64 nx] rfl rfl (cell_one_new _ _ _) (ones _ rfl) (by unfold maxLen; omega) (by omega) (by simp; omega) ?_; intro v' w3 hown3 hgrow3 _)
        have hb4 : Below w1.heap.size w1 w3 := (hb3.alloc hszb _).grown hgrow3 (by simp; omega) (fun j hj => (hown2.lt j hj).1)
        go_wp2_with fail
        go_roundw
        case rel => exact ⟨k + 1, by omega, by go_num, by rw [HH.out], by rw [HHS.out, List.map_append, HH.out]; exact hown3, hb4⟩
        case measure => simp [intOf]; omega
      · go_wp2_with fail
        go_ret2
        have hkl : k = l.length := by omega
        subst hkl
        refine ⟨_, by rw [HO.out]; rfl, ?_, hbwr⟩
        rw [PlantD.heatsR, if_pos HO.out]
        exact own_SlI hown (by rw [heats_length]; omega)

set_option maxHeartbeats 400000 in
/-- plant.Cost -/
theorem pcost_any (v u : Value) (p : PlantD) (l : List Int) (w : World) (hp : PlantV w v p) (hs : SlI w u l) (hT : TabW w) :
    Calls Tryd.prog 32 #[v, u] w fun e w' => e = .returned (.tuple #[.int .i64 (p.costR l), .int .i64 (errOf (p.sched l))]) ∧ Below w.heap.size w w' := by
  have HP := hid hp
  have HSS := hid hs
  have HT := hid hT
  have hTl := hT.lt
  obtain ⟨vl, vp, vm, rfl, hL, hP, hM⟩ := hp
  obtain ⟨ar, cr, rfl, hls, hsc⟩ := hs.open
  have HS := hid hsc
  clear hsc hL hP hM hs hT
  go_enter Tryd.func32, Tryd.ntmps32
  go_upto_region 1 with fail
  obtain ⟨W0, e0, hz0', hb0, hc0, hf0⟩ := box_new w #[.int .i64 p.heat, .int .i64 p.low, .int .i64 p.high, vl, vp, vm] 25
  rw [e0]
  clear e0
  have hlt1 : w.heap.size < W0.heap.size := by omega
  cases hok : p.sched l
  · have HO := hid hok
    clear hok
    go_wp2_with fail
    refine (scheduled_no _ _ p l _ (HP.out.below hb0) (HSS.out.below hb0) HO.out).mono ?_
    rintro e w1 ⟨rfl, hb1⟩
    go_wp2_with fail
    go_ret2
    exact ⟨by rw [HO.out, PlantD.costR, HO.out]; rfl, hb0.trans (hb1.mono (by omega))⟩
  · have HO := hid hok
    obtain ⟨hO, hll, hl48⟩ := sched_facts hok
    have HLL := hid hll
    have ho := ok_Ok hO
    have HN := hid (sched_num hok)
    have hpw := pow_small (m := p.m) ho.few
    clear hok hll hO
    go_wp2_with fail
    refine (scheduled_yes _ _ p l _ (HP.out.below hb0) (HSS.out.below hb0) HO.out).mono ?_
    rintro e w1 ⟨⟨b, rfl, hbb, hobj⟩, hb1⟩
    have HB := hid hobj
    have hbw1 : Below w.heap.size w w1 := hb0.trans (hb1.mono (by omega))
    have hsz1 := hb1.size
    clear hobj
    go_wp2_with fail
    go_loopw [8, 9, 22] (fun s h i wr => ∃ k : Nat, k ≤ l.length ∧ i = .int .i64 k ∧ s = .int .i64 (p.costAt l k) ∧ h = .int .i64 (before l k) ∧ before l k ≤ 16 ∧ Below w1.heap.size w1 wr) (fun _ _ i _ => l.length - (intOf i).toNat)
    case atStart => exact ⟨0, Nat.zero_le _, rfl, rfl, rfl, by simp [before], Below.refl _ _⟩
    case round =>
      obtain ⟨k, hk, rfl, rfl, rfl, hbf, hb⟩ := hrel
      have hbwr : Below w.heap.size w wr := hbw1.trans (hb.mono (by omega))
      have hbd := costAt_bd ho l k
      by_cases hlt : k < l.length
      · obtain ⟨ba, off, rfl, hbl, hc⟩ := HS.out k hlt
        have x0 := rdB hbwr hbl (hc k hlt)
        obtain ⟨hx, hx2⟩ := HN.out k hlt
        rw [hx] at x0
        have hhr : k < p.loads.length := by have := HLL.out; omega
        have HX2 := hid hx2
        have hn16 : num l k ≤ 16 := by omega
        clear hc HS hx hx2
        have HH := hid (show p.costAt l (k + 1) = p.costAt l k + p.hcost k (before l k) (num l k) from rfl)
        have HBF := hid (show before l (k + 1) = num l k from rfl)
        have hnb := Ok_hcost ho k (before l k) (num l k)
        generalize hq : p.costAt l k = ct at *
        clear hq
        generalize hnx : p.hcost k (before l k) (num l k) = nx at *
        have HNX := hid hnx
        clear hnx
        generalize before l k = bf at *
        generalize num l k = n at *
        go_wp2_with fail
        refine (cost_any b p k bf n _ (HB.out.below hb) (HT.out.below hbwr (by omega)) ho hhr HX2.out hbf).mono ?_
        rw [HNX.out]
        rintro e w2 ⟨rfl, kd, rfl⟩
        go_wp2_with fail
        go_roundw
        case rel => exact ⟨k + 1, by omega, by go_num, by rw [HH.out], by rw [HBF.out], by rw [HBF.out]; exact hn16, drewNB hb kd⟩
        case measure => simp [intOf]; omega
      · go_wp2_with fail
        go_ret2
        have hkl : k = l.length := by omega
        subst hkl
        exact ⟨by rw [HO.out, PlantD.costR, if_pos HO.out]; rfl, hbwr⟩
end Go.Proofs.YtjjphiecjhijiaaDoor
