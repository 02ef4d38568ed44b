import Derived.Test.YtjjphiecjhijiaaDoorV1
namespace Go.Proofs.YtjjphiecjhijiaaDoor
open Go.RowKit Go.Maps

theorem Below.trans2 {w w1 w2 : World} {B : Nat} (h : Below B w w1) (hb : B ≤ w.heap.size) (h2 : Below w1.heap.size w1 w2) : Below B w w2 := h.trans (h2.mono (Nat.le_trans hb h.size))

set_option maxRecDepth 100000 in
set_option maxHeartbeats 2000000 in
/-- besomlaw12.PlantHeats returns true. -/
theorem plantHeats_any (v u : Value) (p : PlantD) (l : List Int) (w : World) (hp : PlantV w v p) (hs : SlI w u l) (hT : TabW w) : Calls Tryd.prog 9 #[v, u] w (True1 w) := by
  have HP := hid hp
  have HS := hid hs
  have HT := hid hT
  obtain ⟨vl, vp, vm, rfl, hL, hP, hM⟩ := hp
  obtain ⟨al, cl, rfl, hll, _⟩ := hL.open
  obtain ⟨ap, cp, rfl, hpl, _⟩ := hP.open
  obtain ⟨am, cm, rfl, hml, _⟩ := hM.open
  obtain ⟨a9, cq, rfl, hsl, _⟩ := hs.open
  clear hL hP hM hT hs
  go_enter Tryd.func9, Tryd.ntmps9
  go_upto_region 1 with fail
  obtain ⟨W0, e0, hb0, hbox⟩ := box_plant w p.heat p.low p.high (.slice al p.loads.length cl) (.slice ap p.prices.length cp) (.slice am p.machines.length cm)
  rw [e0]
  clear e0
  obtain ⟨c0, c1, c2, c3, c4, c5⟩ := hbox
  have HBX := hid (show BoxP W0 w.heap.size p.heat p.low p.high (.slice al p.loads.length cl) (.slice ap p.prices.length cp) (.slice am p.machines.length cm) from ⟨c0, c1, c2, c3, c4, c5⟩)
  have HB0 := hid hb0
  clear hb0
  generalize hb1 : decide ((p.loads.length : Int) > 60) = b1 at *
  generalize hb2 : decide ((p.prices.length : Int) > 60) = b2 at *
  generalize hb3 : decide ((p.machines.length : Int) > 6) = b3 at *
  generalize hb4 : decide ((l.length : Int) > 60) = b4 at *
  go_cut [33] (fun t wx => t = .bool (b1 || b2 || b3 || b4) ∧ wx = W0)
  case first =>
    cases b1 <;> cases b2 <;> cases b3 <;> cases b4
    all_goals
      go_wp2_with fail
      go_meet
      exact ⟨rfl, rfl⟩
  case rest =>
    obtain ⟨rfl, rfl⟩ := hcut
    clear hb1 hb2 hb3 hb4 hll hpl hml hsl
    generalize (b1 || b2 || b3 || b4) = g
    cases g with
    | true =>
      go_wp2_with fail
      refine (awake_any _ (HT.out.below' HB0.out)).mono ?_
      rintro e W2 ⟨rfl, hb2⟩
      have HB2 := hid (HB0.out.trans (hb2.mono HB0.out.size))
      clear hb2
      go_wp2_with fail
      go_ret
      exact ⟨rfl, HB2.out⟩
    | false =>
      go_wp2_with fail
      refine (heats_any _ _ p l _ (HP.out.below HB0.out) (HS.out.below HB0.out)).mono ?_
      rintro e W1 ⟨v1, rfl, hs1, hb1⟩
      have HS1 := hid hs1
      have HB1 := hid (HB0.out.trans (hb1.mono HB0.out.size))
      have HBX1 := hid (HBX.out.below hb1)
      clear hs1 hb1 c0 c1 c2 c3 c4 c5
      obtain ⟨c0, c1, c2, c3, c4, c5⟩ := HBX1.out
      go_wp2_with fail
      refine (refHeats_any _ _ p l W1 (HP.out.below HB1.out) (HS.out.below HB1.out)).mono ?_
      rintro e W2 ⟨v2, rfl, hs2, hb2⟩
      have HS2 := hid hs2
      have HS1 := hid (HS1.out.below hb2)
      have HB2 := hid (HB1.out.trans (hb2.mono HB1.out.size))
      have HBX2 := hid (HBX1.out.below hb2)
      clear hs2 hb2 c0 c1 c2 c3 c4 c5
      obtain ⟨c0, c1, c2, c3, c4, c5⟩ := HBX2.out
      go_wp2_with fail
      refine (pcost_any _ _ p l W2 (HP.out.below HB2.out) (HS.out.below HB2.out) (HT.out.below' HB2.out)).mono ?_
      rintro e W3 ⟨rfl, hb3⟩
      have HS2 := hid (HS2.out.below hb3)
      have HS1 := hid (HS1.out.below hb3)
      have HB3 := hid (HB2.out.trans (hb3.mono HB2.out.size))
      have HBX3 := hid (HBX2.out.below hb3)
      clear hb3 c0 c1 c2 c3 c4 c5
      obtain ⟨c0, c1, c2, c3, c4, c5⟩ := HBX3.out
      go_wp2_with fail
      refine (refCost_any _ _ p l W3 (HP.out.below HB3.out) (HS.out.below HB3.out)).mono ?_
      rintro e W4 ⟨rfl, hb4⟩
      have HS2 := hid (HS2.out.below hb4)
      have HS1 := hid (HS1.out.below hb4)
      have HB4 := hid (HB3.out.trans (hb4.mono HB3.out.size))
      have HBX4 := hid (HBX3.out.below hb4)
      have HP4 := hid (HP.out.below HB4.out)
      have HT4 := hid (HT.out.below' HB4.out)
      clear hb4 c0 c1 c2 c3 c4 c5
      obtain ⟨c0, c1, c2, c3, c4, c5⟩ := HBX4.out
      have hoo : (p.ok == p.ok) = true := by simp
      have hcc : (p.costR l == p.costR l) = true := by simp
      have hee : (errOf (p.sched l) == errOf (p.sched l)) = true := by simp
      have HRF := hid (same_refl (p.heatsR l))
      generalize p.costR l = C at *
      generalize errOf (p.sched l) = E at *
      generalize p.heatsR l = R at *
      go_wp2_with fail
      go_upto_region 7 with fail
      have HOK := hid (Eq.refl p.ok)
      generalize hok : p.ok = ok at HOK hoo
      replace HOK := hid hok
      clear hok
      go_cut [4] (fun t wx => t = .bool true ∧ Below W4.heap.size W4 wx)
      case first =>
        go_region_held3 (fun w' => w'.cell? ⟨w.heap.size, 0, none⟩ = some (.int .i64 p.heat) ∧ w'.cell? ⟨w.heap.size, 1, none⟩ = some (.int .i64 p.low) ∧ w'.cell? ⟨w.heap.size, 2, none⟩ = some (.int .i64 p.high) ∧ w'.cell? ⟨w.heap.size, 3, none⟩ = some (.slice al p.loads.length cl) ∧ w'.cell? ⟨w.heap.size, 4, none⟩ = some (.slice ap p.prices.length cp) ∧ w'.cell? ⟨w.heap.size, 5, none⟩ = some (.slice am p.machines.length cm))
          (first | (refine HBX4.out.below ?_; repeat' (first | exact Below.refl _ _ | apply drewNB | apply Below.drew | refine Below.trans2 ?_ (Nat.le_refl _) (by assumption))) | go_keep)
          (first
            | (go_at_call 33; refine (checkPlant_any _ p _ (HP4.out.below ?_)).mono ?_; (repeat' (first | exact Below.refl _ _ | apply drewNB | apply Below.drew | refine Below.trans2 ?_ (Nat.le_refl _) (by assumption))); (rw [HOK.out]; rintro e w' ⟨rfl, hbq⟩))
            | (go_at_call 15; refine (refCheck_any _ p _ (HP4.out.below ?_)).mono ?_; (repeat' (first | exact Below.refl _ _ | apply drewNB | apply Below.drew | refine Below.trans2 ?_ (Nat.le_refl _) (by assumption))); (rw [HOK.out]; rintro e w' ⟨rfl, hbq⟩))
            | (go_at_call 14; refine (ints_any v1 v2 R R _ (HS1.out.below ?_) (HS2.out.below ?_)).mono ?_; (repeat' (first | exact Below.refl _ _ | apply drewNB | apply Below.drew | refine Below.trans2 ?_ (Nat.le_refl _) (by assumption))); (repeat' (first | exact Below.refl _ _ | apply drewNB | apply Below.drew | refine Below.trans2 ?_ (Nat.le_refl _) (by assumption))); (rw [HRF.out]; rintro e w' ⟨rfl, hbq⟩))
            | (go_at_call 11; refine (awake_any _ (HT4.out.below' ?_)).mono ?_; (repeat' (first | exact Below.refl _ _ | apply drewNB | apply Below.drew | refine Below.trans2 ?_ (Nat.le_refl _) (by assumption))); (rintro e w' ⟨rfl, hbq⟩)))
        all_goals
          go_wp2_with fail
          go_meet
          refine ⟨rfl, ?_⟩
          repeat' (first | exact Below.refl _ _ | apply drewNB | apply Below.drew | refine Below.trans2 ?_ (Nat.le_refl _) (by assumption))
      case rest =>
        obtain ⟨rfl, hbw⟩ := hcut
        go_wp2_with fail
        go_ret
        exact ⟨rfl, HB4.out.trans (hbw.mono HB4.out.size)⟩
end Go.Proofs.YtjjphiecjhijiaaDoor
