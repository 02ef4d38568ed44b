import Derived.Test.YtjjphiecjhijiaaDoorC3
import Derived.Test.YtjjphiecjhijiaaDoorO4
namespace Go.Proofs.YtjjphiecjhijiaaDoor
open Go.RowKit Go.Maps

theorem field75 (a b : Int) (w : World) : (Instr.field 75 (.agg #[.int .i64 a, .int .i64 b]) 1).run Tryd.prog w = .ok (.int .i64 b) w := by
  kernel_rfl

set_option maxRecDepth 100000 in
set_option maxHeartbeats 1000000 in
/-- plant.Cool -/
theorem cool_any (v : Value) (p : PlantD) (w : World) (hp : PlantV w v p) (hT : TabW w) :
    Calls Tryd.prog 12 #[v] w (CoolPost p w) := by
  have HP := hid hp
  have HT := hid hT
  have hTl := hT.lt
  obtain ⟨vl, vp, vm, rfl, hL, hP, hM⟩ := hp
  obtain ⟨al, cl, rfl, hll, _⟩ := hL.open
  clear hL hP hM hT
  obtain ⟨i0, hi, hz0, hz1, hz2⟩ := info_parts info3
  go_enter Tryd.func12, Tryd.ntmps12
  go_upto_region 1 with fail
  obtain ⟨W0, e0, hz0', hb0, hc0, hf0⟩ := box_new w #[.int .i64 p.heat, .int .i64 p.low, .int .i64 p.high, .slice al p.loads.length cl, vp, vm] 25
  rw [e0]
  clear e0
  have hlt1 : w.heap.size < W0.heap.size := by omega
  cases hok : p.ok
  · have HO := hid hok
    go_wp2_with fail
    refine (laid_bad _ p _ (HP.out.below hb0) hok).mono ?_
    rintro e w1 ⟨rfl, hb1⟩
    clear hok
    go_wp2_with fail
    go_ret3
    exact ⟨_, by rw [PlantD.coolC, PlantD.coolE, PlantD.coolB, HO.out]; rfl, by rw [PlantD.coolL, PlantD.coolB, HO.out]; exact nil_SlI _, hb0.trans (hb1.mono (by omega))⟩
  · have HO := hid hok
    have ho := ok_Ok hok
    have hday := ho.day
    go_wp2_with fail
    refine (laid_any _ p _ (HP.out.below hb0) hok).mono ?_
    rintro e w1 ⟨⟨b, rfl, hbb, hobj⟩, hb1⟩
    have hbw1 : Below w.heap.size w w1 := hb0.trans (hb1.mono (by omega))
    clear hok
    go_wp2_with fail
    refine (choices_any b p w1 hobj (HT.out.below hbw1 hTl) ho).mono ?_
    rintro e w2 ⟨vc, cs, rfl, ⟨ac, cc, rfl, hlc, hce⟩, hchs, hb2⟩
    obtain h0 | ⟨g, og, rfl, hgl, hcells⟩ := hce
    · omega
    have HCL := hid hcells
    have HCH := hid hchs
    have hw02 : Below W0.heap.size W0 w2 := hb1.trans (hb2.mono hb1.size)
    have HB2 := hid (And.intro hb2 hw02)
    have HOB := hid (hobj.below hb2)
    have x0 : w2.cell? ⟨w.heap.size, 0, none⟩ = some (.int .i64 p.heat) := rdB hw02 hlt1 (hc0 0)
    have x3 : w2.cell? ⟨w.heap.size, 3, none⟩ = some (.slice al p.loads.length cl) := rdB hw02 hlt1 (hc0 3)

    clear hc0 hf0 hcells hchs hw02 hb2 hobj
    obtain ⟨f0, hf0, hp0⟩ := HCH.out 0 (Nat.zero_le _)
    have hget := hf0.get (p.heat, 0)
    have hfb : f0 (p.heat, 0) = p.bst p.loads.length (p.heat, 0) := hp0.1 _ rfl (by simp)
    have hcB : p.coolB = f0 (p.heat, 0) := by rw [PlantD.coolB, HO.out, hfb]; rfl
    have HCB := hid hcB
    generalize hfc : f0 (p.heat, 0) = fc at *
    have HFB := hid (And.intro hf0 (And.intro hfc hfb))
    have c0 : w2.cell? ⟨g, og, none⟩ = some (.map (some (cs 0))) := by
      have := HCL.out 0 (by simp [mapsV])
      simpa [mapsV] using this
    clear hf0 hp0 hfb hcB hfc hget
    have hgne : ¬ w2.heap.size = g := by omega
    go_upto_region 6 with fail
    obtain ⟨W8, e8, hz8, hb8, hc8, hf8⟩ := box_new w2 #[.int .i64 p.heat, .int .i64 0] 73
    rw [e8]; clear e8
    have y0 : W8.cell? ⟨w2.heap.size, 0, none⟩ = some (.int .i64 p.heat) := hc8 0
    have y1 : W8.cell? ⟨w2.heap.size, 1, none⟩ = some (.int .i64 0) := hc8 1
    have z0 := bcs hb8 x0
    have z3 := bcs hb8 x3
    have zc := bcs hb8 c0
    have z0f : W8.frozen? ⟨w2.heap.size, 0, none⟩ = false := hf8 0
    have z1f : W8.frozen? ⟨w2.heap.size, 1, none⟩ = false := hf8 1
    have HB8 := hid hb8
    have HKL : ∀ w', Below W8.heap.size W8 w' → (w'.cell? ⟨g, og, none⟩ = some (.map (some (cs 0))) ∧ w'.cell? ⟨w2.heap.size, 0, none⟩ = some (.int .i64 p.heat) ∧ w'.cell? ⟨w2.heap.size, 1, none⟩ = some (.int .i64 0) ∧ (Instr.lookup 77 (.map (some (cs 0))) (.agg #[.int .i64 p.heat, .int .i64 0]) true).run Tryd.prog w' = .ok (.tuple #[.agg #[.int .i64 (fc.getD (0, 0)).1, .int .i64 ((fc.getD (0, 0)).2 : Int)], .bool fc.isSome]) w') := by
      intro w' h
      refine ⟨bcs h zc, bcs h y0, bcs h y1, ?_⟩
      have := ((HFB.out.1.below HB8.out).below h).get (p.heat, 0)
      rwa [HFB.out.2.1] at this
    have HKL2 := hid HKL
    have hi1 : (0 : Int) < (p.loads.length : Int) + 1 := by omega
    have hn8 : ¬ W8.heap.size = g := by omega
    have hn9 : ¬ W8.heap.size = w2.heap.size := by omega
    have HZ8 := hid hz8
    clear HKL hb8 hc8 hf8 hz8
    go_cut [9, 6] (fun p9 b6 wx => ∃ B9, p9 = .pointer (some ⟨B9, 0, none⟩) ∧ b6 = .bool fc.isSome ∧ wx.cell? ⟨B9, 0, none⟩ = some (.int .i64 (fc.getD (0, 0)).1) ∧ W8.heap.size ≤ B9 ∧ Below W8.heap.size W8 wx)
    case first =>
      have hh := HKL2.out W8 (Below.refl _ _)
      obtain ⟨hh1, hh2, hh3, hh4⟩ := hh
      go_region_held3 (fun w' => w'.cell? ⟨g, og, none⟩ = some (.map (some (cs 0))) ∧ w'.cell? ⟨w2.heap.size, 0, none⟩ = some (.int .i64 p.heat) ∧ w'.cell? ⟨w2.heap.size, 1, none⟩ = some (.int .i64 0) ∧ (Instr.lookup 77 (.map (some (cs 0))) (.agg #[.int .i64 p.heat, .int .i64 0]) true).run Tryd.prog w' = .ok (.tuple #[.agg #[.int .i64 (fc.getD (0, 0)).1, .int .i64 ((fc.getD (0, 0)).2 : Int)], .bool fc.isSome]) w')
        (first | (refine HKL2.out _ ?_; repeat' (first | exact Below.refl _ _ | apply drewNB | apply Below.drew | (refine Below.alloc ?_ (by simp) _) | (refine Below.setCell ?_ (by simp) _))) | go_keep)
        (fail)
      all_goals
        go_wp2_with fail
        go_meet
        refine ⟨_, rfl, rfl, ?_, Nat.le_refl _, ?_⟩
        · first | (simp; done) | (simp [World.cell?_alloc_new]; done) | exact World.cell?_alloc_new _ _ _ _
        · repeat' (first | exact Below.refl _ _ | apply drewNB | apply Below.drew | (refine Below.alloc ?_ (by simp) _) | (refine Below.setCell ?_ (by simp) _))
    case rest =>
      obtain ⟨B9, rfl, rfl, hc9, hge9, hb9⟩ := hcut
      obtain ⟨w9, rfl⟩ : ∃ w9 : World, w9 = wc := ⟨_, rfl⟩
      have hz8 := HZ8.out
      have hb29 : Below w2.heap.size w2 w9 := HB8.out.trans (hb9.mono (by omega))
      have HB29 := hid hb29
      have HW9 := hid (show Below w.heap.size w w9 from hbw1.trans ((HB2.out.1.trans (hb29.mono HB2.out.1.size)).mono hbw1.size))
      cases fc with
      | none =>
        simp only [Option.isSome_none]
        clear hc9 hb9 hb29
        go_wp2_with fail
        go_ret3
        exact ⟨_, by rw [PlantD.coolC, PlantD.coolE, HCB.out, HO.out]; rfl, by rw [PlantD.coolL, HCB.out]; exact nil_SlI _, HW9.out⟩
      | some c =>
        simp only [Option.isSome_some, Option.getD_some] at hc9 ⊢
        have HPA := hid (fun k => path_ok (p := p) (by rw [← HFB.out.2.2]; rfl) k)
        have a0 := bcs hb9 y0
        have a1 := bcs hb9 y1
        have a0f : w9.frozen? ⟨w2.heap.size, 0, none⟩ = false := frB hb9 (by omega) z0f
        have a1f : w9.frozen? ⟨w2.heap.size, 1, none⟩ = false := frB hb9 (by omega) z1f
        have a3 := bcs hb9 z3
        have hX29 : w2.heap.size < w9.heap.size := cell_lt a0
        have hB99 : B9 < w9.heap.size := cell_lt hc9
        have hwg : g < w2.heap.size := hgl
        have hww : w.heap.size < w2.heap.size := cell_lt x0
        clear hb9 hb29
        go_wp2_with fail
        go_loopw [2, 37] (fun v i wr => ∃ k : Nat, k ≤ p.loads.length ∧ i = .int .i64 k ∧ wr.ownsRow w9.heap.size 3 1 v k ((p.plan k).map (.int .i64)) ∧ wr.cell? ⟨w2.heap.size, 0, none⟩ = some (.int .i64 (p.path k).1) ∧ wr.cell? ⟨w2.heap.size, 1, none⟩ = some (.int .i64 (p.path k).2) ∧ wr.frozen? ⟨w2.heap.size, 0, none⟩ = false ∧ wr.frozen? ⟨w2.heap.size, 1, none⟩ = false ∧ wr.cell? ⟨B9, 0, none⟩ = some (.int .i64 c.1) ∧ w9.heap.size ≤ wr.heap.size ∧ Below w2.heap.size w2 wr) (fun _ i _ => p.loads.length - (intOf i).toNat)
        case atStart => exact ⟨0, Nat.zero_le _, rfl, World.ownsRow_nil _ _ _ _, a0, a1, a0f, a1f, hc9, Nat.le_refl _, HB29.out⟩
        case round =>
          obtain ⟨k, hk, rfl, hown, b0, b1, b0f, b1f, b9, hsw, hb⟩ := hrel
          obtain ⟨wo, rfl⟩ : ∃ wo : World, wo = wr := ⟨_, rfl⟩
          have HOW := hid hown
          have HBB := hid hb
          by_cases hlt : k < p.loads.length
          · obtain ⟨hre, hbs⟩ := HPA.out k hk
            have hbd := reach_bd ho k _ hre
            obtain ⟨fk, hfk, hpk⟩ := HCH.out k hk
            have hfe := hpk.1 _ hre (by simp)
            have hpi : ((fk (p.path k)).getD (0, 0)).2 = p.pick k := by rw [hfe]; rfl
            have hfo : ChF wo (cs k) fk := MapF.below hfk hb hfk.lt
            have hget : ∀ w', Below wo.heap.size wo w' → (Instr.lookup 77 (.map (some (cs k))) (.agg #[.int .i64 (p.path k).1, .int .i64 (p.path k).2]) false).run Tryd.prog w' = .ok (.agg #[.int .i64 ((fk (p.path k)).getD (0, 0)).1, .int .i64 (p.pick k : Int)]) w' := by
              intro w' h
              have := (hfo.below h).get1 (p.path k)
              rwa [hpi] at this
            have HGET := hid hget
            have gk : wo.cell? ⟨g, og + k, none⟩ = some (.map (some (cs k))) := by
              have := rdB hb hgl (HCL.out k (by simp [mapsV]; omega))
              simpa [mapsV] using this
            have hpl := pick_lt ho k
            have HPL := hid hpl
            have HPS := hid (path_succ p k)
            generalize ((fk (p.path k)).getD (0, 0)).1 = junk at *
            generalize hh : (p.path k).1 = ph at *
            generalize hh2 : (p.path k).2 = ps at *
            have HH := hid (And.intro hh hh2)
            have hi0 : (0 : Int) ≤ (k : Int) := by omega
            have hi1 : (k : Int) < (p.loads.length : Int) + 1 := by omega
            have HKK := hid (fun w' (h : Below wo.heap.size wo w') => (And.intro (bcs h gk) (And.intro (bcs h b0) (And.intro (bcs h b1) (HGET.out w' h)))))
            clear hown hb hh hh2 hre hbs hfk hpk hfe hpi hfo hget
            go_upto_region 12 with fail
            go_cut [11] (fun p11 wx => p11 = .int .i64 (p.pick k : Int) ∧ ∃ kd, wx = wo.drewN kd)
            case first =>
              have hh := HKK.out wo (Below.refl _ _)
              have hfld := field75 junk (p.pick k)
              obtain ⟨hh1, hh2, hh3, hh4⟩ := hh
              go_region_held3 (fun w' => w'.cell? ⟨g, og + k, none⟩ = some (.map (some (cs k))) ∧ w'.cell? ⟨w2.heap.size, 0, none⟩ = some (.int .i64 ph) ∧ w'.cell? ⟨w2.heap.size, 1, none⟩ = some (.int .i64 ps) ∧ (Instr.lookup 77 (.map (some (cs k))) (.agg #[.int .i64 ph, .int .i64 ps]) false).run Tryd.prog w' = .ok (.agg #[.int .i64 junk, .int .i64 (p.pick k : Int)]) w')
                (first | (refine HKK.out _ ?_; repeat' (first | exact Below.refl _ _ | apply drewNB | apply Below.drew)) | go_keep)
                (fail)
              all_goals
                go_wp2_with fail
                go_meet
                exact ⟨rfl, 1, rfl⟩
            case rest =>
              obtain ⟨rfl, kd0, rfl⟩ := hcut
              have hown2 : (wo.drewN kd0).ownsRow w9.heap.size 3 1 u2 k ((p.plan k).map (.int .i64)) := HOW.out
              have b0' : (wo.drewN kd0).cell? ⟨w2.heap.size, 0, none⟩ = some (.int .i64 ph) := b0
              have b1' : (wo.drewN kd0).cell? ⟨w2.heap.size, 1, none⟩ = some (.int .i64 ps) := b1
              have b0f' : (wo.drewN kd0).frozen? ⟨w2.heap.size, 0, none⟩ = false := b0f
              have b1f' : (wo.drewN kd0).frozen? ⟨w2.heap.size, 1, none⟩ = false := b1f
              have b9' : (wo.drewN kd0).cell? ⟨B9, 0, none⟩ = some (.int .i64 c.1) := b9
              have hbb' : Below w2.heap.size w2 (wo.drewN kd0) := drewNB HBB.out kd0
              have hsw' : w9.heap.size ≤ (wo.drewN kd0).heap.size := hsw
              clear b0 b1 b0f b1f b9
              generalize wo.drewN kd0 = w5 at *
              have hszb : w9.heap.size ≤ w5.heap.size := hsw'
              go_upto_region 14 with (at_builtin; refine wpList_append_own _ rfl _ _ 22 rfl w9.heap.size 3 i0 (.int .i64 0) 1 8 Tryd.underlying22 hi hz0 hz1 hz2 rfl (by decide) _ _ _ rfl (hown2.alloc _) ⟨w5.heap.size, 0, none⟩ 1 1 [.int .i64 (p.pick k : Int)] rfl rfl (cell_one_new _ _ _) (ones _ rfl) (by unfold maxLen; omega) (by omega) (by simp; omega) ?_; intro v' w6 hown6 hgrow6 _)
              have hb56 : Below w9.heap.size w5 w6 := ((Below.refl _ _).alloc hszb _).grown hgrow6 (by simp; omega) (fun j hj => (hown2.lt j hj).1)
              have d0 := rdB hb56 hX29 b0'
              have d1 := rdB hb56 hX29 b1'
              have d0f := frB hb56 hX29 b0f'
              have d1f := frB hb56 hX29 b1f'
              have d9 := rdB hb56 hB99 b9'
              have hb26 : Below w2.heap.size w2 w6 := hbb'.trans (hb56.mono (Nat.le_of_lt hX29))
              have hsz6 := hb56.size
              have HOB6 := hid (HOB.out.below hb26)
              have HOW6 := hid (And.intro hown6 hb26)
              clear hown6 hgrow6 b0' b1' b0f' b1f' b9' hb56 hb26 hbb' hown2
              go_wp2_with fail
              refine (heat_any b p k (p.pick k) ph w6 HOB6.out ho hlt HPL.out (by omega) (by omega)).mono ?_
              rintro e w' ⟨rfl, kd, rfl⟩
              have d0' : (w6.drewN kd).cell? ⟨w2.heap.size, 0, none⟩ = some (.int .i64 ph) := d0
              have d1' : (w6.drewN kd).cell? ⟨w2.heap.size, 1, none⟩ = some (.int .i64 ps) := d1
              have d0f' : (w6.drewN kd).frozen? ⟨w2.heap.size, 0, none⟩ = false := d0f
              have d1f' : (w6.drewN kd).frozen? ⟨w2.heap.size, 1, none⟩ = false := d1f
              have d9' : (w6.drewN kd).cell? ⟨B9, 0, none⟩ = some (.int .i64 c.1) := d9
              have hown7 : (w6.drewN kd).ownsRow w9.heap.size 3 1 v' (k + 1) ((p.plan k).map (.int .i64) ++ [.int .i64 (p.pick k : Int)]) := HOW6.out.1
              have hb27 : Below w2.heap.size w2 (w6.drewN kd) := drewNB HOW6.out.2 kd
              have hsz7 : w9.heap.size ≤ (w6.drewN kd).heap.size := Nat.le_trans hsw' hsz6
              clear d0 d1 d0f d1f d9 hsz6
              generalize w6.drewN kd = w7 at *
              have H7 := hid (And.intro hown7 hb27)
              clear hown7 hb27
              go_wp2_with fail
              refine ⟨⟨k + 1, by omega, by go_num, ?_, ?_, ?_, ?_, ?_, ?_, ?_, ?_⟩, by simp [intOf]; omega⟩
              · rw [plan_succ, List.map_append]
                exact ownsRow_setCell_below (ownsRow_setCell_below H7.out.1 (a := ⟨w2.heap.size, 0, none⟩) hX29 _) (a := ⟨w2.heap.size, 1, none⟩) hX29 _
              · rw [HPS.out, World.cell?_setCell_other _ _ _ _ (by simp)]
                exact World.cell?_setCell_same _ _ _ d0'
              · rw [HPS.out]
                exact World.cell?_setCell_same _ _ _ ((World.cell?_setCell_other _ _ _ _ (by simp)).trans d1')
              · simpa using d0f'
              · simpa using d1f'
              · rw [World.cell?_setCell_other _ _ _ _ (by intro h; injection h; omega), World.cell?_setCell_other _ _ _ _ (by intro h; injection h; omega)]
                exact d9'
              · simpa using hsz7
              · exact (H7.out.2.setCell (Nat.le_refl _) _).setCell (Nat.le_refl _) _
          · go_wp2_with fail
            obtain rfl : k = p.loads.length := by omega
            go_region_held3 (fun w' => w'.cell? ⟨B9, 0, none⟩ = some (.int .i64 c.1)) (go_keep) (fail)
            all_goals
              go_wp2_with fail
              go_ret3
              refine ⟨_, by rw [PlantD.coolC, PlantD.coolE, HCB.out, HO.out]; rfl, ?_, ?_⟩
              · rw [PlantD.coolL, HCB.out]
                exact own_SlI (l := p.plan p.loads.length) HOW.out (by rw [plan_length]; omega)
              · exact (hbw1.trans ((HB2.out.1.trans (HBB.out.mono HB2.out.1.size)).mono hbw1.size)).drew
end Go.Proofs.YtjjphiecjhijiaaDoor
