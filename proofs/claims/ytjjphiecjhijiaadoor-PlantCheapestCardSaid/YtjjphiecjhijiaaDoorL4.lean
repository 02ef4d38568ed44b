import Derived.Test.YtjjphiecjhijiaaDoorL3
namespace Go.Proofs.YtjjphiecjhijiaaDoor
open Go.RowKit Go.Maps
attribute [local go_sem] alloc_drewN setCell_drewN
/-- The number in a cell: a loop's measure. -/
def cellN (w : World) (b : Nat) : Nat := match w.cell? ⟨b, 0, none⟩ with | some v => (intOf v).toNat | none => 0
theorem cellN_eq {w : World} {b k : Nat} (h : w.cell? ⟨b, 0, none⟩ = some (.int .i64 k)) : cellN w b = k := by simp [cellN, h, intOf]
theorem fr_far {w w' : World} {X B o : Nat} {v : Value} (hg : w.grownBy w' (some X)) (hc : w.cell? ⟨B, o, none⟩ = some v) (hf : w.frozen? ⟨B, o, none⟩ = false) (hne : B ≠ X) : w'.frozen? ⟨B, o, none⟩ = false :=
  (World.frozen?_of_block (a := ⟨B, o, none⟩) (hg.block _ (cell_lt hc) (fun h => hne (Option.some.inj h)))).trans hf

theorem set3 {w : World} {b : Nat} {a0 a1 a2 : Value} (x y z : Value) (h0 : w.cell? ⟨b, 0, none⟩ = some a0) (h1 : w.cell? ⟨b, 1, none⟩ = some a1) (h2 : w.cell? ⟨b, 2, none⟩ = some a2) :
    (((w.setCell ⟨b, 0, none⟩ x).setCell ⟨b, 1, none⟩ y).setCell ⟨b, 2, none⟩ z).cell? ⟨b, 0, none⟩ = some x ∧ (((w.setCell ⟨b, 0, none⟩ x).setCell ⟨b, 1, none⟩ y).setCell ⟨b, 2, none⟩ z).cell? ⟨b, 1, none⟩ = some y ∧ (((w.setCell ⟨b, 0, none⟩ x).setCell ⟨b, 1, none⟩ y).setCell ⟨b, 2, none⟩ z).cell? ⟨b, 2, none⟩ = some z := by
  refine ⟨?_, ?_, ?_⟩
  · rw [World.cell?_setCell_other _ _ _ _ (by simp), World.cell?_setCell_other _ _ _ _ (by simp)]
    exact World.cell?_setCell_same _ _ _ h0
  · rw [World.cell?_setCell_other _ _ _ _ (by simp)]
    exact World.cell?_setCell_same _ _ _ ((World.cell?_setCell_other _ _ _ _ (by simp)).trans h1)
  · exact World.cell?_setCell_same _ _ _ ((World.cell?_setCell_other _ _ _ _ (by simp)).trans ((World.cell?_setCell_other _ _ _ _ (by simp)).trans h2))
theorem MemoF.set {p : PlantD} {w : World} {bm b j : Nat} {v : Value} (h : MemoF p w bm) (hne : bm ≠ b) : MemoF p (w.setCell ⟨b, j, none⟩ v) bm := by
  obtain ⟨M, h1, h2⟩ := h
  exact ⟨M, MapF.block h1 (heap_setCell_other w ⟨b, j, none⟩ bm v hne), h2⟩
theorem box_after (w : World) (cs : Array Value) (t : TypeId) (w' : World) (h : Below (w.alloc (.cells cs t)).drew.heap.size (w.alloc (.cells cs t)).drew w') :
    w'.cell? ⟨w.heap.size, 0, none⟩ = cs[0]? ∧ w'.cell? ⟨w.heap.size, 1, none⟩ = cs[1]? ∧ w'.cell? ⟨w.heap.size, 2, none⟩ = cs[2]? ∧ w'.frozen? ⟨w.heap.size, 0, none⟩ = false ∧ w'.frozen? ⟨w.heap.size, 1, none⟩ = false ∧ w'.frozen? ⟨w.heap.size, 2, none⟩ = false := by
  have hc := fun i => (h.cell (p := ⟨w.heap.size, i, none⟩) (by simp)).trans ((World.cell?_drew _ _).trans (World.cell?_alloc_new w cs t i))
  have hf := fun i => (h.frozen (p := ⟨w.heap.size, i, none⟩) (by simp)).trans ((World.frozen?_drew _ _).trans (World.frozen?_alloc_new w cs t i))
  exact ⟨hc 0, hc 1, hc 2, hf 0, hf 1, hf 2⟩
set_option maxRecDepth 100000 in
set_option maxHeartbeats 1000000 in
/-- besomref12.Cool -/
theorem refCool_any (v : Value) (p : PlantD) (w : World) (hp : PlantV w v p) :
    Calls Tryd.prog 13 #[v] w (CoolPost p w) := by
  have HP := hid hp
  obtain ⟨vl, vp, vm, rfl, hL, hP, hM⟩ := hp
  obtain ⟨al, cl, rfl, hll, _⟩ := hL.open
  clear hL hP hM
  obtain ⟨i0, hi, hz0, hz1, hz2⟩ := info_parts info3
  have hmm := @run_makeMap Tryd.prog
  go_enter Tryd.func13, Tryd.ntmps13
  go_upto_region 1 with fail
  obtain ⟨W0, e0, hz0', hb0, hc0, hf0⟩ := box_new w #[.int .i64 p.heat, .int .i64 p.low, .int .i64 p.high, .slice al p.loads.length cl, vp, vm] 25
  rw [e0]
  clear e0
  have hlt1 : w.heap.size < W0.heap.size := by omega
  have x0 : W0.cell? ⟨w.heap.size, 0, none⟩ = some (.int .i64 p.heat) := hc0 0
  have x1 : W0.cell? ⟨w.heap.size, 1, none⟩ = some (.int .i64 p.low) := hc0 1
  have x2 : W0.cell? ⟨w.heap.size, 2, none⟩ = some (.int .i64 p.high) := hc0 2
  have x3 : W0.cell? ⟨w.heap.size, 3, none⟩ = some (.slice al p.loads.length cl) := hc0 3
  have x4 : W0.cell? ⟨w.heap.size, 4, none⟩ = some vp := hc0 4
  have x5 : W0.cell? ⟨w.heap.size, 5, none⟩ = some vm := hc0 5
  clear hc0 hf0
  cases hok : p.ok
  · have HO := hid hok
    go_wp2_with fail
    refine (refCheck_any _ p _ (HP.out.below hb0)).mono ?_
    rw [hok]
    clear hok
    rintro e w1 ⟨rfl, hb1⟩
    go_wp2_with fail
    go_ret3
    exact ⟨_, by rw [PlantD.coolC, PlantD.coolE, PlantD.coolB, HO.out]; rfl, by rw [PlantD.coolL, PlantD.coolB, HO.out]; exact nil_SlI _, hb0.trans (hb1.mono (by omega))⟩
  · have HO := hid hok
    have ho := ok_Ok hok
    have hday := ho.day
    have hpw := pow_small (m := p.m) ho.few
    have hBh := ho.high2
    have hBl := ho.low1
    have hBl2 := ho.low2
    have hBt := ho.heat1
    have hBt2 := ho.heat2
    obtain ⟨q, hqe⟩ : ∃ q, 2 ^ p.m = q := ⟨_, rfl⟩
    have HQ := hid hqe
    rw [hqe] at hpw
    clear hqe
    have hcB : p.coolB = p.bst p.loads.length (p.heat, 0) := by rw [PlantD.coolB, hok]; rfl
    have HCB := hid hcB
    clear hcB
    go_wp2_with fail
    refine (refCheck_any _ p _ (HP.out.below hb0)).mono ?_
    rw [hok]
    clear hok
    rintro e w1 ⟨rfl, hb1⟩
    have HB1 := hid hb1
    have HX := hid (fun w' (h : Below (w.heap.size + 1) W0 w') => And.intro (rdB h (Nat.lt_succ_self _) x0) (And.intro (rdB h (Nat.lt_succ_self _) x1) (And.intro (rdB h (Nat.lt_succ_self _) x2) (And.intro (rdB h (Nat.lt_succ_self _) x3) (And.intro (rdB h (Nat.lt_succ_self _) x4) (rdB h (Nat.lt_succ_self _) x5))))))
    have HPX := hid (fun w' (h : Below (w.heap.size + 1) W0 w') => HP.out.below (hb0.trans (h.mono (Nat.le_succ _))))
    have HB0 := hid hb0
    clear x0 x1 x2 x3 x4 x5 hb0
    have hsz1 := hb1.size
    have hb1' : Below (w.heap.size + 1) W0 w1 := hb1.mono (by omega)
    clear hb1
    go_upto_region 4 with fail
    obtain ⟨W2, hW2⟩ : ∃ W2, w1.alloc (.map #[] 0) = W2 := ⟨_, rfl⟩
    rw [hW2]
    have hm2 := MemoF.made p w1
    rw [hW2] at hm2
    have hz2' : W2.heap.size = w1.heap.size + 1 := by rw [← hW2]; simp
    have hb2 : Below (w.heap.size + 1) W0 W2 := by rw [← hW2]; exact hb1'.alloc (by omega) _
    clear hW2
    generalize hbm : w1.heap.size = bm at *
    clear hbm
    obtain ⟨a0, a1, a2, a3, a4, a5⟩ := HX.out W2 hb2
    go_upto_region 5 with fail
    obtain ⟨W3, e3, hz3', hb3, hc3, hf3⟩ := box_new W2 #[.int .i64 0, .int .i64 p.heat, .int .i64 0] 81
    rw [e3]
    clear e3 a0 a1 a2 a3 a4 a5
    have y0 : W3.cell? ⟨bm + 1, 0, none⟩ = some (.int .i64 0) := by rw [← hz2']; exact hc3 0
    have y1 : W3.cell? ⟨bm + 1, 1, none⟩ = some (.int .i64 p.heat) := by rw [← hz2']; exact hc3 1
    have y2 : W3.cell? ⟨bm + 1, 2, none⟩ = some (.int .i64 0) := by rw [← hz2']; exact hc3 2
    have z0 : W3.frozen? ⟨bm + 1, 0, none⟩ = false := by rw [← hz2']; exact hf3 0
    have z1 : W3.frozen? ⟨bm + 1, 1, none⟩ = false := by rw [← hz2']; exact hf3 1
    have z2 : W3.frozen? ⟨bm + 1, 2, none⟩ = false := by rw [← hz2']; exact hf3 2
    have hb03 : Below (w.heap.size + 1) W0 W3 := hb2.trans (hb3.mono (by omega))
    obtain ⟨a0, a1, a2, a3, a4, a5⟩ := HX.out W3 hb03
    have HM3 := hid (hm2.below hb3)
    clear hc3 hf3 hm2 hb3 hb2 hb1'
    go_wp2_with fail

    refine (least_any p ho p.loads.length _ 0 p.heat 0 bm W3 (by omega) (HPX.out W3 hb03) HM3.out (by omega) (by omega) (by omega)).mono ?_
    rintro e w4 ⟨rfl, hm4, hg4⟩
    have hne : bm + 1 ≠ bm := by omega
    have b0 := far hg4 y0 hne
    have b1 := far hg4 y1 hne
    have b2 := far hg4 y2 hne
    have hblk := hg4.block (bm + 1) (cell_lt y0) (fun h => hne (Option.some.inj h))
    have c0 : w4.frozen? ⟨bm + 1, 0, none⟩ = false := (World.frozen?_of_block (a := ⟨bm + 1, 0, none⟩) hblk).trans z0
    have c1 : w4.frozen? ⟨bm + 1, 1, none⟩ = false := (World.frozen?_of_block (a := ⟨bm + 1, 1, none⟩) hblk).trans z1
    have c2 : w4.frozen? ⟨bm + 1, 2, none⟩ = false := (World.frozen?_of_block (a := ⟨bm + 1, 2, none⟩) hblk).trans z2
    have hb04 : Below (w.heap.size + 1) W0 w4 := hb03.grown hg4 (by have := cell_lt y0; omega) (fun k hk => by have := Option.some.inj hk; omega)
    have HM4 := hid hm4
    have HW4 := hid (show Below w.heap.size w w4 from HB0.out.trans (hb04.mono (by omega)))
    have hsz4 : bm + 2 ≤ w4.heap.size := cell_lt b0
    have hln := lst_neg ho p.loads.length (p.heat, ((0 : Nat) : Int))
    have hlb := lst_bd ho p.loads.length (p.heat, ((0 : Nat) : Int))
    have HLN := hid (show p.lst p.loads.length (p.heat, ((0 : Nat) : Int)) = lstO p.coolB by rw [HCB.out]; rfl)
    have HBN := hid (show p.bst p.loads.length (p.heat, ((0 : Nat) : Int)) = p.coolB by rw [HCB.out]; rfl)
    clear a0 a1 a2 a3 a4 a5 y0 y1 y2 z0 z1 z2 hblk hm4 hg4 hb03
    generalize hl0 : p.lst p.loads.length (p.heat, ((0 : Nat) : Int)) = l0 at *
    have HL0 := hid hl0
    have HLN2 := hid hln
    clear hl0 hln
    by_cases hneg : l0 < 0
    · have hnt : decide (l0 < 0) = true := by simp [hneg]
      go_wp2_with fail
      go_ret3
      have hnone : p.coolB = none := by rw [← HBN.out]; exact HLN2.out.1 hneg
      exact ⟨_, by rw [PlantD.coolC, PlantD.coolE, hnone, HO.out]; rfl, by rw [PlantD.coolL, hnone]; exact nil_SlI _, HW4.out⟩
    · have hnt : decide (l0 < 0) = false := by simp [hneg]
      have hsome : (p.bst p.loads.length (p.heat, 0)).isSome = true := by
        cases e : p.bst p.loads.length (p.heat, ((0 : Nat) : Int)) with
        | none => exact absurd (HLN2.out.2 e) hneg
        | some c => rfl
      have HPA := hid (path_ok hsome)
      have HPF := hid (pick_first ho hsome)
      have HCC := hid (show p.coolC = l0 ∧ p.coolL = p.plan p.loads.length ∧ p.coolE = 0 by
        rw [PlantD.coolC, PlantD.coolL, PlantD.coolE, HO.out, HLN.out, HCB.out]
        cases e : p.bst p.loads.length (p.heat, 0) with
        | none => rw [e] at hsome; cases hsome
        | some c => exact ⟨rfl, rfl, rfl⟩)
      have HPSZ := hid (show ∀ k, (p.path k).2 = ((p.path k).2.toNat : Int) ∧ (p.path k).2.toNat < q by
        intro k
        cases k with
        | zero => exact ⟨rfl, by show 0 < q; omega⟩
        | succ k => rw [path_succ]; exact ⟨rfl, by have := pick_lt ho k; rw [HQ.out] at this; simpa using this⟩)
      clear hsome
      go_wp2_with fail
      have HB04 := hid hb04
      clear hb04
      go_loopw [8, 9] (fun s l wr => ∃ k : Nat, k ≤ p.loads.length ∧ l = .int .i64 (p.lst (p.loads.length - k) (p.path k)) ∧ wr.ownsRow w4.heap.size 3 1 s k ((p.plan k).map (.int .i64)) ∧ MemoF p wr bm ∧ wr.cell? ⟨bm + 1, 0, none⟩ = some (.int .i64 k) ∧ wr.cell? ⟨bm + 1, 1, none⟩ = some (.int .i64 (p.path k).1) ∧ wr.cell? ⟨bm + 1, 2, none⟩ = some (.int .i64 (p.path k).2) ∧ wr.frozen? ⟨bm + 1, 0, none⟩ = false ∧ wr.frozen? ⟨bm + 1, 1, none⟩ = false ∧ wr.frozen? ⟨bm + 1, 2, none⟩ = false ∧ w4.heap.size ≤ wr.heap.size ∧ Below (w.heap.size + 1) W0 wr) (fun _ _ wr => p.loads.length - cellN wr (bm + 1))
      case atStart => exact ⟨0, Nat.zero_le _, by rw [← HL0.out]; rfl, World.ownsRow_nil _ _ _ _, HM4.out, b0, b1, b2, c0, c1, c2, Nat.le_refl _, HB04.out⟩
      case round =>
        obtain ⟨k, hk, rfl, hown, hm, d0, d1, d2, g0, g1, g2, hsw, hb⟩ := hrel
        obtain ⟨wo, rfl⟩ : ∃ wo : World, wo = wr := ⟨_, rfl⟩
        obtain ⟨sv, rfl⟩ : ∃ sv : Value, sv = u8 := ⟨_, rfl⟩
        have HOW := hid hown
        have HM := hid hm
        have HB := hid hb
        have HCN := hid (cellN_eq d0)
        obtain ⟨a0, a1, a2, a3, a4, a5⟩ := HX.out wo hb
        clear b0 b1 b2 c0 c1 c2
        by_cases hlt : k < p.loads.length
        · have hltt : decide ((k : Int) < (p.loads.length : Int)) = true := by simp; omega
          obtain ⟨hre, hbs⟩ := HPA.out k hk
          have hbd := reach_bd ho k _ hre
          obtain ⟨hps, hpq⟩ := HPSZ.out k
          have HPK := hid (HPF.out k hlt)
          have hpl := pick_lt ho k
          rw [HQ.out] at hpl
          have HPS := hid (path_succ p k)
          rw [hps] at d2
          have hlb2 := lst_bd ho (p.loads.length - k) (p.path k)
          generalize hlk : p.lst (p.loads.length - k) (p.path k) = lk at *
          generalize hph : (p.path k).1 = ph at *
          generalize hpb : (p.path k).2.toNat = pb at *
          have HPH := hid (And.intro hlk (And.intro hph hpb))
          have hG0 : wo.grownBy wo (some bm) := below_grown (Below.refl _ _) _
          clear hre hbs hps hlk hph hpb hown hm hb
          go_wp2_with fail
          go_loopw [8, 9, 10] (fun s l i wr => ∃ n : Nat, n ≤ p.pick k ∧ i = .int .i64 n ∧ s = sv ∧ l = .int .i64 lk ∧ MemoF p wr bm ∧ wo.grownBy wr (some bm)) (fun _ _ i _ => q - (intOf i).toNat)
          case atStart => exact ⟨0, Nat.zero_le _, rfl, rfl, rfl, HM.out, hG0⟩
          case round =>
            obtain ⟨n, hn, rfl, rfl, rfl, hm, hg⟩ := hrel
            obtain ⟨w5, rfl⟩ : ∃ w5 : World, w5 = wr := ⟨_, rfl⟩
            have hb5 : Below (w.heap.size + 1) W0 w5 := HB.out.grown hg (by omega) (fun k hk => by have := Option.some.inj hk; omega)
            have HM5 := hid hm
            have HG5 := hid hg
            clear a0 a1 a2 a3 a4 a5
            obtain ⟨a0, a1, a2, a3, a4, a5⟩ := HX.out w5 hb5
            clear hm hg
            go_wp2_with fail
            refine (all_any _ p w5 (HPX.out w5 hb5) ho.few).mono ?_
            rw [HQ.out]
            rintro e w6 ⟨rfl, hb6⟩
            have hnl' : decide ((n : Int) < (q : Int)) = true := by simp; omega
            have HM6 := hid (HM5.out.below hb6)
            have hg6 := HG5.out.trans (below_grown hb6 (some bm))
            have hb06 : Below (w.heap.size + 1) W0 w6 := HB.out.grown hg6 (by omega) (fun k hk => by have := Option.some.inj hk; omega)
            clear a0 a1 a2 a3 a4 a5 hb5
            obtain ⟨a0, a1, a2, a3, a4, a5⟩ := HX.out w6 hb06
            have e0 := far hg6 d0 hne
            have e1 := far hg6 d1 hne
            have HG6 := hid hg6
            have HB6 := hid hb06
            have hw1 : IntKind.i64.wrap ((k : Int) + 1) = (k : Int) + 1 := IntWalk.i64_in _ (by omega)
            clear hg6 hb06 hb6
            go_upto_region 14 with fail
            have hnb := Ok_next ho k n ph 100000000 (by omega) (by omega) (by omega)
            have HPK2 := hid (HPK.out n hn)
            generalize hnx : p.next k ph n = nx at *
            have HNX := hid hnx
            clear hnx
            have hX6 : w.heap.size < w6.heap.size := cell_lt a0
            have hE6 : bm + 1 < w6.heap.size := cell_lt e0
            have hnn0 : ¬ w6.heap.size = w.heap.size := by omega
            have hnn1 : ¬ w6.heap.size = bm + 1 := by omega
            have HPW := hid (fun w' (h : Below w6.heap.size w6 w') => HPX.out w' (HB6.out.trans (h.mono (by omega))))
            have HSS := hid (fun w' (h : Below w6.heap.size w6 w') => And.intro (bcs h e0) (And.intro (bcs h e1) (HX.out w' (HB6.out.trans (h.mono (by omega))))))
            have HBX := hid (box_after w6 #[.int .i64 0, .int .i64 0, .int .i64 0] 81)
            go_cut [11] (fun p11 wx => ∃ B11, p11 = .pointer (some ⟨B11, 0, none⟩) ∧ wx.cell? ⟨B11, 0, none⟩ = some (.int .i64 ((k : Int) + 1)) ∧ wx.cell? ⟨B11, 1, none⟩ = some (.int .i64 nx) ∧ wx.cell? ⟨B11, 2, none⟩ = some (.int .i64 n) ∧ w6.heap.size ≤ B11 ∧ Below w6.heap.size w6 wx)
            case first =>
              --F<
              go_region_held3 (fun w' => w'.cell? ⟨bm + 1, 0, none⟩ = some (.int .i64 k) ∧ w'.cell? ⟨bm + 1, 1, none⟩ = some (.int .i64 ph) ∧ w'.cell? ⟨w.heap.size, 0, none⟩ = some (.int .i64 p.heat) ∧ w'.cell? ⟨w.heap.size, 1, none⟩ = some (.int .i64 p.low) ∧ w'.cell? ⟨w.heap.size, 2, none⟩ = some (.int .i64 p.high) ∧ w'.cell? ⟨w.heap.size, 3, none⟩ = some (.slice al p.loads.length cl) ∧ w'.cell? ⟨w.heap.size, 4, none⟩ = some vp ∧ w'.cell? ⟨w.heap.size, 5, none⟩ = some vm)
                (first | (refine HSS.out _ ?_; (repeat' (first | assumption | exact Below.refl _ _ | apply drewNB | apply Below.drew | (refine Below.alloc ?_ (by first | assumption | (simp; done) | (simp; omega)) _) | (refine Below.setCell ?_ (by first | (simp; done) | (simp; omega)) _)))))
                (first | (go_at_call 41; refine (behind_any _ p k n ph _ (HPW.out _ ?_) ho (by omega) (by omega) (by omega) (by omega)).mono ?_ ; (repeat' (first | exact Below.refl _ _ | apply drewNB | apply Below.drew | (refine Below.alloc ?_ (by simp) _) | (refine Below.setCell ?_ (by simp) _))); (rintro e w' ⟨rfl, hbw⟩; rw [HNX.out]; have hbw0 := hbw.size; have hbx : Below w6.heap.size w6 w' := Below.trans (by repeat' (first | exact Below.refl _ _ | apply drewNB | apply Below.drew | (refine Below.alloc ?_ (by simp) _))) (hbw.mono (by simp)); have hbx0 : w6.heap.size ≤ w'.heap.size := hbx.size; first | (have hqq := HBX.out w' hbw; obtain ⟨q0, q1, q2, r0, r1, r2⟩ := hqq) | skip)))
              all_goals
                go_wp2_with fail
                go_meet
                first
                  | (refine ⟨_, rfl, ?_, ?_, ?_, hbx0, ?_⟩
                     · exact World.cell?_alloc_new _ _ _ 0
                     · exact World.cell?_alloc_new _ _ _ 1
                     · exact World.cell?_alloc_new _ _ _ 2
                     · exact hbx.alloc hbx0 _)
                  | (refine ⟨_, rfl, ?_, ?_, ?_, Nat.le_refl _, ?_⟩
                     · rw [World.cell?_setCell_other _ _ _ _ (by simp), World.cell?_setCell_other _ _ _ _ (by simp)]
                       exact World.cell?_setCell_same _ _ _ q0
                     · rw [World.cell?_setCell_other _ _ _ _ (by simp)]
                       exact World.cell?_setCell_same _ _ _ ((World.cell?_setCell_other _ _ _ _ (by simp)).trans q1)
                     · exact World.cell?_setCell_same _ _ _ ((World.cell?_setCell_other _ _ _ _ (by simp)).trans ((World.cell?_setCell_other _ _ _ _ (by simp)).trans q2))
                     · exact ((hbx.setCell (Nat.le_refl _) _).setCell (Nat.le_refl _) _).setCell (Nat.le_refl _) _)
              --F>
            case rest =>
              obtain ⟨B11, rfl, f0, f1, f2, hge, hb67⟩ := hcut
              obtain ⟨w7, rfl⟩ : ∃ w7 : World, w7 = wc := ⟨_, rfl⟩
              have HB7 := hid (HB6.out.trans (hb67.mono (by omega)))
              have HG7 := hid (HG6.out.trans (below_grown hb67 (some bm)))
              have HM7 := hid (HM6.out.below hb67)
              clear a0 a1 a2 a3 a4 a5 e0 e1
              obtain ⟨a0, a1, a2, a3, a4, a5⟩ := HX.out w7 HB7.out
              have hBne : B11 ≠ bm := by omega
              clear hb67
              by_cases hle : nx ≤ p.high
              · have hlet : decide (nx > p.high) = false := by simp [hle]
                go_wp2_with fail
                rw [show (k : Int) + 1 = ((k + 1 : Nat) : Int) from rfl]
                refine (least_any p ho (p.loads.length - (k + 1)) _ (k + 1) nx n bm w7 (by omega) (HPX.out w7 HB7.out) HM7.out (by omega) (by omega) (by omega)).mono ?_
                rintro e w8 ⟨rfl, hm8, hg8⟩
                have HM8 := hid hm8
                have HG8 := hid (HG7.out.trans hg8)
                have HB8 := hid (HB7.out.grown hg8 (by have := cell_lt a0; omega) (fun k hk => by have := Option.some.inj hk; omega))
                have i0' := far hg8 f0 hBne
                have i1' := far hg8 f1 hBne
                have i2' := far hg8 f2 hBne
                clear hm8 hg8 a0 a1 a2 a3 a4 a5 f0 f1 f2
                obtain ⟨a0, a1, a2, a3, a4, a5⟩ := HX.out w8 HB8.out
                have e0 := far HG8.out d0 hne
                have e2 := far HG8.out d2 hne
                have hlb3 := lst_bd ho (p.loads.length - (k + 1)) (nx, (n : Int))
                generalize hy : p.lst (p.loads.length - (k + 1)) (nx, (n : Int)) = y at *
                have HY := hid hy
                clear hy
                go_wp2_with fail
                refine (costs_any _ p k pb n w8 (HPX.out w8 HB8.out) ho (by omega) (by omega) (by omega)).mono ?_
                rintro e w9 ⟨rfl, hb9⟩
                have hhb := Ok_hcost ho k pb n
                have HM9 := hid (HM8.out.below hb9)
                have HG9 := hid (HG8.out.trans (below_grown hb9 (some bm)))
                have HB9 := hid (HB8.out.trans (hb9.mono (by have := cell_lt a0; omega)))
                have j0 := bcs hb9 i0'
                have j1 := bcs hb9 i1'
                have j2 := bcs hb9 i2'
                clear a0 a1 a2 a3 a4 a5 i0' i1' i2' e0 e2 hb9
                obtain ⟨a0, a1, a2, a3, a4, a5⟩ := HX.out w9 HB9.out
                generalize hhc : p.hcost k pb n = hc at *
                clear hhc
                have hw2 : IntKind.i64.wrap (y + hc) = y + hc := IntWalk.i64_in _ (by omega)
                rcases HPK2.out with ⟨hnp, hno⟩ | ⟨hnp, _, hy0, hyc⟩
                · have hno2 := hno hle
                  by_cases hyn : y < 0
                  · have hyt : decide (y ≥ 0) = false := by simp; omega
                    go_wp2_with fail
                    exact ⟨⟨n + 1, by omega, by go_num, rfl, rfl, HM9.out, HG9.out⟩, by simp [intOf]; omega⟩
                  · have hyt : decide (y ≥ 0) = true := by simp; omega
                    have hyc : (y + hc == lk) = false := by simp; omega
                    go_wp2_with fail
                    exact ⟨⟨n + 1, by omega, by go_num, rfl, rfl, HM9.out, HG9.out⟩, by simp [intOf]; omega⟩
                · have hyt : decide (y ≥ 0) = true := by simp; omega
                  have hyct : (y + hc == lk) = true := by simp; omega
                  subst hnp
                  have HYC := hid hyc
                  clear hyc
                  have hown9 : w9.ownsRow w4.heap.size 3 1 u8 k ((p.plan k).map (.int .i64)) := HOW.out.kept HG9.out (by
                    cases e : u8.ownBlock with
                    | none => left; rfl
                    | some j => right; intro h; have := (HOW.out.lt j e).1; have := Option.some.inj h; omega)
                  have hsz9 : w4.heap.size ≤ w9.heap.size := Nat.le_trans hsw HG9.out.size
                  have hrow : ∀ j, u8.ownBlock = some j → j < B11 := by
                    intro j hj
                    have := (HOW.out.lt j hj).2
                    have := HG6.out.size
                    omega
                  have HROW := hid hrow
                  clear hrow
                  go_upto_region 20 with (at_builtin; refine wpList_append_own _ rfl _ _ 22 rfl w4.heap.size 3 i0 (.int .i64 0) 1 8 Tryd.underlying22 hi hz0 hz1 hz2 rfl (by decide) _ _ _ rfl (hown9.alloc _) ⟨w9.heap.size, 0, none⟩ 1 1 [.int .i64 (p.pick k : Int)] rfl rfl (cell_one_new _ _ _) (ones _ rfl) (by unfold maxLen; omega) (by omega) (by simp; omega) ?_; intro v' w10 hown10 hgrow10 _)
                  have hbA : Below w4.heap.size w9 w10 := ((Below.refl _ _).alloc hsz9 _).grown hgrow10 (by simp; omega) (fun j hj => (hown9.lt j hj).1)
                  have hblk : w10.heap[B11]? = (w9.alloc (.cells #[.int .i64 (p.pick k : Int)] 3)).heap[B11]? := hgrow10.block B11 (by have := cell_lt j0; simp; omega) (fun h => absurd (HROW.out B11 h.symm) (Nat.lt_irrefl _))
                  have hblk2 : (w9.alloc (.cells #[.int .i64 (p.pick k : Int)] 3)).heap[B11]? = w9.heap[B11]? := Below.heap_alloc _ _ _ (cell_lt j0)
                  have k0 : w10.cell? ⟨B11, 0, none⟩ = some (.int .i64 (((k + 1 : Nat) : Int))) := (World.cell?_of_block (a := ⟨B11, 0, none⟩) (hblk.trans hblk2)).trans j0
                  have k1 : w10.cell? ⟨B11, 1, none⟩ = some (.int .i64 nx) := (World.cell?_of_block (a := ⟨B11, 1, none⟩) (hblk.trans hblk2)).trans j1
                  have k2 : w10.cell? ⟨B11, 2, none⟩ = some (.int .i64 (p.pick k : Int)) := (World.cell?_of_block (a := ⟨B11, 2, none⟩) (hblk.trans hblk2)).trans j2
                  have t0 := rdB hbA hsz4 (far HG9.out d0 hne)
                  have t1 := rdB hbA hsz4 (far HG9.out d1 hne)
                  have t2 := rdB hbA hsz4 (far HG9.out d2 hne)
                  have v0 := frB hbA hsz4 (fr_far HG9.out d0 g0 hne)
                  have v1 := frB hbA hsz4 (fr_far HG9.out d1 g1 hne)
                  have v2 := frB hbA hsz4 (fr_far HG9.out d2 g2 hne)
                  have hBlt : bm + 1 < B11 := by omega
                  have HM10 := hid (show MemoF p w10 bm by
                    obtain ⟨M, h1, h2⟩ := HM9.out
                    exact ⟨M, MapF.below h1 hbA (by omega), h2⟩)
                  have HO10 := hid hown10
                  have HB10 := hid (HB9.out.trans (hbA.mono (by omega)))
                  have hsz10 : w4.heap.size ≤ w10.heap.size := Nat.le_trans hsz9 hbA.size
                  clear hown10 hgrow10 hblk hblk2 hbA hown9 a0 a1 a2 a3 a4 a5 j0 j1 j2
                  go_wp2_with fail
                  have hs3 := set3 (.int .i64 ((k : Int) + 1)) (.int .i64 nx) (.int .i64 (p.pick k : Int)) t0 t1 t2
                  obtain ⟨s0, s1, s2⟩ := hs3
                  have hps2 : p.path (k + 1) = (nx, (p.pick k : Int)) := by rw [HPS.out, HNX.out]
                  refine ⟨⟨k + 1, by omega, by rw [hps2, HY.out], ?_, ?_, s0, by rw [hps2]; exact s1, by rw [hps2]; exact s2, by simpa using v0, by simpa using v1, by simpa using v2, by simpa using hsz10, ?_⟩, ?_⟩
                  · rw [plan_succ, List.map_append]
                    exact ownsRow_setCell_below (ownsRow_setCell_below (ownsRow_setCell_below HO10.out (a := ⟨bm + 1, 0, none⟩) hsz4 _) (a := ⟨bm + 1, 1, none⟩) hsz4 _) (a := ⟨bm + 1, 2, none⟩) hsz4 _
                  · exact ((HM10.out.set hne.symm).set hne.symm).set hne.symm
                  · have hbb : w.heap.size + 1 ≤ bm + 1 := by omega
                    exact ((HB10.out.setCell (p := ⟨bm + 1, 0, none⟩) hbb _).setCell (p := ⟨bm + 1, 1, none⟩) hbb _).setCell (p := ⟨bm + 1, 2, none⟩) hbb _
                  · rw [cellN_eq (k := k + 1) s0, HCN.out]; omega
              · have hlet : decide (nx > p.high) = true := by simp; omega
                have hnp : n < p.pick k := by
                  rcases HPK2.out with ⟨h, _⟩ | ⟨_, h, _⟩
                  · exact h
                  · omega
                go_wp2_with fail
                exact ⟨⟨n + 1, by omega, by go_num, rfl, rfl, HM7.out, HG7.out⟩, by simp [intOf]; omega⟩
        · have hltt : decide ((k : Int) < (p.loads.length : Int)) = false := by simp; omega
          obtain rfl : k = p.loads.length := by omega
          clear HCN
          go_wp2_with fail
          go_ret3
          exact ⟨_, by rw [HCC.out.1, HCC.out.2.2]; rfl, by rw [HCC.out.2.1]; exact own_SlI (l := p.plan p.loads.length) HOW.out (by rw [plan_length]; omega), HB0.out.trans (HB.out.mono (by omega))⟩
end Go.Proofs.YtjjphiecjhijiaaDoor
