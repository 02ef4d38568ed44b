import Derived.Test.YtjjphiecjhijiaaDoorO1
namespace Go.Proofs.YtjjphiecjhijiaaDoor
open Go.RowKit Go.Maps

set_option maxHeartbeats 16000000 in
/-- plant.laid of a plant that is valid. -/
theorem laid_any (v : Value) (p : PlantD) (w : World) (hp : PlantV w v p) (hok : p.ok = true) :
    Calls Tryd.prog 36 #[v] w fun e w' => (∃ b, e = .returned (.tuple #[.pointer (some ⟨b, 0, none⟩), .bool true]) ∧ w.heap.size ≤ b ∧ PObj w' b p) ∧ Below w.heap.size w w' := by
  have HP := hid hp
  have HO := hid hok
  have ho := ok_Ok hok
  have hfew := ho.few
  obtain ⟨vl, vp, vm, rfl, hL, hP, hM⟩ := hp
  obtain ⟨am, cm, rfl, hml, hmc⟩ := hM.open
  have HM := hid hmc
  clear hmc hL hP hM hok
  obtain ⟨i0, hi, hz0, hz1, hz2⟩ := info_parts info3
  go_enter Tryd.func36, Tryd.ntmps36
  go_upto_region 1 with fail
  obtain ⟨W0, e0, hz0', hb0, hc0, hf0⟩ := box_new w #[.int .i64 p.heat, .int .i64 p.low, .int .i64 p.high, vl, vp, .slice am p.machines.length cm] 25
  rw [e0]
  clear e0
  go_wp2_with fail
  refine (checkPlant_any _ p _ (HP.out.below hb0)).mono ?_
  rw [HO.out]
  rintro e w1 ⟨rfl, hb1⟩
  have hlt1 : w.heap.size < W0.heap.size := by omega
  have hsz1 := hb1.size
  have d0 : w1.cell? ⟨w.heap.size, 0, none⟩ = some (.int .i64 p.heat) := rdB hb1 hlt1 (hc0 0)
  have d1 : w1.cell? ⟨w.heap.size, 1, none⟩ = some (.int .i64 p.low) := rdB hb1 hlt1 (hc0 1)
  have d2 : w1.cell? ⟨w.heap.size, 2, none⟩ = some (.int .i64 p.high) := rdB hb1 hlt1 (hc0 2)
  have d3 : w1.cell? ⟨w.heap.size, 3, none⟩ = some vl := rdB hb1 hlt1 (hc0 3)
  have d4 : w1.cell? ⟨w.heap.size, 4, none⟩ = some vp := rdB hb1 hlt1 (hc0 4)
  have d5 : w1.cell? ⟨w.heap.size, 5, none⟩ = some (.slice am p.machines.length cm) := rdB hb1 hlt1 (hc0 5)
  have hbw1 : Below w.heap.size w w1 := hb0.trans (hb1.mono (by omega))
  clear hc0 hf0
  go_upto_region 4 with fail
  obtain ⟨W2, e2, hz2', hb2, hc2, hf2⟩ := box_new w1 #[.int .i64 p.heat, .int .i64 p.low, .int .i64 p.high, vl, vp, .slice am p.machines.length cm, .slice none 0 0, .slice none 0 0] 128
  have hX : W2.heap[w1.heap.size]? = some (.cells #[.int .i64 p.heat, .int .i64 p.low, .int .i64 p.high, vl, vp, .slice am p.machines.length cm, .slice none 0 0, .slice none 0 0] 128 (0, 0)) := by rw [← e2]; exact heap_alloc_new _ _
  rw [e2]
  clear e2 hc2 hf2
  have hws : w.heap.size < w1.heap.size := by omega
  have d5' := rdB hb2 hws d5
  have hpw := pow_small (m := p.m) hfew
  have hwp : IntKind.u64.wrap ((2 : Int) ^ p.machines.length) = ((2 ^ p.m : Nat) : Int) := wrap_pow (i := p.machines.length) (by omega)
  generalize hqe : 2 ^ p.m = q at *
  have HQ := hid hqe
  clear hqe
  go_wp2_with fail
  go_loopw [20] (fun s wr => ∃ (k : Nat) (vc vw : Value), k ≤ q ∧ s = .int .u64 k ∧ wr.heap[w1.heap.size]? = some (.cells #[.int .i64 p.heat, .int .i64 p.low, .int .i64 p.high, vl, vp, .slice am p.machines.length cm, vc, vw] 128 (0, 0)) ∧
      wr.ownsRow W2.heap.size 3 1 vc k ((p.coldL k).map (.int .i64)) ∧ wr.ownsRow W2.heap.size 3 1 vw k ((p.powerL k).map (.int .i64)) ∧ (vc.ownBlock = none ∨ vc.ownBlock ≠ vw.ownBlock) ∧ (vw.ownBlock = none ∨ vw.ownBlock ≠ vc.ownBlock) ∧ Below w1.heap.size w1 wr) (fun s _ => q - (intOf s).toNat)
  case atStart => exact ⟨0, .slice none 0 0, .slice none 0 0, by omega, rfl, hX, World.ownsRow_nil _ _ _ _, World.ownsRow_nil _ _ _ _, .inl rfl, .inl rfl, hb2⟩
  case round =>
    obtain ⟨k, vc, vw, hk, rfl, hXr, hownc, hownw, hne1, hne2, hb⟩ := hrel
    obtain ⟨wo, rfl⟩ : ∃ wo : World, wo = wr := ⟨_, rfl⟩
    have HXR := hid hXr
    have HOC := hid hownc
    have HOW := hid hownw
    have HN1 := hid hne1
    have HN2 := hid hne2
    have hXlt : w1.heap.size < wo.heap.size := (Array.getElem?_eq_some_iff.1 hXr).1
    clear hXr hownc hownw hne1 hne2 hX
    have f5 := rdB hb hws d5
    have hbw := hbw1.trans (hb.mono (by omega))
    clear d0 d1 d2 d3 d4 d5 d5'
    by_cases hlt : k < q
    · go_wp2_with fail
      go_loopw [6, 7, 26] (fun c pw j wi => ∃ i : Nat, i ≤ p.machines.length ∧ j = .int .i64 i ∧ c = .int .i64 (sumTo (p.coldF k) i) ∧ pw = .int .i64 (sumTo (p.powerF k) i) ∧ Below wo.heap.size wo wi) (fun _ _ j _ => p.machines.length - (intOf j).toNat)
      case atStart => exact ⟨0, Nat.zero_le _, rfl, rfl, rfl, Below.refl _ _⟩
      case round =>
        obtain ⟨i, hi', rfl, rfl, rfl, hbi⟩ := hrel
        have hq1 := sumTo_bd (p.coldF k) 1000000 p.m (fun i _ => Ok_coldF ho k i) i hi'
        have hq2 := sumTo_bd (p.powerF k) 1000000 p.m (fun i _ => Ok_powerF ho k i) i hi'
        by_cases hil : i < p.machines.length
        · obtain ⟨b, off, rfl, hbl, hc⟩ := HM.out i hil
          obtain ⟨c0, c1, c2⟩ := hc i hil
          rw [p.mach_get i hil] at c0 c1 c2
          have hbwi := hbw.trans (hbi.mono (by omega))
          have c0' := rdB hbwi hbl c0
          have c1' := rdB hbwi hbl c1
          have c2' := rdB hbwi hbl c2
          clear hc HM c0 c1 c2
          have hcb := ho.cold i
          have hpb := ho.power i
          have HS1 := hid (show sumTo (p.coldF k) (i + 1) = sumTo (p.coldF k) i + (if k.testBit i then (p.mach i).cold else 0) from rfl)
          have HS2 := hid (show sumTo (p.powerF k) (i + 1) = sumTo (p.powerF k) i + (if k.testBit i then (p.mach i).power else 0) from rfl)
          generalize p.mach i = m at *
          generalize sumTo (p.coldF k) i = s1 at *
          generalize sumTo (p.powerF k) i = s2 at *
          go_wp2_with fail
          refine (has_m k i _ (by omega) (by omega)).mono ?_
          rintro e w' ⟨rfl, rfl⟩
          have hbn : Below wo.heap.size wo (wr.alloc (.cells #[.int .i64 m.cold, .int .i64 m.power, .int .i64 m.start] 35)) := hbi.alloc hbi.size _
          cases hbit : k.testBit i
          · go_wp2_with fail
            go_roundw
            case rel => exact ⟨i + 1, by omega, by go_num, by rw [HS1.out, hbit]; simp, by rw [HS2.out, hbit]; simp, hbn⟩
            case measure => simp [intOf]; omega
          · go_wp2_with fail
            go_quiet (fail)
            go_wp2_with fail
            go_roundw
            case rel => exact ⟨i + 1, by omega, by go_num, by rw [HS1.out, hbit]; simp, by rw [HS2.out, hbit]; simp, drewNB hbn _⟩
            case measure => simp [intOf]; omega
        · have HI := hid (show i = p.m by unfold PlantD.m; omega)
          go_wp2_with fail
          have g0 := hid (own_below HOC.out hbi)
          have g1 := hid (own_below HOW.out hbi)
          have gX : wr.heap[w1.heap.size]? = some (.cells #[.int .i64 p.heat, .int .i64 p.low, .int .i64 p.high, vl, vp, .slice am p.machines.length cm, vc, vw] 128 (0, 0)) := (hbi.block _ hXlt).trans HXR.out
          have GX := hid gX
          have e6 : wr.cell? ⟨w1.heap.size, 6, none⟩ = some vc := cell_of_row wr _ 6 _ _ _ gX
          have e7 : wr.cell? ⟨w1.heap.size, 7, none⟩ = some vw := cell_of_row wr _ 7 _ _ _ gX
          have ef6 : wr.frozen? ⟨w1.heap.size, 6, none⟩ = false := frozen_of_row wr _ 6 _ _ gX
          have ef7 : wr.frozen? ⟨w1.heap.size, 7, none⟩ = false := frozen_of_row wr _ 7 _ _ gX
          clear gX
          have hBX : w1.heap.size < W2.heap.size := by omega
          have hW2 : W2.heap.size ≤ wr.heap.size := by have := hbi.size; omega
          have hk16 : k ≤ 16 := by omega
          have hXw : w1.heap.size < wr.heap.size := by omega
          generalize hs1 : sumTo (p.coldF k) i = C at *
          generalize hs2 : sumTo (p.powerF k) i = D at *
          have HS1 := hid hs1
          have HS2 := hid hs2
          clear hs1 hs2
          go_region_law (first
            | (refine step_append_lies _ rfl (.tmp 48) (.tmp 50) 22 rfl W2.heap.size 3 i0 (.int .i64 0) 1 8 Tryd.underlying22 hi hz0 hz1 hz2 rfl (by decide) vc k _ rfl (own_below g0.out (by repeat first | exact Below.refl _ _ | refine Below.drew ?_ | refine Below.alloc ?_ (by simp) _)) _ 1 1 [.int .i64 C] rfl rfl (by intro j u hj; match j, hj with | 0, hj => simp at hj; subst hj; simp [Addr.add, go_sem]) (ones _ rfl) (by decide) (by unfold maxLen; omega) (by omega) (by first | omega | (simp; omega)) _ rfl ?_; intro g5 cap5 w5 h5 hg5 hl5 hlt5; have kX := grown_blk (wr := wr) (by repeat first | exact Below.refl _ _ | refine Below.drew ?_ | refine Below.alloc ?_ (by simp) _) hg5 GX.out (own_ne g0.out hBX); have kw := grown_own (wr := wr) (by repeat first | exact Below.refl _ _ | refine Below.drew ?_ | refine Below.alloc ?_ (by simp) _) hg5 g1.out HN2.out; have kx := (Array.getElem?_eq_some_iff.1 kX).1; have k6 : w5.cell? ⟨w1.heap.size, 6, none⟩ = some vc := cell_of_row w5 _ 6 _ _ _ kX; have k7 : w5.cell? ⟨w1.heap.size, 7, none⟩ = some vw := cell_of_row w5 _ 7 _ _ _ kX; have KX := hid kX; clear kX; have n5 := fun (b : Nat) (v : Value) (hbb : wr.heap.size ≤ b) hv => hg5.cell (a := ⟨b, 0, none⟩) (v := v) hv (own_new g0.out hbb); have N5 := hid n5; clear n5; have hsz5 := hg5.size; simp at hsz5)
            | (have n5 := N5.out; clear N5; refine step_append_lies _ rfl (.tmp 55) (.tmp 57) 22 rfl W2.heap.size 3 i0 (.int .i64 0) 1 8 Tryd.underlying22 hi hz0 hz1 hz2 rfl (by decide) vw k _ rfl (own_below kw (by repeat first | exact Below.refl _ _ | refine Below.drew ?_ | refine Below.alloc ?_ (by simp) _)) _ 1 1 [.int .i64 D] rfl rfl (by intro j u hj; match j, hj with | 0, hj => simp at hj; subst hj; first | (show w5.cell? ⟨_, 0, none⟩ = _; refine n5 _ _ ?_ ?_ <;> simp [go_sem]) | (simp [Addr.add, go_sem])) (ones _ rfl) (by decide) (by unfold maxLen; omega) (by omega) (by first | omega | (simp; omega)) _ rfl ?_; intro g6 cap6 w6 h6 hg6 hl6 hlt6; have kX6 := grown_blk (wr := w5) (by repeat first | exact Below.refl _ _ | refine Below.drew ?_ | refine Below.alloc ?_ (by simp) _) hg6 KX.out (own_ne kw hBX); have q6 : w6.cell? ⟨w1.heap.size, 6, none⟩ = some vc := cell_of_row w6 _ 6 _ _ _ kX6; have q7 : w6.cell? ⟨w1.heap.size, 7, none⟩ = some vw := cell_of_row w6 _ 7 _ _ _ kX6; have qf6 : w6.frozen? ⟨w1.heap.size, 6, none⟩ = false := frozen_of_row w6 _ 6 _ _ kX6; have qf7 : w6.frozen? ⟨w1.heap.size, 7, none⟩ = false := frozen_of_row w6 _ 7 _ _ kX6; have KX6 := hid kX6; clear kX6; have hsz6 := hg6.size; (try simp at hsz6))
            )
          all_goals (have R := two_rows (Bd := w1.heap.size) (Wd := w1) (wr := wr) (by repeat first | exact Below.refl _ _ | refine Below.drew ?_ | refine Below.alloc ?_ (by simp) _) hg5 hl5 hlt5 h5 (w5 := w5) (by repeat first | exact Below.refl _ _ | refine Below.drew ?_ | refine Below.alloc ?_ (by simp) _) hg6 hl6 h6 g0.out g1.out HN1.out KX6.out hBX (hb.trans (hbi.mono (by omega))) (Nat.le_refl _) (by omega) _ (by first | exact .inl rfl | exact .inr rfl); have RR := hid R; clear R h5 hg5 hl5 hlt5 kw kx k6 k7 KX h6 hg6 hl6 hlt6 q6 q7 qf6 qf7 KX6 e6 e7 ef6 ef7 n5 hsz5 hsz6)
          all_goals go_wp2_with fail
          all_goals go_roundw
          all_goals first
            | (simp [intOf]; omega)
            | (obtain ⟨r1, r2, r3, r4, r5, r6⟩ := RR.out; exact ⟨k + 1, _, _, by omega, by go_num, r1, by rw [coldL_succ, List.map_append]; have e := HS1.out; rw [HI.out] at e; rw [show p.cool k = C from e]; exact r2, by rw [powerL_succ, List.map_append]; have e := HS2.out; rw [HI.out] at e; rw [show p.power k = D from e]; exact r3, r4, r5, r6⟩)
    · have HK := hid (show k = q by omega)
      go_wp2_with fail
      go_ret2
      refine ⟨⟨w1.heap.size, rfl, by omega, ?_⟩, hbw⟩
      have hX := HXR.out
      have hown1 := HOC.out
      have hown2 := HOW.out
      have hkq := HK.out
      subst hkq
      have hq := HQ.out
      rw [← hq] at hown1 hown2
      have hsz : 2 ^ p.m ≤ 16 := by omega
      refine ⟨vl, vp, _, vc, vw, cell_of_row _ _ 0 _ _ _ hX, cell_of_row _ _ 1 _ _ _ hX, cell_of_row _ _ 2 _ _ _ hX, cell_of_row _ _ 3 _ _ _ hX, cell_of_row _ _ 4 _ _ _ hX, cell_of_row _ _ 5 _ _ _ hX, cell_of_row _ _ 6 _ _ _ hX, cell_of_row _ _ 7 _ _ _ hX, ?_, ?_, ?_, own_SlI hown1 (by rw [coldL_length]; omega), own_SlI hown2 (by rw [powerL_length]; omega)⟩
      · obtain ⟨_, _, _, e, h1, h2, h3⟩ := HP.out.below hbw
        cases e; exact h1
      · obtain ⟨_, _, _, e, h1, h2, h3⟩ := HP.out.below hbw
        cases e; exact h2
      · obtain ⟨_, _, _, e, h1, h2, h3⟩ := HP.out.below hbw
        cases e; exact h3
end Go.Proofs.YtjjphiecjhijiaaDoor
