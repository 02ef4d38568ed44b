/- TopWeight walked. -/
import Derived.Test.YtolnhicngepnnaaGreatV4
import Derived.Test.YtolnhicngepnnaaGreatV1
namespace Go.Proofs.YtolnhicngepnnaaGreat
open Go.RowKit

theorem slow9_even (p q : Nat) (g : GrainD) (pv qv : Value) (f : Nat) (hp : p ≤ 1000) (hq : q ≤ 1000) (hf : f < 4294967296) (w : World) (hat : IceAt w (evenI p q) pv qv) :
    Calls Tryz.prog 9 #[iceV (-6553600000) (-6553600000) 6553600000 3 3 pv qv, g.v, .agg #[.int .i64 0, .int .i64 (-(f : Int))]] w fun e w' => e = .returned (.tuple #[.int .i64 (if g.ok then (slowE p q g : Int) else 0), .int .i64 (if g.ok then 0 else 2)]) ∧ Below w.heap.size w w' := by
  cases hg : g.ok with
  | true =>
    have h := slow9_at (evenI p q) g pv qv 0 (-(f : Int)) w (evenI_ok p q hp hq) hg (by simp [spotOk, inB]; omega) hat
    obtain ⟨e1, e2⟩ := even_peb p q (-(f : Int)) (by omega) (by omega)
    rw [show slowI (evenI p q) g 0 (-(f : Int)) = slowE p q g by unfold slowI slowE; rw [e1, e2]] at h
    exact h
  | false =>
    have hr : rightR (-6553600000) (-6553600000) 6553600000 3 3 (List.replicate 9 (p : Int)) (List.replicate 9 (q : Int)) g.fl g.kn g.a g.b g.c [(0, -(f : Int))] = false := by
      unfold rightR
      rw [show grainOk g.fl g.kn g.a g.b g.c = g.ok from rfl, hg]
      simp
    exact slow13_bad (-6553600000) (-6553600000) 6553600000 3 3 0 (-(f : Int)) pv qv (List.replicate 9 (p : Int)) (List.replicate 9 (q : Int)) g.fl g.kn g.a g.b g.c w hat.1 hat.2 hr
set_option maxRecDepth 100000 in
set_option maxHeartbeats 8000000 in
theorem weight3_any (g : GrainD) (pe po f far : Nat) (hpe : pe < 65536) (hpo : po < 65536) (hf : f < 4294967296) (hfar : far < 4294967296) (w : World) :
    Calls Tryz.prog 3 #[g.v, .int .u16 (pe : Int), .int .u16 (po : Int), .int .u32 (f : Int), .int .u32 (far : Int)] w fun e w' => e = .returned (.bool true) ∧ Below w.heap.size w w' := by
  have HS := hid (fun U => sheet7_any pe po hpe hpo U)
  obtain ⟨p, hp⟩ : ∃ p, pe % 1001 = p := ⟨_, rfl⟩
  obtain ⟨q, hq⟩ : ∃ q, po % 1001 = q := ⟨_, rfl⟩
  rw [hp, hq] at HS
  have hp1 : p ≤ 1000 := by omega
  have hq1 : q ≤ 1000 := by omega
  obtain ⟨fr, hfr⟩ : ∃ k, far % 262144000 = k := ⟨_, rfl⟩
  have hfr1 : fr < 262144000 := by omega
  have HFR := hid (show (far : Int) % 262144000 = (fr : Int) by omega)
  have HNF := hid (show (f : Int) % 6553600000 = (f : Int) by omega)
  have HSND := hid (fun U => sound_any U)
  have HSL := hid (fun pv qv U hat => slow9_even p q g pv qv f hp1 hq1 hf U hat)
  have HWB := hid (fun hg pv qv U hat => weight8_bad p q g pv qv f fr hp1 hq1 hf hfr1 U hat hg)
  have HWG := hid (fun hg pv qv U hat => weight8_even p q g pv qv f fr hp1 hq1 hf hfr1 U hat hg)
  have HB0 := hid (show w.heap.size + 1 = (w.alloc (.cells #[.int .i64 g.fl, .int .i64 g.kn, .int .i64 g.a, .int .i64 g.b, .int .i64 g.c] 24)).heap.size by simp)
  have hw1 : IntKind.i64.wrap (f : Int) = (f : Int) := by rw [IntKind.wrap_i64]; omega
  have hw2 : IntKind.i64.wrap (-(f : Int)) = -(f : Int) := by rw [IntKind.wrap_i64]; omega
  have hw3 : IntKind.i64.wrap (-(f : Int) + 1) = -(f : Int) + 1 := by rw [IntKind.wrap_i64]; omega
  have hw4 : IntKind.i64.wrap (far : Int) = (far : Int) := by rw [IntKind.wrap_i64]; omega
  have hw5 : IntKind.i64.wrap (-(f : Int) + 1 + (fr : Int)) = -(f : Int) + 1 + (fr : Int) := by rw [IntKind.wrap_i64]; omega
  have HF := hid (And.intro hf (And.intro hfr1 (And.intro hp1 hq1)))
  clear hpe hpo hf hfar hp hq hfr hp1 hq1 hfr1
  obtain ⟨W0, hW0, hz0, hb0, -, -⟩ := box_new w #[.int .i64 g.fl, .int .i64 g.kn, .int .i64 g.a, .int .i64 g.b, .int .i64 g.c] 24
  have hG0 : W0.heap[w.heap.size]? = some (.cells #[.int .i64 g.fl, .int .i64 g.kn, .int .i64 g.a, .int .i64 g.b, .int .i64 g.c] 24 (0, 0)) := by rw [← hW0]; exact heap_alloc_new w _
  have HG0 := hid hG0
  have HX0 := hid hb0
  have HW0 := hid hW0
  clear hW0 hz0 hb0 hG0 HB0
  show Calls Tryz.prog 3 #[grainV g.fl g.kn g.a g.b g.c, _, _, _, _] w _
  go_enter Tryz.func3, Tryz.ntmps3
  go_upto_region 1 with fail
  rw [HW0.out]
  clear HW0
  go_wp2_with fail
  refine (HS.out _).mono ?_
  rintro e w1 ⟨pv, qv, rfl, hpv, hqv, hb1⟩
  have HG1 := hid (carry HG0.out hb1)
  have HX1 := hid (HX0.out.trans (hb1.mono HX0.out.size))
  have HAT1 := hid (show IceAt w1 (evenI p q) pv qv from ⟨hpv, hqv⟩)
  obtain ⟨pa, pc, rfl, -, -⟩ := hpv.open
  obtain ⟨qa, qc, rfl, -, -⟩ := hqv.open
  clear hpv hqv hb1 HG0 HX0 HS
  rw [List.length_replicate, List.length_replicate] at *
  go_upto_region 2 with fail
  obtain ⟨T, hT⟩ : ∃ T, w1.heap.size = T := ⟨_, rfl⟩
  have hi2 := heap_alloc_new w1 (.cells #[.int .i64 (-6553600000), .int .i64 (-6553600000), .int .i64 6553600000, .int .i64 3, .int .i64 3, .slice pa 9 pc, .slice qa 9 qc] 31)
  have HG2 := hid (carryA HG1.out (.cells #[.int .i64 (-6553600000), .int .i64 (-6553600000), .int .i64 6553600000, .int .i64 3, .int .i64 3, .slice pa 9 pc, .slice qa 9 qc] 31))
  have HX2 := hid (HX1.out.alloc HX1.out.size (.cells #[.int .i64 (-6553600000), .int .i64 (-6553600000), .int .i64 6553600000, .int .i64 3, .int .i64 3, .slice pa 9 pc, .slice qa 9 qc] 31))
  have HAT2 := hid (HAT1.out.below ((Below.refl w1.heap.size w1).alloc (Nat.le_refl _) (.cells #[.int .i64 (-6553600000), .int .i64 (-6553600000), .int .i64 6553600000, .int .i64 3, .int .i64 3, .slice pa 9 pc, .slice qa 9 qc] 31)))
  rw [hT] at hi2 ⊢
  have HI2 := hid hi2
  clear hT hi2 HG1 HX1 HAT1
  generalize w1.alloc (.cells #[.int .i64 (-6553600000), .int .i64 (-6553600000), .int .i64 6553600000, .int .i64 3, .int .i64 3, .slice pa 9 pc, .slice qa 9 qc] 31) = w2 at *
  go_upto_region 3 with fail
  rw [HNF.out]
  obtain ⟨R, hR⟩ : ∃ R, w2.heap.size = R := ⟨_, rfl⟩
  have hs3 := heap_alloc_new w2 (.cells #[.int .i64 0, .int .i64 (-(f : Int))] 28)
  have HG3 := hid (carryA HG2.out (.cells #[.int .i64 0, .int .i64 (-(f : Int))] 28))
  have HI3 := hid (carryA HI2.out (.cells #[.int .i64 0, .int .i64 (-(f : Int))] 28))
  have HX3 := hid (HX2.out.alloc HX2.out.size (.cells #[.int .i64 0, .int .i64 (-(f : Int))] 28))
  have HAT3 := hid (HAT2.out.below ((Below.refl w2.heap.size w2).alloc (Nat.le_refl _) (.cells #[.int .i64 0, .int .i64 (-(f : Int))] 28)))
  rw [hR] at hs3 ⊢
  have HS3 := hid hs3
  clear hR hs3 HG2 HX2 HAT2 HI2
  generalize w2.alloc (.cells #[.int .i64 0, .int .i64 (-(f : Int))] 28) = w3 at *
  have qs1 := cellN (i := 1) (v := .int .i64 (-(f : Int))) HS3.out rfl
  go_upto_region 4 with fail
  rw [HFR.out]
  clear qs1
  have qi0 := cellN (i := 0) (v := .int .i64 (-6553600000)) HI3.out rfl
  have qi1 := cellN (i := 1) (v := .int .i64 (-6553600000)) HI3.out rfl
  have qi2 := cellN (i := 2) (v := .int .i64 6553600000) HI3.out rfl
  have qi3 := cellN (i := 3) (v := .int .i64 3) HI3.out rfl
  have qi4 := cellN (i := 4) (v := .int .i64 3) HI3.out rfl
  have qi5 := cellN (i := 5) (v := .slice pa 9 pc) HI3.out rfl
  have qi6 := cellN (i := 6) (v := .slice qa 9 qc) HI3.out rfl
  have qg0 := cellN (i := 0) (v := .int .i64 g.fl) HG3.out rfl
  have qg1 := cellN (i := 1) (v := .int .i64 g.kn) HG3.out rfl
  have qg2 := cellN (i := 2) (v := .int .i64 g.a) HG3.out rfl
  have qg3 := cellN (i := 3) (v := .int .i64 g.b) HG3.out rfl
  have qg4 := cellN (i := 4) (v := .int .i64 g.c) HG3.out rfl
  have qs0 := cellN (i := 0) (v := .int .i64 0) HS3.out rfl
  have qs1 := cellN (i := 1) (v := .int .i64 (-(f : Int))) HS3.out rfl
  rw [show wrap64 (-(f : Int) + 1 + (fr : Int)) = -(f : Int) + 1 + (fr : Int) by (unfold wrap64; have := HF.out; omega)]
  clear hw1 hw2 hw3 hw4 hw5
  generalize hy0 : -(f : Int) = y0 at *
  have HY0 := hid hy0
  clear hy0
  obtain ⟨tt, htt⟩ : ∃ tt, y0 + 1 + (fr : Int) = tt := ⟨_, rfl⟩
  rw [htt] at HWB HWG ⊢
  have HTT := hid htt
  clear htt
  cases hg : g.ok with
  | false =>
    have HW := hid (HWB.out hg)
    rw [hg] at HSL
    clear hg HWG HWB
    go_wp2_with fail
    refine (HW.out _ _ _ HAT3.out).mono ?_
    rintro e w4 ⟨rfl, hb4⟩
    have HG4 := hid (carry HG3.out hb4)
    have HI4 := hid (carry HI3.out hb4)
    have HS4 := hid (carry HS3.out hb4)
    have HAT4 := hid (HAT3.out.below hb4)
    have HX4 := hid (HX3.out.trans (hb4.mono HX3.out.size))
    clear qi0 qi1 qi2 qi3 qi4 qi5 qi6 qg0 qg1 qg2 qg3 qg4 qs0 qs1
    clear hb4 HG3 HI3 HS3 HAT3 HX3
    have qi0 := cellN (i := 0) (v := .int .i64 (-6553600000)) HI4.out rfl
    have qi1 := cellN (i := 1) (v := .int .i64 (-6553600000)) HI4.out rfl
    have qi2 := cellN (i := 2) (v := .int .i64 6553600000) HI4.out rfl
    have qi3 := cellN (i := 3) (v := .int .i64 3) HI4.out rfl
    have qi4 := cellN (i := 4) (v := .int .i64 3) HI4.out rfl
    have qi5 := cellN (i := 5) (v := .slice pa 9 pc) HI4.out rfl
    have qi6 := cellN (i := 6) (v := .slice qa 9 qc) HI4.out rfl
    have qg0 := cellN (i := 0) (v := .int .i64 g.fl) HG4.out rfl
    have qg1 := cellN (i := 1) (v := .int .i64 g.kn) HG4.out rfl
    have qg2 := cellN (i := 2) (v := .int .i64 g.a) HG4.out rfl
    have qg3 := cellN (i := 3) (v := .int .i64 g.b) HG4.out rfl
    have qg4 := cellN (i := 4) (v := .int .i64 g.c) HG4.out rfl
    have qs0 := cellN (i := 0) (v := .int .i64 0) HS4.out rfl
    have qs1 := cellN (i := 1) (v := .int .i64 y0) HS4.out rfl
    go_wp2_with fail
    refine (HSL.out _ _ _ HAT4.out).mono ?_
    rintro e w5 ⟨rfl, hb5⟩
    have HX5 := hid (HX4.out.trans (hb5.mono HX4.out.size))
    clear qi0 qi1 qi2 qi3 qi4 qi5 qi6 qg0 qg1 qg2 qg3 qg4 qs0 qs1
    clear hb5
    go_wp2_with fail
    refine (HSND.out _).mono ?_
    rintro e w6 ⟨rfl, hb6⟩
    go_wp2_with fail
    go_ret
    exact ⟨rfl, HX5.out.trans (hb6.mono HX5.out.size)⟩
  | true =>
    have HW := hid (HWG.out hg)
    have HGK := hid hg
    rw [hg] at HSL
    have hbb := slowE_le p q g hg
    clear hg HWG HWB
    go_wp2_with fail
    refine (HW.out _ _ _ HAT3.out).mono ?_
    rintro e w4 ⟨rt, rfl, ⟨hge, hrb⟩, hb4⟩
    have HGE := hid hge
    have HRB := hid hrb
    clear hrb
    have HG4 := hid (carry HG3.out hb4)
    have HI4 := hid (carry HI3.out hb4)
    have HS4 := hid (carry HS3.out hb4)
    have HAT4 := hid (HAT3.out.below hb4)
    have HX4 := hid (HX3.out.trans (hb4.mono HX3.out.size))
    clear qi0 qi1 qi2 qi3 qi4 qi5 qi6 qg0 qg1 qg2 qg3 qg4 qs0 qs1
    clear hb4 HG3 HI3 HS3 HAT3 HX3 hge
    have qi0 := cellN (i := 0) (v := .int .i64 (-6553600000)) HI4.out rfl
    have qi1 := cellN (i := 1) (v := .int .i64 (-6553600000)) HI4.out rfl
    have qi2 := cellN (i := 2) (v := .int .i64 6553600000) HI4.out rfl
    have qi3 := cellN (i := 3) (v := .int .i64 3) HI4.out rfl
    have qi4 := cellN (i := 4) (v := .int .i64 3) HI4.out rfl
    have qi5 := cellN (i := 5) (v := .slice pa 9 pc) HI4.out rfl
    have qi6 := cellN (i := 6) (v := .slice qa 9 qc) HI4.out rfl
    have qg0 := cellN (i := 0) (v := .int .i64 g.fl) HG4.out rfl
    have qg1 := cellN (i := 1) (v := .int .i64 g.kn) HG4.out rfl
    have qg2 := cellN (i := 2) (v := .int .i64 g.a) HG4.out rfl
    have qg3 := cellN (i := 3) (v := .int .i64 g.b) HG4.out rfl
    have qg4 := cellN (i := 4) (v := .int .i64 g.c) HG4.out rfl
    have qs0 := cellN (i := 0) (v := .int .i64 0) HS4.out rfl
    have qs1 := cellN (i := 1) (v := .int .i64 y0) HS4.out rfl
    go_wp2_with fail
    refine (HSL.out _ _ _ HAT4.out).mono ?_
    rintro e w5 ⟨he, hb5⟩
    obtain ⟨b, hb⟩ : ∃ b, slowE p q g = b := ⟨_, rfl⟩
    rw [hb] at he hbb
    obtain rfl : e = .returned (.tuple #[.int .i64 (b : Int), .int .i64 0]) := he
    have HBE := hid hb
    have HG5 := hid (carry HG4.out hb5)
    have HI5 := hid (carry HI4.out hb5)
    have HS5 := hid (carry HS4.out hb5)
    have HAT5 := hid (HAT4.out.below hb5)
    have HX5 := hid (HX4.out.trans (hb5.mono HX4.out.size))
    clear qi0 qi1 qi2 qi3 qi4 qi5 qi6 qg0 qg1 qg2 qg3 qg4 qs0 qs1
    clear hb5 HG4 HI4 HS4 HAT4 HX4 hb HSL HW
    have bad : ∀ (W : World), Below w.heap.size w W → ∀ (e : Ending) (W' : World), e = .returned (.bool true) ∧ Below W.heap.size W W' → Below w.heap.size w W' := fun W h e W' h2 => h.trans (h2.2.mono h.size)
    by_cases hb0 : b = 0
    · subst hb0
      go_wp2_with fail
      refine (HSND.out _).mono ?_
      rintro e w6 ⟨rfl, hb6⟩
      go_wp2_with fail
      go_ret
      exact ⟨rfl, HX5.out.trans (hb6.mono HX5.out.size)⟩
    · have hrtw : IntKind.i64.wrap ((rt : Int) + (b : Int)) = (rt : Int) + (b : Int) := by rw [IntKind.wrap_i64]; have := HRB.out; omega
      by_cases hbig : (65536000 : Int) < (rt : Int) + (b : Int)
      · go_wp2_with fail
        refine (HSND.out _).mono ?_
        rintro e w6 ⟨rfl, hb6⟩
        go_wp2_with fail
        go_ret
        exact ⟨rfl, HX5.out.trans (hb6.mono HX5.out.size)⟩
      · have hm : Mov.ok ⟨0, y0, 0, (rt : Int) + (b : Int), 0⟩ = true := by
          have h1 := HY0.out
          have h2 := HF.out.1
          simp only [Mov.ok, movOk, inB, Bool.and_eq_true, decide_eq_true_eq]
          omega
        have HRUN := hid (run11_any (evenI p q) g (.slice pa 9 pc) (.slice qa 9 qc) ⟨0, y0, 0, (rt : Int) + (b : Int), 0⟩ 400 w5 (evenI_ok p q HF.out.2.2.1 HF.out.2.2.2) HGK.out hm (by omega) HAT5.out)
        have HM := hid hm
        have HB0 := hid hb0
        have hbB : ((b : Int) == 0) = false := by rw [beq_eq_false_iff_ne]; omega
        have hbI : ¬ (b : Int) = 0 := by omega
        clear hb0
        have HRL := hid (fun k mk h => run_line p q g y0 ((rt : Int) + (b : Int)) (by rw [HBE.out]; omega) (by omega) (by have h1 := HY0.out; have h2 := HF.out.1; omega) hm k mk h)
        clear hm
        have qi0 := cellN (i := 0) (v := .int .i64 (-6553600000)) HI5.out rfl
        have qi1 := cellN (i := 1) (v := .int .i64 (-6553600000)) HI5.out rfl
        have qi2 := cellN (i := 2) (v := .int .i64 6553600000) HI5.out rfl
        have qi3 := cellN (i := 3) (v := .int .i64 3) HI5.out rfl
        have qi4 := cellN (i := 4) (v := .int .i64 3) HI5.out rfl
        have qi5 := cellN (i := 5) (v := .slice pa 9 pc) HI5.out rfl
        have qi6 := cellN (i := 6) (v := .slice qa 9 qc) HI5.out rfl
        have qg0 := cellN (i := 0) (v := .int .i64 g.fl) HG5.out rfl
        have qg1 := cellN (i := 1) (v := .int .i64 g.kn) HG5.out rfl
        have qg2 := cellN (i := 2) (v := .int .i64 g.a) HG5.out rfl
        have qg3 := cellN (i := 3) (v := .int .i64 g.b) HG5.out rfl
        have qg4 := cellN (i := 4) (v := .int .i64 g.c) HG5.out rfl
        have qs0 := cellN (i := 0) (v := .int .i64 0) HS5.out rfl
        have qs1 := cellN (i := 1) (v := .int .i64 y0) HS5.out rfl
        go_wp2_with fail
        refine HRUN.out.mono ?_
        rintro e w6 ⟨⟨ox, oy, ovx, ovy, osp⟩, tk, c, he, hc, hb6⟩
        obtain rfl : e = .returned (.tuple #[movV ox oy ovx ovy osp, .int .i64 tk, .int .i64 c]) := he
        have HX6 := hid ((HX5.out.trans (hb6.mono HX5.out.size)).alloc (Nat.le_trans HX5.out.size hb6.size) (.cells #[.int .i64 ox, .int .i64 oy, .int .i64 ovx, .int .i64 ovy, .int .i64 osp] 39))
        have HN := hid (heap_alloc_new w6 (.cells #[.int .i64 ox, .int .i64 oy, .int .i64 ovx, .int .i64 ovy, .int .i64 osp] 39))
        have HC := hid hc
        clear hc hb6 HRUN HG5 HI5 HS5 HAT5 HX5
        clear qi0 qi1 qi2 qi3 qi4 qi5 qi6 qg0 qg1 qg2 qg3 qg4 qs0 qs1
        go_upto_region 9 with fail
        generalize w6.alloc (.cells #[.int .i64 ox, .int .i64 oy, .int .i64 ovx, .int .i64 ovy, .int .i64 osp] 39) = w8 at *
        have n0 := cellN (i := 0) (v := .int .i64 ox) HN.out rfl
        have n1 := cellN (i := 1) (v := .int .i64 oy) HN.out rfl
        have n2 := cellN (i := 2) (v := .int .i64 ovx) HN.out rfl
        have n3 := cellN (i := 3) (v := .int .i64 ovy) HN.out rfl
        have hcc := HC.out
        rcases hcc with ⟨rfl, k, hk⟩ | rfl
        · obtain ⟨-, hme⟩ := HRL.out k _ hk
          have hx : ox = 0 := congrArg Mov.x hme
          have hy : oy = (iterY (slowE p q g) (y0, (rt : Int) + (b : Int)) k).1 := congrArg Mov.y hme
          have hvx : ovx = 0 := congrArg Mov.vx hme
          have hvy : ovy = (iterY (slowE p q g) (y0, (rt : Int) + (b : Int)) k).2 := congrArg Mov.vy hme
          have HV := hid (And.intro hy hvy)
          clear hme hy hvy hk HC
          subst hx hvx
          by_cases hv : ovy = 0
          · have hge : tt ≤ oy := by
              have h1 := HV.out.2
              rw [HBE.out, hv] at h1
              have h2 := HGE.out
              rw [HBE.out] at h2
              have h3 := iter_weight (b : Int) (rt : Int) y0 (1 + (fr : Int)) k (by have := HB0.out; omega) (by omega) (by exact_mod_cast h2) h1.symm
              have h4 := HV.out.1
              rw [HBE.out] at h4
              have h5 := HTT.out
              omega
            subst hv
            go_wp2_with fail
            refine (HSND.out _).mono ?_
            rintro e w7 ⟨rfl, hb7⟩
            go_wp2_with fail
            go_ret
            exact ⟨rfl, HX6.out.trans (hb7.mono HX6.out.size)⟩
          · go_wp2_with fail
            refine (HSND.out _).mono ?_
            rintro e w7 ⟨rfl, hb7⟩
            go_wp2_with fail
            go_ret
            exact ⟨rfl, HX6.out.trans (hb7.mono HX6.out.size)⟩
        · go_wp2_with fail
          refine (HSND.out _).mono ?_
          rintro e w7 ⟨rfl, hb7⟩
          go_wp2_with fail
          go_ret
          exact ⟨rfl, HX6.out.trans (hb7.mono HX6.out.size)⟩
end Go.Proofs.YtolnhicngepnnaaGreat
