/- besomlaw08.GameClocks walked. -/
import Derived.Test.YtdbfnonpndlejaaDoorL2
import Derived.BigRegion
import Derived.Deep.RegionWith
import Derived.Deep.RegionHeld3
import Derived.Deep.CutBlock
namespace Go.Proofs.YtdbfnonpndlejaaDoor
open Go.RowKit

set_option maxRecDepth 100000 in
set_option maxHeartbeats 2000000 in
/-- besomlaw08.GameClocks returns true. -/
theorem gameClocks_any (t : TimesD) (v : Value) (l : List PressD) (w : World) (hl : SlP w v l) (hA : ∀ w1, Below w.heap.size w w1 → Calls Tryd.prog 10 #[] w1 fun e w' => e = .returned (.bool true) ∧ Below w1.heap.size w1 w') : Calls Tryd.prog 8 #[t.val, v] w (True1 w) := by
  have HA := hid hA
  have HL := hid hl
  obtain ⟨al, cl, rfl, hll, -⟩ := hl.open
  have HV := hid (show t.val = .agg #[.int .i64 t.total, .int .i64 t.extra, .int .i64 t.outs, .int .i64 t.len] from rfl)
  rw [HV.out]
  clear hA hl
  go_enter Tryd.func8, Tryd.ntmps8
  go_upto_region 1 with fail
  obtain ⟨W0, e0, hz0, hb0, hc0, hf0⟩ := box_new w #[.int .i64 t.total, .int .i64 t.extra, .int .i64 t.outs, .int .i64 t.len] 47
  rw [e0]
  have c0 := hc0 0
  have c1 := hc0 1
  have c2 := hc0 2
  have c3 := hc0 3
  simp only [List.getElem?_toArray, List.getElem?_cons_zero, List.getElem?_cons_succ] at c0 c1 c2 c3
  have HB0 := hid hb0
  have HZ := hid hz0
  clear e0 hz0 hb0 hc0 hf0
  by_cases hlen : 200 < l.length
  · clear c0 c1 c2 c3
    go_wp2_with fail
    refine (HA.out _ HB0.out).mono ?_
    rintro e w1 ⟨rfl, hb1⟩
    have HB1 := hid (HB0.out.trans (hb1.mono HB0.out.size))
    clear hb1
    go_wp2_with fail
    go_ret
    exact ⟨rfl, HB1.out⟩
  · have HN := hid (newClock_any t W0)
    have HC1 := hid (fun W => refCheckTimes_any t W)
    have HC2 := hid (fun W => checkTimes_any t W)
    rw [HV.out] at HN HC1 HC2
    cases hok : t.ok with
    | false =>
      rw [hok] at HN HC1 HC2
      clear hok
      go_wp2_with fail
      refine HN.out.mono ?_
      rintro e w1 ⟨h1, -⟩
      obtain ⟨rfl, hb1⟩ := h1 (by simp)
      have d0 := bcs hb1 c0
      have d1 := bcs hb1 c1
      have d2 := bcs hb1 c2
      have d3 := bcs hb1 c3
      have HB1 := hid (HB0.out.trans (hb1.mono HB0.out.size))
      clear hb1 c0 c1 c2 c3 h1
      go_wp2_with fail
      refine (HC1.out _).mono ?_
      rintro e w2 ⟨rfl, hb2⟩
      have c0 := bcs hb2 d0
      have c1 := bcs hb2 d1
      have c2 := bcs hb2 d2
      have c3 := bcs hb2 d3
      have HB2 := hid (HB1.out.trans (hb2.mono HB1.out.size))
      clear hb2 d0 d1 d2 d3
      go_wp2_with fail
      refine (HC2.out _).mono ?_
      rintro e w3 ⟨rfl, hb3⟩
      have HB3 := hid (HB2.out.trans (hb3.mono HB2.out.size))
      clear hb3 c0 c1 c2 c3
      go_wp2_with fail
      refine (HA.out _ HB3.out).mono ?_
      rintro e w4 ⟨rfl, hb4⟩
      have HB4 := hid (HB3.out.trans (hb4.mono HB3.out.size))
      clear hb4
      go_wp2_with fail
      go_ret
      exact ⟨rfl, HB4.out⟩
    | true =>
      have HOT := hid (new_ok hok)
      rw [hok] at HN HC1 HC2
      clear hok
      have HNW := hid (fun W => refNew_any t W)
      rw [HV.out] at HNW
      go_wp2_with fail
      refine HN.out.mono ?_
      rintro e w1 ⟨-, h1⟩
      obtain ⟨B, hB, rfl, hb1, hc1⟩ := h1 (by simp)
      have d0 := bcs hb1 c0
      have d1 := bcs hb1 c1
      have d2 := bcs hb1 c2
      have d3 := bcs hb1 c3
      have HB1 := hid (HB0.out.trans (hb1.mono HB0.out.size))
      have HCC := hid hc1
      have hWB : w.heap.size ≤ B := Nat.le_trans HB0.out.size hB
      clear hb1 c0 c1 c2 c3 h1 hc1 hB
      go_wp2_with fail
      refine (HC1.out _).mono ?_
      rintro e w2 ⟨rfl, hb2⟩
      have c0 := bcs hb2 d0
      have c1 := bcs hb2 d1
      have c2 := bcs hb2 d2
      have c3 := bcs hb2 d3
      have HB2 := hid (HB1.out.trans (hb2.mono HB1.out.size))
      have HCC2 := hid (HCC.out.below hb2)
      clear hb2 d0 d1 d2 d3 HCC
      go_wp2_with fail
      refine (HC2.out _).mono ?_
      rintro e w3 ⟨rfl, hb3⟩
      have d0 := bcs hb3 c0
      have d1 := bcs hb3 c1
      have d2 := bcs hb3 c2
      have d3 := bcs hb3 c3
      have HB3 := hid (HB2.out.trans (hb3.mono HB2.out.size))
      have HCC3 := hid (HCC2.out.below hb3)
      clear hb3 c0 c1 c2 c3 HCC2
      obtain ⟨c, hc⟩ : ∃ c : ClkD, c = ⟨t, t.total, t.total, t.outs, t.outs, -1, 0, 0⟩ := ⟨_, rfl⟩
      go_wp2_with fail
      refine (HNW.out _).mono ?_
      rintro e w4 ⟨rfl, hb4⟩
      have HB4 := hid (HB3.out.trans (hb4.mono HB3.out.size))
      have HCC4 := hid (HCC3.out.below hb4)
      clear hb4 d0 d1 d2 d3 HCC3 hc
      rw [show ClkD.val ⟨t, t.total, t.total, t.outs, t.outs, -1, 0, 0⟩ = .agg #[.int .i64 t.total, .int .i64 t.extra, .int .i64 t.outs, .int .i64 t.len, .int .i64 t.total, .int .i64 t.total, .int .i64 t.outs, .int .i64 t.outs, .int .i64 0, .int .i64 (-1), .int .i64 0] from rfl]
      go_upto_region 10 with fail
      obtain ⟨W5, e5⟩ : ∃ W5, w4.alloc (.cells #[.int .i64 t.total, .int .i64 t.extra, .int .i64 t.outs, .int .i64 t.len, .int .i64 t.total, .int .i64 t.total, .int .i64 t.outs, .int .i64 t.outs, .int .i64 0, .int .i64 (-1), .int .i64 0] 64) = W5 := ⟨_, rfl⟩
      have hbo : Below w4.heap.size w4 W5 := by rw [← e5]; exact (Below.refl _ _).alloc (Nat.le_refl _) _
      have HB5 := hid (HB4.out.trans (hbo.mono HB4.out.size))
      have HS0 := hid (show ClkS w B w4.heap.size 0 ⟨t, t.total, t.total, t.outs, t.outs, -1, 0, 0⟩ W5 from ⟨HCC4.out.below hbo, by rw [← e5]; exact one_robj w4 _ _ rfl, HOT.out, HB5.out⟩)
      have hBB : B < w4.heap.size := HCC4.out.lt
      rw [e5]
      clear hbo e5
      generalize w4.heap.size = B2 at *
      go_wp2_with fail
      go_loopw [9] (fun i wr => ∃ (k : Nat) (c : ClkD), k ≤ l.length ∧ i = .int .i64 k ∧ ClkS w B B2 k c wr) (fun i _ => l.length - (intOf i).toNat)
      case atStart => exact ⟨0, _, Nat.zero_le _, rfl, HS0.out⟩
      case round =>
        obtain ⟨k, c, hk, rfl, hs⟩ := hrel
        obtain ⟨wo, rfl⟩ : ∃ wo, wo = wr := ⟨_, rfl⟩
        have HSO := hid hs
        clear hs
        by_cases hkl : k < l.length
        · have HRR := hid HSO.out.2.1
          have HOK := hid HSO.out.2.2.1
          have HBO := hid HSO.out.2.2.2
          have HCO := hid HSO.out.1
          obtain ⟨al2, cl2, ee, -, hxx⟩ := (HL.out.below HBO.out).open
          obtain ⟨bb, off, rfl, hbb, -⟩ := hxx k hkl
          obtain ⟨e1, -, -⟩ := Value.slice.inj ee
          subst e1
          clear hxx ee
          have HXC0 := hid (fun (wx : World) (hb : Below w.heap.size w wx) => show wx.cell? ⟨bb, off + k * 4, none⟩ = some (.int .i64 l[k].what) ∧ wx.cell? ⟨bb, off + k * 4 + 1, none⟩ = some (.int .i64 l[k].team) ∧ wx.cell? ⟨bb, off + k * 4 + 2, none⟩ = some (.int .i64 l[k].t) ∧ wx.cell? ⟨bb, off + k * 4 + 3, none⟩ = some (.bool l[k].later) from by
            obtain ⟨al2, cl2, ee, -, hxx⟩ := (HL.out.below hb).open
            obtain ⟨b3, off3, e3, -, hxx⟩ := hxx k hkl
            obtain ⟨e1, -, -⟩ := Value.slice.inj ee
            rw [← e1] at e3
            injection e3 with e3
            injection e3 with e4 e5
            subst e4 e5
            exact hxx k hkl)
          obtain ⟨x, hx⟩ : ∃ x, x = l[k] := ⟨_, rfl⟩
          rw [← hx] at HXC0
          have HXC := hid HXC0.out
          have hk1000 : k ≤ 1000 := by omega
          clear hx HXC0 hlen
          obtain ⟨c0, c1, c2, c3, c4, c5, c6, c7, c8, c9, c10, cf⟩ := cells11 HRR.out
          obtain ⟨x0, x1, x2, x3⟩ := HXC.out wo HBO.out
          by_cases hbig : x.t > 1099511627776 ∨ x.t < -1099511627776
          · clear c0 c1 c2 c3 c4 c5 c6 c7 c8 c9 c10 cf
            clear x0 x1 x3
            generalize x.t = tt at *
            by_cases hb1 : tt > 1099511627776
            · clear hbig
              go_wp2_with fail
              refine (HA.out _ HBO.out).mono ?_
              rintro e w1 ⟨rfl, hb1⟩
              have HB1 := hid (HBO.out.trans (hb1.mono HBO.out.size))
              clear hb1
              go_wp2_with fail
              go_ret
              exact ⟨rfl, HB1.out⟩
            · have hb2 : tt < -1099511627776 := by omega
              clear hbig
              go_wp2_with fail
              refine (HA.out _ HBO.out).mono ?_
              rintro e w1 ⟨rfl, hb1⟩
              have HB1 := hid (HBO.out.trans (hb1.mono HBO.out.size))
              clear hb1
              go_wp2_with fail
              go_ret
              exact ⟨rfl, HB1.out⟩
          · have ht1 : x.t ≤ 1099511627776 := by omega
            have ht2 : -1099511627776 ≤ x.t := by omega
            have HAT := hid (fun W => at_law_any x c.now W HOK.out.now ⟨ht2, ht1⟩)
            clear hbig
            go_upto_region 15 with fail
            go_cut [10] (fun u wx => u = .int .i64 (x.at c.now) ∧ Below wo.heap.size wo wx)
            case first =>
              go_region_with (go_at_call 23; refine (HAT.out _).mono ?_; rintro e w4 ⟨rfl, hb4⟩)
              all_goals
                go_wp2_with fail
              all_goals
                go_meet
                exact ⟨rfl, by first | exact hb4 | exact (Below.drew (Below.refl _ _)).trans hb4 | exact (Below.drew (Below.drew (Below.refl _ _))).trans hb4 | exact (drewNB (Below.refl _ _) _).trans hb4⟩
            case rest =>
              obtain ⟨rfl, hb2⟩ := hcut
              obtain ⟨w2, rfl⟩ : ∃ w2, w2 = wc := ⟨_, rfl⟩
              have HB2 := hid (HBO.out.trans (hb2.mono HBO.out.size))
              have HC2 := hid (HCO.out.below hb2)
              have HR2 := hid (HRR.out.below hb2)
              generalize x.at c.now = now at *
              clear c0 c1 c2 c3 c4 c5 c6 c7 c8 c9 c10 cf
              clear x0 x1 x2 x3 hb2 HAT ht1 ht2
              obtain ⟨c0, c1, c2, c3, c4, c5, c6, c7, c8, c9, c10, cf⟩ := cells11 HR2.out
              obtain ⟨x0, x1, x2, x3⟩ := HXC.out w2 HB2.out
              go_upto_block 2 with fail
              go_cut [11, 12] (fun f g wx => SwR w B B2 (k + 1) f g wx)
              case first =>
                by_cases h1 : x.what = 1
                · have g1 : (x.what == 1) = true := by simpa using h1
                  clear h1
                  have hO := start_ok x.team now HOK.out
                  have HS1 := hid (start_any B c x.team now w2 HC2.out k hk1000 HOK.out)
                  have HS2 := hid (fun W => refStart_any c x.team now W k hk1000 HOK.out)
                  have HOQ := hid hO
                  rw [show c.val = .agg #[.int .i64 c.t.total, .int .i64 c.t.extra, .int .i64 c.t.outs, .int .i64 c.t.len, .int .i64 c.l0, .int .i64 c.l1, .int .i64 c.o0, .int .i64 c.o1, .int .i64 c.now, .int .i64 c.team, .int .i64 c.til] from rfl] at HS2
                  unfold ClkR at HS2
                  clear hO
                  generalize c.start x.team now = r at *
                  rw [show r.1.val = .agg #[.int .i64 r.1.t.total, .int .i64 r.1.t.extra, .int .i64 r.1.t.outs, .int .i64 r.1.t.len, .int .i64 r.1.l0, .int .i64 r.1.l1, .int .i64 r.1.o0, .int .i64 r.1.o1, .int .i64 r.1.now, .int .i64 r.1.team, .int .i64 r.1.til] from rfl] at HS2
                  go_wp2_with fail
                  refine HS1.out.mono ?_
                  rintro e w3 ⟨rfl, hc3, ho3⟩
                  have HC3 := hid hc3
                  have HR3 := hid (HR2.out.only ho3 hBB)
                  have HB3 := hid (HB2.out.trans (ho3.bel.mono hWB))
                  have HL3 := hid (HL.out.below HB3.out)
                  clear c0 c1 c2 c3 c4 c5 c6 c7 c8 c9 c10 cf
                  clear hc3 ho3 x0 x1 x2 x3
                  obtain ⟨c0, c1, c2, c3, c4, c5, c6, c7, c8, c9, c10, cf⟩ := cells11 HR3.out
                  obtain ⟨y0, y1, y2, y3⟩ := HXC.out w3 HB3.out
                  go_upto_region 25 with fail
                  go_region_with (go_at_call 32; refine (HS2.out _).mono ?_; rintro e w4 ⟨rfl, hb4⟩; have hr4 : RObj w4 B2 c := RObj.below (by exact HR3.out) hb4; have hc4 : CObj w4 B _ := CObj.below (by exact HC3.out) hb4; have hbw4 : Below w.heap.size w w4 := Below.trans (by first | exact HB3.out | exact HB3.out.drew | exact HB3.out.drew.drew | exact drewNB HB3.out _) (hb4.mono HB3.out.size); obtain ⟨z0, z1, z2, z3, z4, z5, z6, z7, z8, z9, z10, zf⟩ := cells11 hr4)
                  all_goals
                    go_wp2_with fail
                  all_goals (try simp only [List.getElem_toArray, List.getElem_cons_succ, List.getElem_cons_zero])
                  all_goals (try go_simp)
                  all_goals
                    go_meet
                    refine ⟨r.1, r.2, rfl, rfl, ?_, ?_, HOQ.out, ?_⟩
                    · exact (put11_other _ _ _ _ _ _ _ _ _ _ _ (Ne.symm (Nat.ne_of_lt hBB))).trans hc4
                    · exact put11_same _ _ _ _ _ _ _ _ _ _ _ hr4
                    · exact put11_below _ _ _ _ _ _ _ _ _ _ _ hbw4 (Nat.le_trans hWB (Nat.le_of_lt hBB))
                · have g1 : (x.what == 1) = false := by simpa using h1
                  clear h1
                  by_cases h2 : x.what = 2
                  · have g2 : (x.what == 2) = true := by simpa using h2
                    clear h2
                    have hO := stop_ok now HOK.out
                    have HS1 := hid (stop_any B c now w2 HC2.out k hk1000 HOK.out)
                    have HS2 := hid (fun W => refStop_any c now W k hk1000 HOK.out)
                    have HOQ := hid hO
                    rw [show c.val = .agg #[.int .i64 c.t.total, .int .i64 c.t.extra, .int .i64 c.t.outs, .int .i64 c.t.len, .int .i64 c.l0, .int .i64 c.l1, .int .i64 c.o0, .int .i64 c.o1, .int .i64 c.now, .int .i64 c.team, .int .i64 c.til] from rfl] at HS2
                    unfold ClkR at HS2
                    clear hO
                    generalize c.stop now = r at *
                    rw [show r.1.val = .agg #[.int .i64 r.1.t.total, .int .i64 r.1.t.extra, .int .i64 r.1.t.outs, .int .i64 r.1.t.len, .int .i64 r.1.l0, .int .i64 r.1.l1, .int .i64 r.1.o0, .int .i64 r.1.o1, .int .i64 r.1.now, .int .i64 r.1.team, .int .i64 r.1.til] from rfl] at HS2
                    go_wp2_with fail
                    refine HS1.out.mono ?_
                    rintro e w3 ⟨rfl, hc3, ho3⟩
                    have HC3 := hid hc3
                    have HR3 := hid (HR2.out.only ho3 hBB)
                    have HB3 := hid (HB2.out.trans (ho3.bel.mono hWB))
                    have HL3 := hid (HL.out.below HB3.out)
                    clear c0 c1 c2 c3 c4 c5 c6 c7 c8 c9 c10 cf
                    clear hc3 ho3 x0 x1 x2 x3
                    obtain ⟨c0, c1, c2, c3, c4, c5, c6, c7, c8, c9, c10, cf⟩ := cells11 HR3.out
                    obtain ⟨y0, y1, y2, y3⟩ := HXC.out w3 HB3.out
                    go_upto_region 28 with fail
                    go_wp2_with fail
                    refine (HS2.out _).mono ?_
                    rintro e w4 ⟨rfl, hb4⟩
                    have hr4 : RObj w4 B2 c := RObj.below (by exact HR3.out) hb4
                    have hc4 : CObj w4 B _ := CObj.below (by exact HC3.out) hb4
                    have hbw4 : Below w.heap.size w w4 := Below.trans (by first | exact HB3.out | exact HB3.out.drew | exact HB3.out.drew.drew | exact drewNB HB3.out _) (hb4.mono HB3.out.size)
                    obtain ⟨z0, z1, z2, z3, z4, z5, z6, z7, z8, z9, z10, zf⟩ := cells11 hr4
                    all_goals
                      go_wp2_with fail
                    all_goals (try simp only [List.getElem_toArray, List.getElem_cons_succ, List.getElem_cons_zero])
                    all_goals (try go_simp)
                    all_goals
                      go_meet
                      refine ⟨r.1, r.2, rfl, rfl, ?_, ?_, HOQ.out, ?_⟩
                      · exact (put11_other _ _ _ _ _ _ _ _ _ _ _ (Ne.symm (Nat.ne_of_lt hBB))).trans hc4
                      · exact put11_same _ _ _ _ _ _ _ _ _ _ _ hr4
                      · exact put11_below _ _ _ _ _ _ _ _ _ _ _ hbw4 (Nat.le_trans hWB (Nat.le_of_lt hBB))
                  · have g2 : (x.what == 2) = false := by simpa using h2
                    clear h2
                    by_cases h3 : x.what = 3
                    · have g3 : (x.what == 3) = true := by simpa using h3
                      clear h3
                      have hO := out_ok x.team now HOK.out
                      have HS1 := hid (out_any B c x.team now w2 HC2.out k hk1000 HOK.out)
                      have HS2 := hid (fun W => refOut_any c x.team now W k hk1000 HOK.out)
                      have HOQ := hid hO
                      rw [show c.val = .agg #[.int .i64 c.t.total, .int .i64 c.t.extra, .int .i64 c.t.outs, .int .i64 c.t.len, .int .i64 c.l0, .int .i64 c.l1, .int .i64 c.o0, .int .i64 c.o1, .int .i64 c.now, .int .i64 c.team, .int .i64 c.til] from rfl] at HS2
                      unfold ClkR at HS2
                      clear hO
                      generalize c.out x.team now = r at *
                      rw [show r.1.val = .agg #[.int .i64 r.1.t.total, .int .i64 r.1.t.extra, .int .i64 r.1.t.outs, .int .i64 r.1.t.len, .int .i64 r.1.l0, .int .i64 r.1.l1, .int .i64 r.1.o0, .int .i64 r.1.o1, .int .i64 r.1.now, .int .i64 r.1.team, .int .i64 r.1.til] from rfl] at HS2
                      go_wp2_with fail
                      refine HS1.out.mono ?_
                      rintro e w3 ⟨rfl, hc3, ho3⟩
                      have HC3 := hid hc3
                      have HR3 := hid (HR2.out.only ho3 hBB)
                      have HB3 := hid (HB2.out.trans (ho3.bel.mono hWB))
                      have HL3 := hid (HL.out.below HB3.out)
                      clear c0 c1 c2 c3 c4 c5 c6 c7 c8 c9 c10 cf
                      clear hc3 ho3 x0 x1 x2 x3
                      obtain ⟨c0, c1, c2, c3, c4, c5, c6, c7, c8, c9, c10, cf⟩ := cells11 HR3.out
                      obtain ⟨y0, y1, y2, y3⟩ := HXC.out w3 HB3.out
                      go_upto_region 31 with fail
                      go_region_with (go_at_call 34; refine (HS2.out _).mono ?_; rintro e w4 ⟨rfl, hb4⟩; have hr4 : RObj w4 B2 c := RObj.below (by exact HR3.out) hb4; have hc4 : CObj w4 B _ := CObj.below (by exact HC3.out) hb4; have hbw4 : Below w.heap.size w w4 := Below.trans (by first | exact HB3.out | exact HB3.out.drew | exact HB3.out.drew.drew | exact drewNB HB3.out _) (hb4.mono HB3.out.size); obtain ⟨z0, z1, z2, z3, z4, z5, z6, z7, z8, z9, z10, zf⟩ := cells11 hr4)
                      all_goals
                        go_wp2_with fail
                      all_goals (try simp only [List.getElem_toArray, List.getElem_cons_succ, List.getElem_cons_zero])
                      all_goals (try go_simp)
                      all_goals
                        go_meet
                        refine ⟨r.1, r.2, rfl, rfl, ?_, ?_, HOQ.out, ?_⟩
                        · exact (put11_other _ _ _ _ _ _ _ _ _ _ _ (Ne.symm (Nat.ne_of_lt hBB))).trans hc4
                        · exact put11_same _ _ _ _ _ _ _ _ _ _ _ hr4
                        · exact put11_below _ _ _ _ _ _ _ _ _ _ _ hbw4 (Nat.le_trans hWB (Nat.le_of_lt hBB))
                    · have g3 : (x.what == 3) = false := by simpa using h3
                      clear h3
                      by_cases h4 : x.what = 4
                      · have g4 : (x.what == 4) = true := by simpa using h4
                        clear h4
                        have hO := extra_ok now HOK.out
                        have HS1 := hid (extra_any B c now w2 HC2.out k hk1000 HOK.out)
                        have HS2 := hid (fun W => refExtra_any c now W k hk1000 HOK.out)
                        have HOQ := hid hO
                        rw [show c.val = .agg #[.int .i64 c.t.total, .int .i64 c.t.extra, .int .i64 c.t.outs, .int .i64 c.t.len, .int .i64 c.l0, .int .i64 c.l1, .int .i64 c.o0, .int .i64 c.o1, .int .i64 c.now, .int .i64 c.team, .int .i64 c.til] from rfl] at HS2
                        unfold ClkR at HS2
                        clear hO
                        generalize c.extra now = r at *
                        rw [show r.1.val = .agg #[.int .i64 r.1.t.total, .int .i64 r.1.t.extra, .int .i64 r.1.t.outs, .int .i64 r.1.t.len, .int .i64 r.1.l0, .int .i64 r.1.l1, .int .i64 r.1.o0, .int .i64 r.1.o1, .int .i64 r.1.now, .int .i64 r.1.team, .int .i64 r.1.til] from rfl] at HS2
                        go_wp2_with fail
                        refine HS1.out.mono ?_
                        rintro e w3 ⟨rfl, hc3, ho3⟩
                        have HC3 := hid hc3
                        have HR3 := hid (HR2.out.only ho3 hBB)
                        have HB3 := hid (HB2.out.trans (ho3.bel.mono hWB))
                        have HL3 := hid (HL.out.below HB3.out)
                        clear c0 c1 c2 c3 c4 c5 c6 c7 c8 c9 c10 cf
                        clear hc3 ho3 x0 x1 x2 x3
                        obtain ⟨c0, c1, c2, c3, c4, c5, c6, c7, c8, c9, c10, cf⟩ := cells11 HR3.out
                        obtain ⟨y0, y1, y2, y3⟩ := HXC.out w3 HB3.out
                        go_upto_region 34 with fail
                        go_wp2_with fail
                        refine (HS2.out _).mono ?_
                        rintro e w4 ⟨rfl, hb4⟩
                        have hr4 : RObj w4 B2 c := RObj.below (by exact HR3.out) hb4
                        have hc4 : CObj w4 B _ := CObj.below (by exact HC3.out) hb4
                        have hbw4 : Below w.heap.size w w4 := Below.trans (by first | exact HB3.out | exact HB3.out.drew | exact HB3.out.drew.drew | exact drewNB HB3.out _) (hb4.mono HB3.out.size)
                        obtain ⟨z0, z1, z2, z3, z4, z5, z6, z7, z8, z9, z10, zf⟩ := cells11 hr4
                        all_goals
                          go_wp2_with fail
                        all_goals (try simp only [List.getElem_toArray, List.getElem_cons_succ, List.getElem_cons_zero])
                        all_goals (try go_simp)
                        all_goals
                          go_meet
                          refine ⟨r.1, r.2, rfl, rfl, ?_, ?_, HOQ.out, ?_⟩
                          · exact (put11_other _ _ _ _ _ _ _ _ _ _ _ (Ne.symm (Nat.ne_of_lt hBB))).trans hc4
                          · exact put11_same _ _ _ _ _ _ _ _ _ _ _ hr4
                          · exact put11_below _ _ _ _ _ _ _ _ _ _ _ hbw4 (Nat.le_trans hWB (Nat.le_of_lt hBB))
                      · have g4 : (x.what == 4) = false := by simpa using h4
                        clear h4
                        have HS1 := hid (left_any B c x.team now w2 HC2.out k hk1000 HOK.out)
                        have HS2 := hid (fun W => refLeft_any c x.team now W k hk1000 HOK.out)
                        rw [show c.val = .agg #[.int .i64 c.t.total, .int .i64 c.t.extra, .int .i64 c.t.outs, .int .i64 c.t.len, .int .i64 c.l0, .int .i64 c.l1, .int .i64 c.o0, .int .i64 c.o1, .int .i64 c.now, .int .i64 c.team, .int .i64 c.til] from rfl] at HS2
                        generalize c.leftR x.team now = r1 at *
                        generalize c.wrong x.team now = r2 at *
                        go_wp2_with fail
                        refine HS1.out.mono ?_
                        rintro e w3 ⟨rfl, n3, rfl⟩
                        go_upto_region 20 with fail
                        go_cut [12, 14] (fun g u wx => u = .int .i64 r1 ∧ g = .int .i64 r2 ∧ Below w2.heap.size w2 wx)
                        case first =>
                          go_region_with (go_at_call 36; refine (HS2.out _).mono ?_; rintro e w4 ⟨rfl, hb4⟩)
                          all_goals
                            go_wp2_with fail
                          all_goals (try simp only [List.getElem_toArray, List.getElem_cons_succ, List.getElem_cons_zero])
                          all_goals (try go_simp)
                          all_goals
                            go_meet
                            exact ⟨rfl, rfl, by first | exact (drewNB (Below.refl _ _) _).trans hb4 | exact (drewNB (Below.refl _ _) _).drew.trans hb4 | exact (drewNB (drewNB (Below.refl _ _) _) _).trans hb4⟩
                        case rest =>
                          obtain ⟨rfl, rfl, hb3⟩ := hcut
                          have HSF := hid (show ClkS w B B2 (k + 1) c wc from ⟨HC2.out.below hb3, HR2.out.below hb3, HOK.out.mono (by omega), HB2.out.trans (hb3.mono HB2.out.size)⟩)
                          clear hb3
                          go_wp2_with fail
                          go_meet
                          exact ⟨c, r2, rfl, rfl, HSF.out⟩
              case rest =>
                obtain ⟨q, E, rfl, rfl, hs⟩ := hcut
                obtain ⟨w5, rfl⟩ : ∃ w5, w5 = wc := ⟨_, rfl⟩
                have HSQ := hid hs
                clear hs c0 c1 c2 c3 c4 c5 c6 c7 c8 c9 c10 cf x0 x1 x2 x3
                have HRQ := hid HSQ.out.2.1
                have HAL := hid (alike_any B q w5 HSQ.out.1 (k + 1) (by omega) HSQ.out.2.2.1)
                rw [show q.val = .agg #[.int .i64 q.t.total, .int .i64 q.t.extra, .int .i64 q.t.outs, .int .i64 q.t.len, .int .i64 q.l0, .int .i64 q.l1, .int .i64 q.o0, .int .i64 q.o1, .int .i64 q.now, .int .i64 q.team, .int .i64 q.til] from rfl] at HAL
                obtain ⟨c0, c1, c2, c3, c4, c5, c6, c7, c8, c9, c10, cf⟩ := cells11 HRQ.out
                go_wp2_with fail
                refine HAL.out.mono ?_
                rintro e w6 ⟨rfl, hb6⟩
                have HS6 := hid (show ClkS w B B2 (k + 1) q w6 from ⟨HSQ.out.1.below hb6, HSQ.out.2.1.below hb6, HSQ.out.2.2.1, HSQ.out.2.2.2.trans (hb6.mono HSQ.out.2.2.2.size)⟩)
                clear c0 c1 c2 c3 c4 c5 c6 c7 c8 c9 c10 cf
                clear hb6
                go_wp2_with fail
                exact ⟨⟨k + 1, q, by omega, by go_num, HS6.out⟩, by simp [intOf]; omega⟩
        · obtain rfl : k = l.length := by omega
          go_wp2_with fail
          refine (HA.out _ HSO.out.2.2.2).mono ?_
          rintro e w1 ⟨rfl, hb1⟩
          have HB1 := hid (HSO.out.2.2.2.trans (hb1.mono HSO.out.2.2.2.size))
          clear hb1
          go_wp2_with fail
          go_ret
          exact ⟨rfl, HB1.out⟩
end Go.Proofs.YtdbfnonpndlejaaDoor
