/- The other game's Replay walked. -/
import Derived.Test.YtdbfnonpndlejaaDoorS8
namespace Go.Proofs.YtdbfnonpndlejaaDoor
open Go.RowKit Go.Shelf

/-- The boxes of the other Replay: the match, the standing to return. -/
def RefB (w0 w : World) (m : MatchD) (s : StD) : Prop := w.heap[w0.heap.size]? = some (.cells m.arr 23 (0, 0)) ∧ WObj w (w0.heap.size + 1) s ∧ Below w0.heap.size w0 w
theorem WObj.lt {w : World} {S : Nat} {s : StD} (h : WObj w S s) : S < w.heap.size := (Array.getElem?_eq_some_iff.1 h).1
theorem WObj.below {w w' : World} {S : Nat} {s : StD} (h : WObj w S s) (hb : Below w.heap.size w w') : WObj w' S s := (hb.block S h.lt).trans h
theorem RefB.below {w0 w w' : World} {m : MatchD} {s : StD} (h : RefB w0 w m s) (hb : Below w.heap.size w w') : RefB w0 w' m s :=
  ⟨(hb.block _ (Array.getElem?_eq_some_iff.1 h.1).1).trans h.1, h.2.1.below hb, h.2.2.trans (hb.mono h.2.2.size)⟩
theorem RefB.only {w0 w w' : World} {T : Nat} {m : MatchD} {s : StD} (h : RefB w0 w m s) (hb : Only T w w') (hT : w0.heap.size + 1 < T) : RefB w0 w' m s :=
  ⟨(hb.bel.block _ (by omega)).trans h.1, (hb.bel.block _ hT).trans h.2.1, h.2.2.trans (hb.bel.mono (by omega))⟩
theorem RefB.put {w0 w : World} {m : MatchD} {s s2 : StD} (h : RefB w0 w m s) (v0 v1 v2 v3 v4 v5 v6 v7 v8 : Value) (hs : s2.arr = #[v0, v1, v2, v3, v4, v5, v6, v7, v8]) : RefB w0 (((((((((w.setCell ⟨w0.heap.size + 1, 0, none⟩ v0).setCell ⟨w0.heap.size + 1, 1, none⟩ v1).setCell ⟨w0.heap.size + 1, 2, none⟩ v2).setCell ⟨w0.heap.size + 1, 3, none⟩ v3).setCell ⟨w0.heap.size + 1, 4, none⟩ v4).setCell ⟨w0.heap.size + 1, 5, none⟩ v5).setCell ⟨w0.heap.size + 1, 6, none⟩ v6).setCell ⟨w0.heap.size + 1, 7, none⟩ v7).setCell ⟨w0.heap.size + 1, 8, none⟩ v8) m s2 :=
  ⟨(put9_other v0 v1 v2 v3 v4 v5 v6 v7 v8 (by omega)).trans h.1, by unfold WObj; rw [hs]; exact put9_same v0 v1 v2 v3 v4 v5 v6 v7 v8 h.2.1, put9_below v0 v1 v2 v3 v4 v5 v6 v7 v8 h.2.2 (by omega)⟩
theorem res12 {w0 w : World} {m : MatchD} {s : StD} (h : RefB w0 w m s) {tmps : Array Value} {k x : Value} (h8 : tmps.getD 8 undef = .pointer (some ⟨w0.heap.size + 1, 0, none⟩)) (h9 : tmps.getD 9 undef = k) (h10 : tmps.getD 10 undef = x) :
    (results Tryd.f12 tmps).run Tryd.prog w = .ok (.tuple #[s.val, k, x]) w := by
  obtain ⟨e0, e1, e2, e3, e4, e5, e6, e7, e8, -⟩ := cells9 h.2.1
  have h8' : tmps[8]?.getD undef = .pointer (some ⟨w0.heap.size + 1, 0, none⟩) := by simpa using h8
  have h9' : tmps[9]?.getD undef = k := by simpa using h9
  have h10' : tmps[10]?.getD undef = x := by simpa using h10
  simp [results, Tryd.results12, h8', h9', h10', asAddr, go_sem, e0, e1, e2, e3, e4, e5, e6, e7, e8, StD.val, StD.arr]
set_option maxRecDepth 100000 in
set_option maxHeartbeats 2000000 in
theorem refReplay_any (m : MatchD) (first : Int) (card : List LineD) (v : Value) (con : Int) (w : World) (hcard : SlL w v card) :
    Calls Tryd.prog 12 #[m.val, .int .i64 first, v, .int .i64 con] w (ReplayPost (replayR m first card con) w) := by
  have HCARD := hid hcard
  obtain ⟨ac, cc, rfl, hll, -⟩ := hcard.open
  have HCM := hid (fun W => refCheckMatch_any m W)
  have HMV := hid (show m.val = .agg #[.int .i64 m.ends, .int .i64 m.most, .int .i64 m.early, .bool m.change, .bool m.power] from rfl)
  rw [HMV.out] at HCM
  rw [HMV.out]
  obtain ⟨b1, h1⟩ : ∃ b, m.ok = b := ⟨_, rfl⟩
  obtain ⟨b2, h2⟩ : ∃ b, inB first 0 1 = b := ⟨_, rfl⟩
  obtain ⟨b3, h3⟩ : ∃ b, inB con (-1) 1 = b := ⟨_, rfl⟩
  have HR := hid (replayR.eq_1 m first card con)
  rw [show m.asked first con = (b1 && b2 && b3) by unfold MatchD.asked; rw [h1, h2, h3]] at HR
  rw [h1] at HCM
  have HOK := hid h1
  have HIN2 := hid h2
  have HIN3 := hid h3
  clear hcard h1 h2 h3
  go_enter Tryd.func12, Tryd.ntmps12
  go_upto_region 1 with fail
  obtain ⟨W4, hW4⟩ : ∃ W4, (((w.alloc (.cells #[.int .i64 m.ends, .int .i64 m.most, .int .i64 m.early, .bool m.change, .bool m.power] 23)).alloc (.cells #[.int .i64 0, .int .i64 0, .int .i64 0, .int .i64 0, .int .i64 0, .bool false, .bool false, .bool false, .bool false] 29))) = W4 := ⟨_, rfl⟩
  have hrep : RefB w W4 m zeroS := by
    rw [← hW4]
    exact ⟨heap_alloc2_old w _ _, heap_alloc2_new w _ _, ((Below.refl _ _).alloc (Nat.le_refl _) _).alloc (by simp) _⟩
  rw [hW4]
  have HREP := hid hrep
  clear hrep hW4
  have m0 : W4.cell? ⟨w.heap.size, 0, none⟩ = some (.int .i64 m.ends) := cellB HREP.out.1 0
  have m1 : W4.cell? ⟨w.heap.size, 1, none⟩ = some (.int .i64 m.most) := cellB HREP.out.1 1
  have m2 : W4.cell? ⟨w.heap.size, 2, none⟩ = some (.int .i64 m.early) := cellB HREP.out.1 2
  have m3 : W4.cell? ⟨w.heap.size, 3, none⟩ = some (.bool m.change) := cellB HREP.out.1 3
  have m4 : W4.cell? ⟨w.heap.size, 4, none⟩ = some (.bool m.power) := cellB HREP.out.1 4
  obtain ⟨r0, r1, r2, r3, r4, r5, r6, r7, r8, rf⟩ := cells9 HREP.out.2.1
  go_wp2_with fail
  refine (HCM.out W4).mono ?_
  rintro e W5 ⟨rfl, hb5⟩
  have HREP5 := hid (HREP.out.below hb5)
  clear hb5 HREP m0 m1 m2 m3 m4 r0 r1 r2 r3 r4 r5 r6 r7 r8 rf
  have m0 : W5.cell? ⟨w.heap.size, 0, none⟩ = some (.int .i64 m.ends) := cellB HREP5.out.1 0
  have m1 : W5.cell? ⟨w.heap.size, 1, none⟩ = some (.int .i64 m.most) := cellB HREP5.out.1 1
  have m2 : W5.cell? ⟨w.heap.size, 2, none⟩ = some (.int .i64 m.early) := cellB HREP5.out.1 2
  have m3 : W5.cell? ⟨w.heap.size, 3, none⟩ = some (.bool m.change) := cellB HREP5.out.1 3
  have m4 : W5.cell? ⟨w.heap.size, 4, none⟩ = some (.bool m.power) := cellB HREP5.out.1 4
  obtain ⟨r0, r1, r2, r3, r4, r5, r6, r7, r8, rf⟩ := cells9 HREP5.out.2.1
  cases b1 with
  | false =>
    go_wp2_with fail
    have hp := (HREP5.out).put (s2 := zeroS) (.int .i64 0) (.int .i64 0) (.int .i64 0) (.int .i64 0) (.int .i64 0) (.bool false) (.bool false) (.bool false) (.bool false) rfl
    exact bodyPost_ret (res12 hp rfl rfl rfl) rfl (by rw [HR.out]; exact ⟨rfl, hp.2.2⟩)
  | true =>
    cases b2 with
    | false =>
      go_wp2_with (go_at_call 42; refine (in_any _ _ _ _).mono ?_; rintro e w' ⟨rfl, rfl⟩; first | rw [HIN2.out] | rw [HIN3.out])
      have hp := (HREP5.out).put (s2 := zeroS) (.int .i64 0) (.int .i64 0) (.int .i64 0) (.int .i64 0) (.int .i64 0) (.bool false) (.bool false) (.bool false) (.bool false) rfl
      exact bodyPost_ret (res12 hp rfl rfl rfl) rfl (by rw [HR.out]; exact ⟨rfl, hp.2.2⟩)
    | true =>
      cases b3 with
      | false =>
        go_wp2_with (go_at_call 42; refine (in_any _ _ _ _).mono ?_; rintro e w' ⟨rfl, rfl⟩; first | rw [HIN2.out] | rw [HIN3.out])
        have hp := (HREP5.out).put (s2 := zeroS) (.int .i64 0) (.int .i64 0) (.int .i64 0) (.int .i64 0) (.int .i64 0) (.bool false) (.bool false) (.bool false) (.bool false) rfl
        exact bodyPost_ret (res12 hp rfl rfl rfl) rfl (by rw [HR.out]; exact ⟨rfl, hp.2.2⟩)
      | true =>
        rw [if_pos (by decide)] at HR
        by_cases hlen : card.length ≤ 40
        · rw [if_pos hlen] at HR
          go_upto_region 5 with (go_at_call 42; refine (in_any _ _ _ _).mono ?_; rintro e w' ⟨rfl, rfl⟩; first | rw [HIN2.out] | rw [HIN3.out])
          go_wp2_with fail
          refine (refBegun_any first W5).mono ?_
          rintro e W6 ⟨rfl, hb6⟩
          have HREP6 := hid (HREP5.out.below hb6)
          clear hb6 HREP5 m0 m1 m2 m3 m4 r0 r1 r2 r3 r4 r5 r6 r7 r8 rf
          unfold StD.val StD.arr
          obtain ⟨s0, hs0⟩ : ∃ s, begun first = s := ⟨_, rfl⟩
          rw [hs0]
          go_wp2_with fail
          obtain ⟨T, hT⟩ : ∃ T, T = W6.heap.size := ⟨_, rfl⟩
          obtain ⟨W7, hW7⟩ : ∃ W7, W6.alloc (.cells #[.int .i64 s0.p0, .int .i64 s0.p1, .int .i64 s0.ends, .int .i64 s0.ham, .int .i64 s0.win, .bool s0.over, .bool s0.extra, .bool s0.w0, .bool s0.w1] 29) = W7 := ⟨_, rfl⟩
          have HS7 := hid (show WObj W7 T (stAt m first card 0) by
            have e : stAt m first card 0 = s0 := hs0
            rw [e, hT, ← hW7]; exact heap_alloc_new W6 _)
          have HREP7 := hid (show RefB w W7 m zeroS by
            rw [← hW7]; exact HREP6.out.below ((Below.refl _ _).alloc (Nat.le_refl _) _))
          have HT := hid (show w.heap.size + 2 ≤ T by rw [hT]; exact HREP6.out.2.1.lt)
          rw [← hT, hW7]
          clear hT hW7 HREP6 hs0
          have HC7 := hid (show ∀ wx, Only T W7 wx → SlL wx (.slice ac card.length cc) card from fun wx ho => (HCARD.out.below HREP7.out.2.2).same ho.bel.size (fun k hk hlt => by
            have h1 := HCARD.out.blk hk
            have h2 := HT.out
            exact ho.bel.block k (by omega)))
          have HOKS := hid (stAt_ok (ok_most HOK.out) (in01 HIN2.out) card)
          go_loopw [12] (fun i wr => ∃ k : Nat, k ≤ badN m (begun first) card ∧ i = .int .i64 k ∧ WObj wr T (stAt m first card k) ∧ Only T W7 wr) (fun i _ => card.length - (intOf i).toNat)
          case atStart => exact ⟨0, Nat.zero_le _, rfl, HS7.out, Only.refl _ _⟩
          case round =>
            obtain ⟨k, hk, rfl, hso, hoo⟩ := hrel
            obtain ⟨wo, rfl⟩ : ∃ wo, wo = wr := ⟨_, rfl⟩
            have hbl := badN_le m card (begun first)
            obtain ⟨hfit1, hfit2, hfit3⟩ := badN_fits m first card k hk
            have HST := hid (HOKS.out k hk)
            have HSUC := hid (stAt_succ m first card k)
            have HSO := hid hso
            have HOO := hid hoo
            have HBO := hid (HREP7.out.only hoo (by have := HT.out; omega))
            have HF2 := hid hfit2
            have HF3 := hid hfit3
            obtain ⟨s, hsk⟩ : ∃ s, stAt m first card k = s := ⟨_, rfl⟩
            have HSK := hid hsk
            rw [hsk] at HST HSUC HSO HF2 HF3
            clear hso hoo hfit1 hfit2 hfit3 hsk
            by_cases hkl : k < card.length
            · have hx0 := HC7.out wo HOO.out
              obtain ⟨al2, cl2, ee, -, hxx⟩ := hx0.open
              obtain ⟨bb, off, rfl, hbb, -⟩ := hxx k hkl
              obtain ⟨e1, -, -⟩ := Value.slice.inj ee
              subst e1
              clear hxx ee hx0
              have hgd : card.getD k ⟨0, 0, false⟩ = card[k] := by rw [List.getD_eq_getElem?_getD, List.getElem?_eq_getElem hkl]; rfl
              have HX0 := hid (fun (wx : World) (ho : Only T W7 wx) => show wx.cell? ⟨bb, off + k * 3, none⟩ = some (.int .i64 card[k].team) ∧ wx.cell? ⟨bb, off + k * 3 + 1, none⟩ = some (.int .i64 card[k].pts) ∧ wx.cell? ⟨bb, off + k * 3 + 2, none⟩ = some (.bool card[k].pow) by
                obtain ⟨al2, cl2, ee, -, hxx⟩ := (HC7.out wx ho).open
                obtain ⟨b3, off3, e3, -, hxx⟩ := hxx k hkl
                obtain ⟨e1, -, -⟩ := Value.slice.inj ee
                rw [← e1] at e3
                injection e3 with e3
                injection e3 with e4 e5
                subst e4 e5
                exact hxx k hkl)
              rw [hgd] at HSUC HF2 HF3
              obtain ⟨x, hx⟩ : ∃ x, x = card[k] := ⟨_, rfl⟩
              rw [← hx] at HSUC HF2 HF3 HX0
              have HX := hid HX0.out
              clear HX0 hx hgd
              have HFIT := hid (fun W => refFits_any m s x W HST.out.ham)
              rw [HMV.out, show s.val = .agg #[.int .i64 s.p0, .int .i64 s.p1, .int .i64 s.ends, .int .i64 s.ham, .int .i64 s.win, .bool s.over, .bool s.extra, .bool s.w0, .bool s.w1] from rfl, show x.val = .agg #[.int .i64 x.team, .int .i64 x.pts, .bool x.pow] from rfl] at HFIT
              have m0 : wo.cell? ⟨w.heap.size, 0, none⟩ = some (.int .i64 m.ends) := cellB HBO.out.1 0
              have m1 : wo.cell? ⟨w.heap.size, 1, none⟩ = some (.int .i64 m.most) := cellB HBO.out.1 1
              have m2 : wo.cell? ⟨w.heap.size, 2, none⟩ = some (.int .i64 m.early) := cellB HBO.out.1 2
              have m3 : wo.cell? ⟨w.heap.size, 3, none⟩ = some (.bool m.change) := cellB HBO.out.1 3
              have m4 : wo.cell? ⟨w.heap.size, 4, none⟩ = some (.bool m.power) := cellB HBO.out.1 4
              obtain ⟨c0, c1, c2, c3, c4, c5, c6, c7, c8, cf⟩ := cells9 HSO.out
              obtain ⟨x0, x1, x2⟩ := HX.out wo HOO.out
              go_upto_region 9 with fail
              go_cut [46] (fun u wx => u = .bool (!fits m s x) ∧ Below wo.heap.size wo wx)
              case first =>
                go_region_with (go_at_call 44; refine (HFIT.out _).mono ?_; rintro e w4 ⟨rfl, hb4⟩)
                all_goals
                  go_wp2_with fail
                all_goals
                  go_meet
                  exact ⟨rfl, by first | exact hb4 | exact (Below.drew (Below.refl _ _)).trans hb4 | exact (Below.drew (Below.drew (Below.refl _ _))).trans hb4⟩
              case rest =>
                obtain ⟨rfl, hb3⟩ := hcut
                obtain ⟨w3, rfl⟩ : ∃ w3, w3 = wc := ⟨_, rfl⟩
                have HS3 := hid (HSO.out.below hb3)
                have HO3 := hid (HOO.out.trans (Only.of_below hb3 (Nat.le_of_lt HSO.out.lt)))
                have HB3 := hid (HBO.out.below hb3)
                clear c0 c1 c2 c3 c4 c5 c6 c7 c8 cf m0 m1 m2 m3 m4 x0 x1 x2 hb3
                have m0 : w3.cell? ⟨w.heap.size, 0, none⟩ = some (.int .i64 m.ends) := cellB HB3.out.1 0
                have m1 : w3.cell? ⟨w.heap.size, 1, none⟩ = some (.int .i64 m.most) := cellB HB3.out.1 1
                have m2 : w3.cell? ⟨w.heap.size, 2, none⟩ = some (.int .i64 m.early) := cellB HB3.out.1 2
                have m3 : w3.cell? ⟨w.heap.size, 3, none⟩ = some (.bool m.change) := cellB HB3.out.1 3
                have m4 : w3.cell? ⟨w.heap.size, 4, none⟩ = some (.bool m.power) := cellB HB3.out.1 4
                obtain ⟨r0, r1, r2, r3, r4, r5, r6, r7, r8, rf⟩ := cells9 HB3.out.2.1
                obtain ⟨c0, c1, c2, c3, c4, c5, c6, c7, c8, cf⟩ := cells9 HS3.out
                obtain ⟨x0, x1, x2⟩ := HX.out w3 HO3.out
                cases hfx : fits m s x with
                | true =>
                  have hkb : k < badN m (begun first) card := by
                    by_cases h : k < badN m (begun first) card
                    · exact h
                    · have := HF3.out (by omega) hkl
                      rw [hfx] at this; cases this
                  obtain ⟨hno, hln⟩ := fits_line hfx
                  have hen := HST.out.ends
                  have hp0 := HST.out.p0
                  have hp1 := HST.out.p1
                  have hmm := ok_most HOK.out
                  have HBH := hid (fun W => refBehind_any m s x W (HST.out.ham hno) (by omega) (by omega) (by omega) (by omega) (by omega))
                  rw [HMV.out, show s.val = .agg #[.int .i64 s.p0, .int .i64 s.p1, .int .i64 s.ends, .int .i64 s.ham, .int .i64 s.win, .bool s.over, .bool s.extra, .bool s.w0, .bool s.w1] from rfl, show x.val = .agg #[.int .i64 x.team, .int .i64 x.pts, .bool x.pow] from rfl] at HBH
                  obtain ⟨s2, hs2⟩ : ∃ s2, behind m s x = s2 := ⟨_, rfl⟩
                  rw [hs2] at HBH HSUC
                  unfold StD.val StD.arr at HBH
                  clear hfx hno hln hen hp0 hp1 hmm hs2 r0 r1 r2 r3 r4 r5 r6 r7 r8 rf
                  go_upto_region 11 with fail
                  go_region_with (go_at_call 45; refine (HBH.out _).mono ?_; rintro e w4 ⟨rfl, hb4⟩; have hT4 : WObj w4 T s := WObj.below (by exact HS3.out) hb4; obtain ⟨e0, e1, e2, e3, e4, e5, e6, e7, e8, ef⟩ := cells9 hT4)
                  all_goals
                    go_wp2_with fail
                  all_goals
                    have hw4 : Only T W7 w4 := (only_drew HO3.out).trans (Only.of_below hb4 (Nat.le_of_lt (by exact HS3.out.lt)))
                    refine ⟨⟨k + 1, by omega, by go_num, ?_, ?_⟩, by simp [intOf]; omega⟩
                    · rw [HSUC.out]
                      exact put9_same (.int .i64 s2.p0) (.int .i64 s2.p1) (.int .i64 s2.ends) (.int .i64 s2.ham) (.int .i64 s2.win) (.bool s2.over) (.bool s2.extra) (.bool s2.w0) (.bool s2.w1) hT4
                    · exact ((((((((hw4.setCell 0 _).setCell 1 _).setCell 2 _).setCell 3 _).setCell 4 _).setCell 5 _).setCell 6 _).setCell 7 _).setCell 8 _
                | false =>
                  have hkb : badN m (begun first) card = k := by
                    by_cases h : k < badN m (begun first) card
                    · have := HF2.out h
                      rw [hfx] at this; cases this
                    · omega
                  rw [hkb, if_pos hkl] at HR
                  clear hfx hkb c0 c1 c2 c3 c4 c5 c6 c7 c8 cf x0 x1 x2
                  go_wp2_with fail
                  have hp := (HB3.out).put (s2 := zeroS) (.int .i64 0) (.int .i64 0) (.int .i64 0) (.int .i64 0) (.int .i64 0) (.bool false) (.bool false) (.bool false) (.bool false) rfl
                  exact bodyPost_ret (res12 hp rfl rfl rfl) rfl (by rw [HR.out]; exact ⟨rfl, hp.2.2⟩)
            · obtain rfl : k = card.length := by omega
              have hbk : badN m (begun first) card = card.length := by omega
              rw [if_neg (by omega), HSK.out] at HR
              have m0 : wo.cell? ⟨w.heap.size, 0, none⟩ = some (.int .i64 m.ends) := cellB HBO.out.1 0
              have m1 : wo.cell? ⟨w.heap.size, 1, none⟩ = some (.int .i64 m.most) := cellB HBO.out.1 1
              have m2 : wo.cell? ⟨w.heap.size, 2, none⟩ = some (.int .i64 m.early) := cellB HBO.out.1 2
              have m3 : wo.cell? ⟨w.heap.size, 3, none⟩ = some (.bool m.change) := cellB HBO.out.1 3
              have m4 : wo.cell? ⟨w.heap.size, 4, none⟩ = some (.bool m.power) := cellB HBO.out.1 4
              obtain ⟨r0, r1, r2, r3, r4, r5, r6, r7, r8, rf⟩ := cells9 HBO.out.2.1
              obtain ⟨c0, c1, c2, c3, c4, c5, c6, c7, c8, cf⟩ := cells9 HSO.out
              have hcr := inB3 HIN3.out
              clear hbk hbl hk
              by_cases hc : con = -1
              · rw [if_pos hc] at HR
                have hcb : con < 0 := by omega
                clear hc hcr
                go_wp2_with fail
                have hp := (HBO.out).put (s2 := s) (.int .i64 s.p0) (.int .i64 s.p1) (.int .i64 s.ends) (.int .i64 s.ham) (.int .i64 s.win) (.bool s.over) (.bool s.extra) (.bool s.w0) (.bool s.w1) rfl
                exact bodyPost_ret (res12 hp rfl rfl rfl) rfl (by rw [HR.out]; exact ⟨rfl, hp.2.2⟩)
              · rw [if_neg hc] at HR
                have hcb : 0 ≤ con := by omega
                have hcb1 : con ≤ 1 := by omega
                clear hc hcr
                rcases Bool.eq_false_or_eq_true s.over with hov | hov
                · rw [hov] at c5 HR
                  rw [if_pos (by simp)] at HR
                  clear hov
                  go_wp2_with fail
                  have hp := (HBO.out).put (s2 := zeroS) (.int .i64 0) (.int .i64 0) (.int .i64 0) (.int .i64 0) (.int .i64 0) (.bool false) (.bool false) (.bool false) (.bool false) rfl
                  exact bodyPost_ret (res12 hp rfl rfl rfl) rfl (by rw [HR.out]; exact ⟨rfl, hp.2.2⟩)
                · rw [hov] at c5 HR
                  clear hov
                  by_cases hee : s.ends < m.early
                  · rw [if_pos (by simp [hee])] at HR
                    have heb : decide (s.ends < m.early) = true := by simp [hee]
                    clear hee
                    go_wp2_with fail
                    have hp := (HBO.out).put (s2 := zeroS) (.int .i64 0) (.int .i64 0) (.int .i64 0) (.int .i64 0) (.int .i64 0) (.bool false) (.bool false) (.bool false) (.bool false) rfl
                    exact bodyPost_ret (res12 hp rfl rfl rfl) rfl (by rw [HR.out]; exact ⟨rfl, hp.2.2⟩)
                  · rw [if_neg (by simp [hee])] at HR
                    have heb : decide (s.ends < m.early) = false := by simp [hee]
                    clear hee
                    go_upto_region 20 with fail
                    have HS5 := hid (show WObj ((((wo.setCell ⟨T, 5, none⟩ (.bool true)).setCell ⟨T, 6, none⟩ (.bool false)).setCell ⟨T, 3, none⟩ (.int .i64 (-1))).setCell ⟨T, 4, none⟩ (.int .i64 (1 - con))) T (s.end (1 - con)) from WObj.of (heap_setCell_same _ _ 4 _ 29 _ (heap_setCell_same _ _ 3 _ 29 _ (heap_setCell_same _ _ 6 _ 29 _ (heap_setCell_same _ _ 5 _ 29 _ HSO.out)))) (by simp [StD.arr, StD.end]))
                    have HO5 := hid (show Only T wo ((((wo.setCell ⟨T, 5, none⟩ (.bool true)).setCell ⟨T, 6, none⟩ (.bool false)).setCell ⟨T, 3, none⟩ (.int .i64 (-1))).setCell ⟨T, 4, none⟩ (.int .i64 (1 - con))) from ((((Only.refl T wo).setCell 5 _).setCell 6 _).setCell 3 _).setCell 4 _)
                    have HB5 := hid (HBO.out.only HO5.out (by have := HT.out; omega))
                    generalize ((((wo.setCell ⟨T, 5, none⟩ (.bool true)).setCell ⟨T, 6, none⟩ (.bool false)).setCell ⟨T, 3, none⟩ (.int .i64 (-1))).setCell ⟨T, 4, none⟩ (.int .i64 (1 - con))) = w5 at *
                    generalize s.end (1 - con) = s3 at *
                    clear c0 c1 c2 c3 c4 c5 c6 c7 c8 cf m0 m1 m2 m3 m4 r0 r1 r2 r3 r4 r5 r6 r7 r8 rf
                    obtain ⟨r0, r1, r2, r3, r4, r5, r6, r7, r8, rf⟩ := cells9 HB5.out.2.1
                    obtain ⟨c0, c1, c2, c3, c4, c5, c6, c7, c8, cf⟩ := cells9 HS5.out
                    go_wp2_with fail
                    have hp := (HB5.out).put (s2 := s3) (.int .i64 s3.p0) (.int .i64 s3.p1) (.int .i64 s3.ends) (.int .i64 s3.ham) (.int .i64 s3.win) (.bool s3.over) (.bool s3.extra) (.bool s3.w0) (.bool s3.w1) rfl
                    exact bodyPost_ret (res12 hp rfl rfl rfl) rfl (by rw [HR.out]; exact ⟨rfl, hp.2.2⟩)
        · rw [if_neg hlen] at HR
          have hl40 : (40 : Int) < (card.length : Int) := by omega
          clear hlen
          go_wp2_with (go_at_call 42; refine (in_any _ _ _ _).mono ?_; rintro e w' ⟨rfl, rfl⟩; first | rw [HIN2.out] | rw [HIN3.out])
          have hp := (HREP5.out).put (s2 := zeroS) (.int .i64 0) (.int .i64 0) (.int .i64 0) (.int .i64 0) (.int .i64 0) (.bool false) (.bool false) (.bool false) (.bool false) rfl
          exact bodyPost_ret (res12 hp rfl rfl rfl) rfl (by rw [HR.out]; exact ⟨rfl, hp.2.2⟩)
end Go.Proofs.YtdbfnonpndlejaaDoor
