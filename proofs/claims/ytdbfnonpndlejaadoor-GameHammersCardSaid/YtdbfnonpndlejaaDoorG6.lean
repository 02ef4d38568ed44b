/- besomlaw08.GameHammers walked. -/
import Derived.Test.YtdbfnonpndlejaaDoorG3
import Derived.Test.YtdbfnonpndlejaaDoorM7
namespace Go.Proofs.YtdbfnonpndlejaaDoor
open Go.RowKit Go.Shelf

/-- The power plays so far, in their block. -/
def BoxP (W : World) (T : Nat) (a b : Int) : Prop := W.heap[T]? = some (.cells #[.int .i64 a, .int .i64 b] 26 (0, 0))
set_option maxRecDepth 100000 in
set_option maxHeartbeats 4000000 in
theorem gameHammers_any (m : MatchD) (first : Int) (card : List LineD) (v : Value) (w : World) (hcard : SlL w v card) (hW : TabW w) :
    Calls Tryd.prog 6 #[m.val, .int .i64 first, v] w (True1 w) := by
  have HCARD := hid hcard
  have HW := hid hW
  obtain ⟨ac, cc, rfl, hll, -⟩ := hcard.open
  have HMV := hid (show m.val = .agg #[.int .i64 m.ends, .int .i64 m.most, .int .i64 m.early, .bool m.change, .bool m.power] from rfl)
  have H1 := hid (fun W (h : SlL W (.slice ac card.length cc) card) => replay_any m first card (.slice ac card.length cc) (-1) W h)
  have H3 := hid (fun W (h : SlL W (.slice ac card.length cc) card) => hammers_any m first card (.slice ac card.length cc) W h)
  rw [HMV.out] at H1 H3
  rw [HMV.out]
  have HOK := hid (replayR_ok m first card (-1))
  have HHR := hid (hamsR.eq_1 m first card)
  obtain ⟨⟨s, k1, code⟩, hr⟩ : ∃ r, replayR m first card (-1) = r := ⟨_, rfl⟩
  have HRE := hid hr
  rw [hr] at H1 HOK HHR
  obtain ⟨⟨hams, hcode⟩, hh⟩ : ∃ r, hamsR m first card = r := ⟨_, rfl⟩
  rw [hh] at H3 HHR
  clear hcard hr hh hW
  go_enter Tryd.func6, Tryd.ntmps6
  go_upto_region 1 with fail
  have hb0 := (Below.refl w.heap.size w).alloc (Nat.le_refl _) (.cells #[.int .i64 m.ends, .int .i64 m.most, .int .i64 m.early, .bool m.change, .bool m.power] 23)
  have hm0 := heap_alloc_new w (.cells #[.int .i64 m.ends, .int .i64 m.most, .int .i64 m.early, .bool m.change, .bool m.power] 23)
  generalize w.alloc (.cells #[.int .i64 m.ends, .int .i64 m.most, .int .i64 m.early, .bool m.change, .bool m.power] 23) = W0 at *
  have HB0 := hid hb0
  have HM0 := hid (show BoxM W0 w.heap.size m from hm0)
  obtain ⟨m0, m1, m2, m3, m4⟩ := cells5 hm0
  clear hb0 hm0
  by_cases hlen : 60 < card.length
  · clear m0 m1 m2 m3 m4
    go_wp2_with fail
    refine (awake_any _ (HW.out.below HB0.out)).mono ?_
    rintro e w1 ⟨rfl, hb1⟩
    have HB1 := hid (HB0.out.trans (hb1.mono HB0.out.size))
    clear hb1
    go_wp2_with fail
    go_ret
    exact ⟨rfl, HB1.out⟩
  · go_upto_region 4 with (go_at_call 13; refine (H3.out _ (HCARD.out.below HB0.out)).mono ?_; rintro e W1 ⟨⟨v1, rfl, hv1⟩, hb1⟩)
    obtain ⟨a1, c1, rfl, -, -⟩ := hv1.open
    have HV1 := hid hv1
    have HB1 := hid (HB0.out.trans (hb1.mono HB0.out.size))
    have HM1 := hid (HM0.out.below hb1)
    clear hb1 hv1 m0 m1 m2 m3 m4
    obtain ⟨m0, m1, m2, m3, m4⟩ := cells5 HM1.out
    go_upto_region 5 with (go_at_call 11; refine (H1.out _ (HCARD.out.below HB1.out)).mono ?_; rintro e W2 ⟨rfl, hb1⟩; unfold StD.val StD.arr)
    have hsb := BoxS.new W2 s
    have hb2 : Below W1.heap.size W1 (W2.alloc (.cells #[.int .i64 s.p0, .int .i64 s.p1, .int .i64 s.ends, .int .i64 s.ham, .int .i64 s.win, .bool s.over, .bool s.extra, .bool s.w0, .bool s.w1] 29)) := hb1.alloc hb1.size _
    generalize hS1 : W2.heap.size = S1 at *
    generalize W2.alloc (.cells #[.int .i64 s.p0, .int .i64 s.p1, .int .i64 s.ends, .int .i64 s.ham, .int .i64 s.win, .bool s.over, .bool s.extra, .bool s.w0, .bool s.w1] 29) = W3 at *
    have HS3 := hid hsb
    have HB3 := hid (HB1.out.trans (hb2.mono HB1.out.size))
    have HM3 := hid (HM1.out.below hb2)
    have HV3 := hid (HV1.out.below hb2)
    clear hsb hb1 hb2 hS1 m0 m1 m2 m3 m4
    by_cases hc : code = 0
    · have hcb : (code != 0) = false := by simp [hc]
      have HC := hid (HOK.out hc)
      have hq := HHR.out
      rw [if_pos hc] at hq
      obtain ⟨rfl, rfl⟩ := Prod.mk.inj hq
      have HRZ := hid HC.out.zero
      rw [HRE.out] at HRZ
      obtain ⟨rfl, rfl, rfl⟩ : s = stAt m first card card.length ∧ k1 = -1 ∧ code = 0 := by simpa using HRZ.out
      clear hc hq
      have hhl := HC.out.hamLen
      have hat := HC.out.hamAt
      obtain ⟨hams, hh⟩ : ∃ l, hamL m first card (card.length + 1) = l := ⟨_, rfl⟩
      rw [hh] at hhl hat HV3
      simp only [hh]
      have HHL := hid hhl
      have HAT := hid hat
      obtain ⟨c0, c1', c2, c3, c4, c5, c6, c7, c8, cf⟩ := cells9 HS3.out
      have hfw := HC.out.few
      clear hhl hat hh
      have hl1 : hams.length = card.length ∨ hams.length = card.length + 1 := by
        have h := HHL.out
        rw [h]; split <;> omega
      have hlo : (((hams.length : Int) == (card.length : Int)) = (stAt m first card card.length).over) := by
        have h := HHL.out
        rw [h]
        cases (stAt m first card card.length).over <;> simp <;> omega
      have h0c : hams.length = 0 ∨ ∃ b off, a1 = some ⟨b, off, none⟩ ∧ b < W3.heap.size ∧ W3.cell? ⟨b, off, none⟩ = some (.int .i64 first) := by
        by_cases hz : hams.length = 0
        · exact .inl hz
        · obtain ⟨a2, c2, e, -, hy⟩ := HV3.out.open
          obtain ⟨b, off, e2, hlt, hc⟩ := hy 0 (by omega)
          obtain ⟨e3, -, -⟩ := Value.slice.inj e
          refine .inr ⟨b, off, e3.trans e2, hlt, ?_⟩
          have hc0 := hc 0 (by omega)
          rw [Nat.add_zero] at hc0
          rw [hc0]
          have := HAT.out 0 (by omega)
          rw [List.getElem?_eq_getElem (by omega)] at this
          rw [Option.some.inj this]
          rfl
      obtain ⟨bo, hbo⟩ : ∃ b, (stAt m first card card.length).over = b := ⟨_, rfl⟩
      rw [hbo] at c5 hlo
      have HBO := hid hbo
      clear hbo
      have hcase : (hams.length = 0 ∧ card.length = 0 ∧ bo = true) ∨ (hams.length = card.length ∧ 0 < hams.length ∧ bo = true) ∨ (hams.length = card.length + 1 ∧ bo = false) := by
        rcases hl1 with h | h
        · rw [h] at hlo
          have : bo = true := by rw [← hlo]; simp
          by_cases hz : hams.length = 0
          · exact .inl ⟨hz, by omega, this⟩
          · exact .inr (.inl ⟨h, by omega, this⟩)
        · rw [h] at hlo
          have : bo = false := by rw [← hlo]; simp; omega
          exact .inr (.inr ⟨h, this⟩)
      clear hl1 hlo
      rcases h0c with hz | ⟨b0, off0, rfl, hb0, hc0⟩
      · obtain ⟨-, hn, rfl⟩ : hams.length = 0 ∧ card.length = 0 ∧ bo = true := by
          rcases hcase with h | ⟨h1, h2, -⟩ | ⟨h1, -⟩
          · exact h
          · omega
          · omega
        have hov := HBO.out
        rw [show card.length = 0 from hn] at hov
        cases hov
      · have hz : 0 < hams.length := by
          rcases hcase with ⟨-, hn, rfl⟩ | ⟨-, h, -⟩ | ⟨h, -⟩
          · have hov := HBO.out
            rw [show card.length = 0 from hn] at hov
            cases hov
          · exact h
          · omega
        go_upto_region 7 with fail
        go_cut [86] (fun x wx => x = .bool false ∧ Below W3.heap.size W3 wx)
        case first =>
          rcases hcase with ⟨hz, -, -⟩ | ⟨hn, hz, rfl⟩ | ⟨hn, rfl⟩
          case' inl => exact absurd hz (by omega)
          case' inr.inl =>
            have f1 : ((hams.length : Int) != (card.length : Int)) = false := by rw [hn]; simp
            have f2 : ((hams.length : Int) == (card.length : Int)) = true := by rw [hn]; simp
            have f3 : (0 : Int) < (hams.length : Int) := by omega
            clear hn
          case' inr.inr =>
            have f1 : ((hams.length : Int) != (card.length : Int)) = true := by rw [hn]; simp; omega
            have f4 : ((hams.length : Int) != (card.length : Int) + 1) = false := by rw [hn]; simp
            have f2 : ((hams.length : Int) == (card.length : Int)) = false := by rw [hn]; simp; omega
            have f3 : (0 : Int) < (hams.length : Int) := by omega
            clear hn
          all_goals
            go_wp2_with fail
            go_meet
            exact ⟨rfl, Below.refl _ _⟩
        case rest =>
          obtain ⟨rfl, hb3⟩ := hcut
          obtain ⟨W4, rfl⟩ : ∃ W4, W4 = wc := ⟨_, rfl⟩
          have hHC : ∀ W, Below W3.heap.size W3 W → ∀ i, i < hams.length → W.cell? ⟨b0, off0 + i, none⟩ = some (.int .i64 (stAt m first card i).ham) := by
            intro W hb i hi
            obtain ⟨a2, c2, e, -, hy⟩ := (HV3.out.below hb).open
            obtain ⟨b, off, e2, hlt, hc⟩ := hy i hi
            obtain ⟨e3, -, -⟩ := Value.slice.inj e
            have e4 := e3.trans e2
            injection e4 with e4
            injection e4 with e5 e6
            subst e5 e6
            rw [hc i hi]
            have := HAT.out i hi
            rw [List.getElem?_eq_getElem hi] at this
            rw [Option.some.inj this]
          have HHC := hid hHC
          have HCASE := hid hcase
          have HB4 := hid hb3
          clear hHC hcase c0 c1' c2 c3 c4 c5 c6 c7 c8 cf hc0 hb3
          go_upto_region 10 with fail
          have hm4 : BoxM W4 w.heap.size m := HM3.out.below HB4.out
          have hs4 : BoxS W4 S1 (stAt m first card card.length) := HS3.out.below HB4.out
          have HBW := hid (HB3.out.trans (HB4.out.mono HB3.out.size))
          have HM4 := hid hm4
          have HS4 := hid hs4
          have ht5 : BoxP (W4.alloc (.cells #[.int .i64 0, .int .i64 0] 26)) W4.heap.size 0 0 := heap_alloc_new W4 _
          have hb5 : Below W4.heap.size W4 (W4.alloc (.cells #[.int .i64 0, .int .i64 0] 26)) := (Below.refl _ _).alloc (Nat.le_refl _) _
          have hZ : w.heap.size < W4.heap.size := (Array.getElem?_eq_some_iff.1 hm4).1
          have hZ1 : S1 < W4.heap.size := (Array.getElem?_eq_some_iff.1 hs4).1
          generalize W4.alloc (.cells #[.int .i64 0, .int .i64 0] 26) = W5 at *
          generalize hT : W4.heap.size = T at *
          have HT := hid hT
          have HT5 := hid ht5
          have HB5 := hid hb5
          clear ht5 hb5 hT hm4 hs4
          go_wp2_with fail
          go_loopw [13] (fun i wr => ∃ k : Nat, k ≤ card.length ∧ i = .int .i64 k ∧ BoxP wr T (cnt (stAt m first card k).w0) (cnt (stAt m first card k).w1) ∧ Below T W4 wr) (fun i _ => card.length - (intOf i).toNat)
          case atStart => exact ⟨0, Nat.zero_le _, rfl, HT5.out, HB5.out⟩
          case round =>
            obtain ⟨k, hk, rfl, hbx, hb⟩ := hrel
            obtain ⟨wo, rfl⟩ : ∃ wo, wo = wr := ⟨_, rfl⟩
            have hbw : Below W4.heap.size W4 wo := by rw [HT.out]; exact hb
            have HB := hid hb
            have HBX := hid hbx
            by_cases hkl : k < card.length
            · have hlen2 : k < hams.length := by rcases HCASE.out with h | h | h <;> omega
              have hlI : (k : Int) < (hams.length : Int) := by omega
              have y0 := HHC.out wo (HB4.out.trans (hbw.mono HB4.out.size)) k hlen2
              have hst := HC.out.st k hk
              have hfit := HC.out.fit k hkl
              have hnx := stAt_get m first card k hkl
              have hon := HC.out.on k hkl
              obtain ⟨al2, cl2, ee, -, hxx⟩ := (HCARD.out.below (HBW.out.trans (hbw.mono HBW.out.size))).open
              obtain ⟨bb, off, rfl, hbb, hx⟩ := hxx k hkl
              obtain ⟨e1, -, -⟩ := Value.slice.inj ee
              subst e1
              obtain ⟨x0, x1, x2⟩ := hx k hkl
              have htm : -1 ≤ card[k].team ∧ card[k].team ≤ 1 := by rcases HC.out.team k hkl with ⟨h, -⟩ | ⟨h, -⟩ <;> omega
              have HXC := hid (fun (wx : World) (hb : Below W4.heap.size W4 wx) => show wx.cell? ⟨bb, off + k * 3, none⟩ = some (.int .i64 card[k].team) from by
                obtain ⟨al2, cl2, ee, -, hxx⟩ := (HCARD.out.below (HBW.out.trans (hb.mono HBW.out.size))).open
                obtain ⟨b3, off3, e3, -, hxx⟩ := hxx k hkl
                obtain ⟨e1, -, -⟩ := Value.slice.inj ee
                rw [← e1] at e3
                injection e3 with e3
                injection e3 with e4 e5
                subst e4 e5
                exact (hxx k hkl).1)
              have HY0 := hid (fun (wx : World) (hb : Below W4.heap.size W4 wx) => HHC.out wx (HB4.out.trans (hb.mono HB4.out.size)) k hlen2)
              generalize card[k] = x at *
              obtain ⟨hw0, hw1⟩ := behind_w m (stAt m first card k) x
              rw [← hnx] at hw0 hw1
              have hhm := hst.ham hon
              have hen := hst.ends
              obtain ⟨sk, hsk⟩ : ∃ s, stAt m first card k = s := ⟨_, rfl⟩
              rw [hsk] at HY0 y0 hfit hnx hw0 hw1 hhm hen hbx
              have HSUC := hid (show k + 1 < hams.length → (stAt m first card (k + 1)).ham = if 0 ≤ x.team then 1 - x.team else if m.change then 1 - sk.ham else sk.ham by
                intro h
                rw [hnx]
                refine behind_ham m sk x ?_
                rw [← hnx]
                rcases HCASE.out with h1 | h1 | ⟨h1, h2⟩
                · omega
                · exact HC.out.on (k + 1) (by omega)
                · by_cases hkn : k + 1 < card.length
                  · exact HC.out.on (k + 1) hkn
                  · rw [show k + 1 = card.length by omega, HBO.out, h2])
              have HY1 := hid (fun (wx : World) (hbx : Below W4.heap.size W4 wx) (h : k + 1 < hams.length) => HHC.out wx (HB4.out.trans (hbx.mono HB4.out.size)) (k + 1) h)
              have HW0 := hid hw0
              have HW1 := hid hw1
              have HFIT := hid hfit
              have hfw2 : k ≤ 40 := by omega
              obtain ⟨m0, m1, m2, m3, m4⟩ := cells5 (HM4.out.below hbw)
              clear hst hfit hnx hon hxx hx ee hw0 hw1 hsk hlen2
              have hcs : (x.pow = false ∧ sk.ham = 0) ∨ (x.pow = false ∧ sk.ham = 1) ∨ (x.pow = true ∧ sk.ham = 0) ∨ (x.pow = true ∧ sk.ham = 1) := by
                cases x.pow <;> simp <;> omega
              clear hhm
              rcases hcs with ⟨hpw, hhv⟩ | ⟨hpw, hhv⟩ | ⟨hpw, hhv⟩ | ⟨hpw, hhv⟩
              case' inl =>
                rw [hpw] at x2
                rw [hhv] at y0
                have hbx6 : BoxP wo T (cnt (stAt m first card (k + 1)).w0) (cnt (stAt m first card (k + 1)).w1) := by
                  rw [HW0.out, HW1.out, hpw]
                  simpa using hbx
                go_upto_region 19 with fail
                obtain ⟨W6, hW6⟩ : ∃ W6, wo = W6 := ⟨_, rfl⟩
                have hbl6 : Below T W4 W6 := by rw [← hW6]; exact HB.out
                rw [hW6] at hbx6
                rw [hW6]
              case' inr.inl =>
                rw [hpw] at x2
                rw [hhv] at y0
                have hbx6 : BoxP wo T (cnt (stAt m first card (k + 1)).w0) (cnt (stAt m first card (k + 1)).w1) := by
                  rw [HW0.out, HW1.out, hpw]
                  simpa using hbx
                go_upto_region 19 with fail
                obtain ⟨W6, hW6⟩ : ∃ W6, wo = W6 := ⟨_, rfl⟩
                have hbl6 : Below T W4 W6 := by rw [← hW6]; exact HB.out
                rw [hW6] at hbx6
                rw [hW6]
              case' inr.inr.inl =>
                rw [hpw] at x2
                rw [hhv] at y0
                obtain ⟨hpo, hpe, hpa⟩ := fits_pow HFIT.out hpw
                rw [hpo] at m4
                have hwf : sk.w0 = false := by rw [hhv] at hpa; exact hpa
                have hbx2 := hbx
                rw [hwf] at hbx2
                have t0 : wo.cell? ⟨T, 0, none⟩ = some (.int .i64 0) := cellB hbx2 0
                have tf : wo.frozen? ⟨T, 0, none⟩ = false := by simp [World.frozen?, show wo.heap[T]? = some (.cells #[.int .i64 _, .int .i64 _] 26 (0, 0)) from hbx2]
                have hbx6 : BoxP (wo.setCell ⟨T, 0, none⟩ (.int .i64 1)) T (cnt (stAt m first card (k + 1)).w0) (cnt (stAt m first card (k + 1)).w1) := by
                  rw [HW0.out, HW1.out, hpw, hhv, hwf]
                  exact (heap_setCell_same _ T 0 _ 26 _ hbx2).trans (by simp [cnt])
                have hki : ¬ m.ends ≤ (k : Int) := by omega
                clear hbx2 hpa hwf
                go_upto_region 19 with fail
                obtain ⟨W6, hW6⟩ : ∃ W6, wo.setCell ⟨T, 0, none⟩ (.int .i64 1) = W6 := ⟨_, rfl⟩
                have hbl6 : Below T W4 W6 := by rw [← hW6]; exact HB.out.setCell (p := ⟨T, 0, none⟩) (Nat.le_refl _) _
                rw [hW6] at hbx6
                rw [hW6]
              case' inr.inr.inr =>
                rw [hpw] at x2
                rw [hhv] at y0
                obtain ⟨hpo, hpe, hpa⟩ := fits_pow HFIT.out hpw
                rw [hpo] at m4
                have hwf : sk.w1 = false := by rw [hhv] at hpa; exact hpa
                have hbx2 := hbx
                rw [hwf] at hbx2
                have t1 : wo.cell? ⟨T, 1, none⟩ = some (.int .i64 0) := cellB hbx2 1
                have tf : wo.frozen? ⟨T, 1, none⟩ = false := by simp [World.frozen?, show wo.heap[T]? = some (.cells #[.int .i64 _, .int .i64 _] 26 (0, 0)) from hbx2]
                have hbx6 : BoxP (wo.setCell ⟨T, 1, none⟩ (.int .i64 1)) T (cnt (stAt m first card (k + 1)).w0) (cnt (stAt m first card (k + 1)).w1) := by
                  rw [HW0.out, HW1.out, hpw, hhv, hwf]
                  exact (heap_setCell_same _ T 1 _ 26 _ hbx2).trans (by simp [cnt])
                have hki : ¬ m.ends ≤ (k : Int) := by omega
                clear hbx2 hpa hwf
                go_upto_region 19 with fail
                obtain ⟨W6, hW6⟩ : ∃ W6, wo.setCell ⟨T, 1, none⟩ (.int .i64 1) = W6 := ⟨_, rfl⟩
                have hbl6 : Below T W4 W6 := by rw [← hW6]; exact HB.out.setCell (p := ⟨T, 1, none⟩) (Nat.le_refl _) _
                rw [hW6] at hbx6
                rw [hW6]
              all_goals
                have hbw6 : Below W4.heap.size W4 W6 := by rw [HT.out]; exact hbl6
                have z0 := HXC.out W6 hbw6
                have z1 := HY0.out W6 hbw6
                rw [hhv] at z1
                obtain ⟨q0, q1, q2, q3, q4⟩ := cells5 (HM4.out.below hbw6)
                have HBX6 := hid hbx6
                have HBL6 := hid hbl6
                have HHV := hid hhv
                clear hbx6 hbl6 x0 x1 x2 y0 m0 m1 m2 m3 m4 hpw hhv hbx hen
                by_cases hk1 : k + 1 < hams.length
                · have hk1I : (k : Int) + 1 < (hams.length : Int) := by omega
                  have y1 := HY1.out W6 hbw6 hk1
                  rw [HSUC.out hk1, HHV.out] at y1
                  clear hk1 hbw6 HY1
                  by_cases ht : 0 ≤ x.team
                  · rw [if_pos ht] at y1
                    go_wp2_with fail
                    exact ⟨⟨k + 1, by omega, by go_num, HBX6.out, HBL6.out⟩, by simp only [intOf]; omega⟩
                  · rw [if_neg ht] at y1
                    obtain ⟨ch, hch⟩ : ∃ b, m.change = b := ⟨_, rfl⟩
                    rw [hch] at y1 q3
                    clear hch
                    cases ch
                    · simp only [if_false, Bool.false_eq_true] at y1
                      go_wp2_with fail
                      exact ⟨⟨k + 1, by omega, by go_num, HBX6.out, HBL6.out⟩, by simp only [intOf]; omega⟩
                    · simp only [if_true] at y1
                      go_wp2_with fail
                      exact ⟨⟨k + 1, by omega, by go_num, HBX6.out, HBL6.out⟩, by simp only [intOf]; omega⟩
                · have hk1I : ¬ (k : Int) + 1 < (hams.length : Int) := by omega
                  clear hk1 hbw6 HY1
                  go_wp2_with fail
                  exact ⟨⟨k + 1, by omega, by go_num, HBX6.out, HBL6.out⟩, by simp only [intOf]; omega⟩
            · obtain rfl : k = card.length := by omega
              have hs5 : BoxS wo S1 (stAt m first card card.length) := HS4.out.below hbw
              obtain ⟨c0, c1', c2, c3, c4, c5, c6, c7, c8, cf⟩ := cells9 hs5
              generalize (stAt m first card card.length).w0 = a at *
              generalize (stAt m first card card.length).w1 = b at *
              have t0 : wo.cell? ⟨T, 0, none⟩ = some (.int .i64 (cnt a)) := cellB hbx 0
              have t1 : wo.cell? ⟨T, 1, none⟩ = some (.int .i64 (cnt b)) := cellB hbx 1
              have ha1 : cnt a ≤ 1 := by cases a <;> simp [cnt]
              have hb1 : cnt b ≤ 1 := by cases b <;> simp [cnt]
              have ha2 : (cnt a == 1) = a := by cases a <;> rfl
              have hb2 : (cnt b == 1) = b := by cases b <;> rfl
              have hzz : S1 < wo.heap.size ∧ T < wo.heap.size := ⟨(Array.getElem?_eq_some_iff.1 hs5).1, (Array.getElem?_eq_some_iff.1 hbx).1⟩
              have HTW := hid (HW.out.below (HBW.out.trans (hbw.mono HBW.out.size)))
              have HBF := hid (HBW.out.trans (hbw.mono HBW.out.size))
              have e27 := fun W => eq27n a b 9998 W
              clear hs5 hbw hb hbx c0 c1' c2 c3 c4 c5 c6 cf
              go_wp2_with fail
              refine (awake_any _ HTW.out).mono ?_
              rintro e w9 ⟨rfl, hb9⟩
              have HB9 := hid (HBF.out.trans (hb9.mono HBF.out.size))
              clear hb9
              go_wp2_with fail
              go_ret
              exact ⟨rfl, HB9.out⟩
    · have hcb : (code != 0) = true := by simp [hc]
      have hq := HHR.out
      rw [if_neg hc] at hq
      obtain ⟨rfl, rfl⟩ := Prod.mk.inj hq
      have hself : (hcode != hcode) = false := by simp
      have hself2 : (hcode == hcode) = true := by simp
      have HAW := hid (awake_any _ (HW.out.below HB3.out))
      clear hc hq
      go_wp2_with (go_at_call 10; refine HAW.out.mono ?_; rintro e w4 ⟨rfl, hb4⟩)
      go_ret
      exact ⟨rfl, HB3.out.trans (hb4.mono HB3.out.size)⟩
end Go.Proofs.YtdbfnonpndlejaaDoor
