/- besomlaw08.GameSides walked. -/
import Derived.Test.YtdbfnonpndlejaaDoorG3
import Derived.Test.YtdbfnonpndlejaaDoorM6
namespace Go.Proofs.YtdbfnonpndlejaaDoor
open Go.RowKit Go.Shelf

theorem info42 : (Tryd.prog.info? 42).map (fun i => (i.zero, i.size, i.bytes)) = some (some (.agg #[.int .i64 0, .int .i64 0, .bool false]), 3, 24) := by kernel_rfl
theorem own_SlL {w : World} {B : Nat} {v : Value} {l : List LineD} (h : w.ownsRow B 42 3 v l.length (l.flatMap LineD.cells)) (hn : l.length ≤ 1000) : SlL w v l := by
  rcases h.2 with ⟨rfl, h0⟩ | ⟨g, cap, cur, rfl, hg, hh, hnc, hcm, hcs, htake⟩
  · have hl : l = [] := List.length_eq_zero_iff.1 (by omega)
    subst hl
    exact ⟨none, 0, rfl, by simp, .inl rfl⟩
  · refine ⟨_, cap, rfl, by omega, .inr ⟨g, 0, rfl, (Array.getElem?_eq_some_iff.1 hh).1, ?_⟩⟩
    intro i hi
    rw [Nat.zero_add, cellB hh i]
    have hlen : (l.flatMap LineD.cells).length = l.length * 3 := h.1
    have h2 : cur.toList[i]? = (l.flatMap LineD.cells)[i]? := by
      rw [← htake, List.getElem?_take_of_lt (by omega)]
    rw [← Array.getElem?_toList, h2, List.getElem?_eq_getElem hi]
theorem lit_cells (w : World) (x : LineD) : ∀ (j : Nat) (u : Value), [Value.int .i64 (swap01 x.team), .int .i64 x.pts, .bool x.pow][j]? = some u → ((w.alloc (.cells #[.int .i64 (swap01 x.team), .int .i64 x.pts, .bool x.pow] 42)).alloc (.cells #[.int .i64 (swap01 x.team), .int .i64 x.pts, .bool x.pow] 42)).cell? ((⟨w.heap.size + 1, 0, none⟩ : Addr).add j) = some u := by
  have h := (World.ownsRow_lit (base := 0) (e := 42) (size := 3) (w.alloc (.cells #[.int .i64 (swap01 x.team), .int .i64 x.pts, .bool x.pow] 42)) #[.int .i64 (swap01 x.team), .int .i64 x.pts, .bool x.pow] 1 (Nat.zero_le _) (by decide) rfl).cells (g := w.heap.size + 1) (by simp [Value.ownBlock])
  exact h
set_option maxRecDepth 100000 in
set_option maxHeartbeats 4000000 in
theorem gameSides_any (m : MatchD) (first : Int) (card : List LineD) (v : Value) (con : Int) (w : World) (hcard : SlL w v card) (hW : TabW w) :
    Calls Tryd.prog 5 #[m.val, .int .i64 first, v, .int .i64 con] w (True1 w) := by
  have HCARD := hid hcard
  have HW := hid hW
  obtain ⟨i0, hinf, hz0, hz1, hz2⟩ := info_parts info42
  obtain ⟨ac, cc, rfl, hll, -⟩ := hcard.open
  have HMV := hid (show m.val = .agg #[.int .i64 m.ends, .int .i64 m.most, .int .i64 m.early, .bool m.change, .bool m.power] from rfl)
  have H1 := hid (fun W (h : SlL W (.slice ac card.length cc) card) => replay_any m first card (.slice ac card.length cc) con W h)
  have H2 := hid (fun u W (h : SlL W u (card.map swapL)) => replay_any m (1 - first) (card.map swapL) u (swap01 con) W h)
  rw [HMV.out] at H1 H2
  rw [HMV.out]
  have HLAW := hid (sides_law m first card con)
  obtain ⟨⟨s, k1, code⟩, hr⟩ : ∃ r, replayR m first card con = r := ⟨_, rfl⟩
  obtain ⟨⟨s2, k2, code2⟩, hr2⟩ : ∃ r, replayR m (1 - first) (card.map swapL) (swap01 con) = r := ⟨_, rfl⟩
  rw [hr] at H1 HLAW
  rw [hr2] at H2 HLAW
  clear hcard hr hr2 hW
  go_enter Tryd.func5, Tryd.ntmps5
  go_upto_region 1 with fail
  have hb0 := (Below.refl w.heap.size w).alloc (Nat.le_refl _) (.cells #[.int .i64 m.ends, .int .i64 m.most, .int .i64 m.early, .bool m.change, .bool m.power] 23)
  have hm0 := heap_alloc_new w (.cells #[.int .i64 m.ends, .int .i64 m.most, .int .i64 m.early, .bool m.change, .bool m.power] 23)
  generalize w.alloc (.cells #[.int .i64 m.ends, .int .i64 m.most, .int .i64 m.early, .bool m.change, .bool m.power] 23) = W0 at *
  have HB0 := hid hb0
  have HM0 := hid (show BoxM W0 w.heap.size m from hm0)
  obtain ⟨m0, m1, m2, m3, m4⟩ := cells5 hm0
  clear hb0 hm0
  by_cases hlen : 60 < card.length
  · clear m0 m1 m2 m3 m4
    go_wp2_with fail
    refine (awake_any _ (HW.out.below HB0.out)).mono ?_
    rintro e w1 ⟨rfl, hb1⟩
    have HB1 := hid (HB0.out.trans (hb1.mono HB0.out.size))
    clear hb1
    go_wp2_with fail
    go_ret
    exact ⟨rfl, HB1.out⟩
  · go_upto_region 4 with (go_at_call 11; refine (H1.out _ (HCARD.out.below HB0.out)).mono ?_; rintro e W1 ⟨rfl, hb1⟩; unfold StD.val StD.arr)
    have hsb := BoxS.new W1 s
    have hb2 : Below W0.heap.size W0 (W1.alloc (.cells #[.int .i64 s.p0, .int .i64 s.p1, .int .i64 s.ends, .int .i64 s.ham, .int .i64 s.win, .bool s.over, .bool s.extra, .bool s.w0, .bool s.w1] 29)) := hb1.alloc hb1.size _
    generalize hS1 : W1.heap.size = S1 at *
    generalize W1.alloc (.cells #[.int .i64 s.p0, .int .i64 s.p1, .int .i64 s.ends, .int .i64 s.ham, .int .i64 s.win, .bool s.over, .bool s.extra, .bool s.w0, .bool s.w1] 29) = W2 at *
    have HS2 := hid hsb
    have HB2 := hid (HB0.out.trans (hb2.mono HB0.out.size))
    have HM2 := hid (HM0.out.below hb2)
    clear hsb hb1 hb2 hS1 m0 m1 m2 m3 m4
    have HAW := hid (awake_any _ (HW.out.below HB2.out))
    by_cases g1 : code = 3 ∨ first < 0 ∨ 1 < first ∨ con < -1 ∨ 1 < con
    · go_upto_region 5 with fail
      all_goals
        go_wp2_with fail
        refine HAW.out.mono ?_
        rintro e w1 ⟨rfl, hb1⟩
        have HB1 := hid (HB2.out.trans (hb1.mono HB2.out.size))
        clear hb1
        go_wp2_with fail
        go_ret
        exact ⟨rfl, HB1.out⟩
    · have h1 : (code == 3) = false := by simp; omega
      have h2 : 0 ≤ first := by omega
      have h3 : first ≤ 1 := by omega
      have h4 : -1 ≤ con := by omega
      have h5 : con ≤ 1 := by omega
      have HL := hid (HLAW.out (by omega) (by omega))
      clear g1
      go_upto_region 6 with fail
      go_wp2_with fail
      go_loopw [12, 13] (fun u i wr => ∃ k : Nat, k ≤ card.length ∧ i = .int .i64 k ∧ wr.ownsRow W2.heap.size 42 3 u k (((card.take k).map swapL).flatMap LineD.cells) ∧ Below W2.heap.size W2 wr) (fun _ i _ => card.length - (intOf i).toNat)
      case atStart => exact ⟨0, Nat.zero_le _, rfl, World.ownsRow_nil _ _ _ _, Below.refl _ _⟩
      case round =>
        obtain ⟨k, hk, rfl, hown, hb⟩ := hrel
        obtain ⟨wo, rfl⟩ : ∃ wo, wo = wr := ⟨_, rfl⟩
        by_cases hkl : k < card.length
        · obtain ⟨al2, cl2, ee, -, hxx⟩ := (HCARD.out.below (HB2.out.trans (hb.mono HB2.out.size))).open
          obtain ⟨bb, off, rfl, hbb, hx⟩ := hxx k hkl
          obtain ⟨e1, -, -⟩ := Value.slice.inj ee
          subst e1
          obtain ⟨x0, x1, x2⟩ := hx k hkl
          have hts : (card.take (k + 1)).map swapL = (card.take k).map swapL ++ [swapL card[k]] := by
            rw [List.take_succ_eq_append_getElem hkl, List.map_append]; rfl
          have HTS := hid hts
          generalize card[k] = x at *
          have HSW := hid (fun W => swapped_any x.team W)
          have hzb := hb.size
          clear hxx hx ee hts
          go_wp2_with (first | (go_at_call 20; refine (HSW.out _).mono ?_; rintro e w' ⟨rfl, rfl⟩) | (at_builtin; refine wpList_append_own _ rfl _ _ 24 rfl W2.heap.size 42 i0 (.agg #[.int .i64 0, .int .i64 0, .bool false]) 3 24 Tryd.underlying24 hinf hz0 hz1 hz2 rfl (by decide) _ _ _ rfl ((hown.alloc _).alloc _) ⟨wo.heap.size + 1, 0, none⟩ 1 1 [.int .i64 (swap01 x.team), .int .i64 x.pts, .bool x.pow] rfl rfl (lit_cells wo x) (by intro u hu; simp at hu; rcases hu with rfl | rfl | rfl <;> rfl) (by unfold maxLen; omega) (by omega) (by simp; omega) ?_; intro v' w3 hown3 hgrow3 _))
          have hb4 : Below W2.heap.size W2 w3 := ((hb.alloc hzb _).alloc (by simp; omega) _).grown hgrow3 (by simp; omega) (fun j hj => (hown.lt j hj).1)
          go_roundw
          case rel => exact ⟨k + 1, by omega, by go_num, by rw [HTS.out, List.flatMap_append]; exact hown3, hb4⟩
          case measure => simp [intOf]; omega
        · obtain rfl : k = card.length := by omega
          rw [List.take_length] at hown
          have hsl : SlL wo _ (card.map swapL) := own_SlL (by rw [List.length_map]; exact hown) (by rw [List.length_map]; omega)
          obtain ⟨au, cu, rfl, -, -⟩ := hsl.open
          rw [List.length_map] at hsl ⊢
          have hwr : IntKind.i64.wrap (1 - first) = 1 - first := by rcases (show first = 0 ∨ first = 1 by omega) with rfl | rfl <;> rfl
          obtain ⟨hkc, hbk⟩ := HL.out
          obtain ⟨rfl, rfl⟩ := Prod.mk.inj hkc
          have HBK := hid hbk
          have HSL := hid hsl
          have HBW := hid (HB2.out.trans (hb.mono HB2.out.size))
          have HM3 := hid (HM2.out.below hb)
          have HS3 := hid (HS2.out.below hb)
          have hzw : w.heap.size < wo.heap.size := (Array.getElem?_eq_some_iff.1 HM3.out).1
          have hzs : S1 < wo.heap.size := (Array.getElem?_eq_some_iff.1 HS3.out).1
          have HSW := hid (fun W => swapped_any con W)
          obtain ⟨m0, m1, m2, m3, m4⟩ := cells5 HM3.out
          clear hown hsl hkc hbk hb
          go_upto_region 13 with fail
          go_cut [15, 16, 17] (fun x15 x16 x17 wx => ∃ S2 : Nat, x15 = .pointer (some ⟨S2, 0, none⟩) ∧ x16 = .int .i64 k2 ∧ x17 = .int .i64 code2 ∧ BoxS wx S2 s2 ∧ Below wo.heap.size wo wx ∧ wo.heap.size ≤ S2)
          case first =>
            go_wp2_with fail
            go_region_with (first | (go_at_call 20; refine (HSW.out _).mono ?_; rintro e w' ⟨rfl, rfl⟩) | (go_at_call 11; refine (H2.out _ _ (SlL.below (by exact HSL.out) (by first | exact Below.refl _ _ | exact (Below.refl _ _).drew | exact (Below.refl _ _).alloc (Nat.le_refl _) _ | exact ((Below.refl _ _).drew).alloc (Nat.le_refl _) _ | exact ((Below.refl _ _).alloc (Nat.le_refl _) _).drew))).mono ?_; rintro e w4 ⟨rfl, hb4⟩; unfold StD.val StD.arr; first | (have hz4 := (hb4.block wo.heap.size (by simp)).trans (heap_alloc_new wo (.cells #[.int .i64 0, .int .i64 0, .int .i64 0, .int .i64 0, .int .i64 0, .bool false, .bool false, .bool false, .bool false] 29)); obtain ⟨z0, z1, z2, z3, z4, z5, z6, z7, z8, zf⟩ := cells9 hz4) | skip))
            all_goals
              go_wp2_with fail
            all_goals
              go_meet
            all_goals first
              | (have hb5 : Below wo.heap.size wo w4 := ((Below.refl _ _).drew).trans hb4
                 exact ⟨w4.heap.size, rfl, rfl, rfl, BoxS.new w4 s2, hb5.alloc hb5.size _, hb5.size⟩)
              | (have hb5 : Below wo.heap.size wo w4 := Below.trans (by first | exact ((Below.refl _ _).drew).alloc (Nat.le_refl _) _ | exact ((Below.refl _ _).alloc (Nat.le_refl _) _).drew | exact (Below.refl _ _).alloc (Nat.le_refl _) _) (hb4.mono (by simp))
                 exact ⟨wo.heap.size, rfl, rfl, rfl, put9_same (.int .i64 s2.p0) (.int .i64 s2.p1) (.int .i64 s2.ends) (.int .i64 s2.ham) (.int .i64 s2.win) (.bool s2.over) (.bool s2.extra) (.bool s2.w0) (.bool s2.w1) hz4, put9_below _ _ _ _ _ _ _ _ _ hb5 (Nat.le_refl _), Nat.le_refl _⟩)
          case rest =>
            obtain ⟨S2, rfl, rfl, rfl, hs2, hbx, hS2⟩ := hcut
            obtain ⟨W3, rfl⟩ : ∃ W3, W3 = wc := ⟨_, rfl⟩
            have hss : S1 < S2 := by omega
            have HB4 := hid (HBW.out.trans (hbx.mono HBW.out.size))
            have HS4 := hid (HS3.out.below hbx)
            have hzw4 : w.heap.size ≤ S2 := by omega
            obtain ⟨t0, t1, t2, t3, t4, t5, t6, t7, t8, tf⟩ := cells9 hs2
            have HT := hid hs2
            clear hs2 hbx hzw hzs hS2 m0 m1 m2 m3 m4
            go_upto_region 16 with fail
            have hb5 : BoxS ((((W3.setCell ⟨S2, 0, none⟩ (.int .i64 s2.p1)).setCell ⟨S2, 1, none⟩ (.int .i64 s2.p0)).setCell ⟨S2, 7, none⟩ (.bool s2.w1)).setCell ⟨S2, 8, none⟩ (.bool s2.w0)) S2 { s2 with p0 := s2.p1, p1 := s2.p0, w0 := s2.w1, w1 := s2.w0 } :=
              (heap_setCell_same _ S2 8 _ 29 _ (heap_setCell_same _ S2 7 _ 29 _ (heap_setCell_same _ S2 1 _ 29 _ (heap_setCell_same _ S2 0 _ 29 _ HT.out)))).trans (by simp)
            have hs5 : BoxS ((((W3.setCell ⟨S2, 0, none⟩ (.int .i64 s2.p1)).setCell ⟨S2, 1, none⟩ (.int .i64 s2.p0)).setCell ⟨S2, 7, none⟩ (.bool s2.w1)).setCell ⟨S2, 8, none⟩ (.bool s2.w0)) S1 s :=
              (heap_setCell_ne _ (by omega)).trans ((heap_setCell_ne _ (by omega)).trans ((heap_setCell_ne _ (by omega)).trans ((heap_setCell_ne _ (by omega)).trans HS4.out)))
            have hw5 : Below w.heap.size w ((((W3.setCell ⟨S2, 0, none⟩ (.int .i64 s2.p1)).setCell ⟨S2, 1, none⟩ (.int .i64 s2.p0)).setCell ⟨S2, 7, none⟩ (.bool s2.w1)).setCell ⟨S2, 8, none⟩ (.bool s2.w0)) := (((HB4.out.setCell (p := ⟨S2, 0, none⟩) hzw4 _).setCell (p := ⟨S2, 1, none⟩) hzw4 _).setCell (p := ⟨S2, 7, none⟩) hzw4 _).setCell (p := ⟨S2, 8, none⟩) hzw4 _
            generalize ((((W3.setCell ⟨S2, 0, none⟩ (.int .i64 s2.p1)).setCell ⟨S2, 1, none⟩ (.int .i64 s2.p0)).setCell ⟨S2, 7, none⟩ (.bool s2.w1)).setCell ⟨S2, 8, none⟩ (.bool s2.w0)) = W5 at *
            clear t0 t1 t2 t3 t4 t5 t6 t7 t8 tf
            have HBX := hid hb5
            have HS5 := hid hs5
            have HW5 := hid hw5
            have e29 := eq29s s
            unfold StD.val StD.arr at e29
            have k11 : (k2 == k2) = true := by simp
            have k22 : (code2 == code2) = true := by simp
            clear hs5 hw5
            by_cases hc : code2 = 0
            · have hcb : (code2 == 0) = true := by simp [hc]
              have hfin : s = { s2 with p0 := s2.p1, p1 := s2.p0, w0 := s2.w1, w1 := s2.w0, ham := swap01 s2.ham, win := swap01 s2.win } := by
                have h := HBK.out
                unfold backS at h
                rw [if_pos hc] at h
                exact h.symm
              have HF := hid hfin
              obtain ⟨t0, t1, t2, t3, t4, t5, t6, t7, t8, tf⟩ := cells9 hb5
              clear hc hfin hb5
              go_upto_region 17 with fail
              go_cut [] (fun wx => BoxS wx S2 s ∧ BoxS wx S1 s ∧ Below w.heap.size w wx)
              case first =>
                go_region_with (go_at_call 20; refine (swapped_any _ _).mono ?_; rintro e w' ⟨rfl, rfl⟩)
                all_goals
                  go_wp2_with fail
                all_goals
                  go_meet
                  refine ⟨?_, ?_, ?_⟩
                  · rw [HF.out]
                    exact (heap_setCell_same _ S2 4 _ 29 _ (heap_setCell_same _ S2 3 _ 29 _ HBX.out)).trans (by simp)
                  · exact (heap_setCell_ne _ (by omega)).trans ((heap_setCell_ne _ (by omega)).trans HS5.out)
                  · exact ((HW5.out.setCell (p := ⟨S2, 3, none⟩) hzw4 _).setCell (p := ⟨S2, 4, none⟩) hzw4 _).drew
              case rest =>
                obtain ⟨h1, h2, h3⟩ := hcut
                obtain ⟨W6, rfl⟩ : ∃ W6, W6 = wc := ⟨_, rfl⟩
                have HB6 := hid h3
                obtain ⟨t0, t1, t2, t3, t4, t5, t6, t7, t8, tf⟩ := cells9 h1
                obtain ⟨c0, c1, c2, c3, c4, c5, c6, c7, c8, cf⟩ := cells9 h2
                clear h1 h2 h3
                go_wp2_with (go_at_call 10; refine (awake_any _ (HW.out.below HB6.out)).mono ?_; rintro e w9 ⟨rfl, hb9⟩)
                go_ret
                exact ⟨rfl, HB6.out.trans (hb9.mono HB6.out.size)⟩
            · have hcb : (code2 == 0) = false := by simp [hc]
              have hfin : s = { s2 with p0 := s2.p1, p1 := s2.p0, w0 := s2.w1, w1 := s2.w0 } := by
                have h := HBK.out
                unfold backS at h
                rw [if_neg hc] at h
                exact h.symm
              rw [← hfin] at hb5
              obtain ⟨t0, t1, t2, t3, t4, t5, t6, t7, t8, tf⟩ := cells9 hb5
              obtain ⟨c0, c1, c2, c3, c4, c5, c6, c7, c8, cf⟩ := cells9 HS5.out
              clear hc hfin hb5
              go_wp2_with (go_at_call 10; refine (awake_any _ (HW.out.below HW5.out)).mono ?_; rintro e w9 ⟨rfl, hb9⟩)
              go_ret
              exact ⟨rfl, HW5.out.trans (hb9.mono HW5.out.size)⟩
end Go.Proofs.YtdbfnonpndlejaaDoor
