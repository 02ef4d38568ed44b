/- The other game's Hammers. -/
import Derived.Test.YtdbfnonpndlejaaDoorS9
import Derived.Test.YtdbfnonpndlejaaDoorH0
namespace Go.Proofs.YtdbfnonpndlejaaDoor
open Go.RowKit Go.Shelf Go.Maps

set_option maxRecDepth 100000 in
set_option maxHeartbeats 2000000 in
theorem refHammers_any (m : MatchD) (first : Int) (card : List LineD) (v : Value) (w : World) (hcard : SlL w v card) (hcap : ∀ a n c, v = .slice a n c → n ≤ c) :
    Calls Tryd.prog 14 #[m.val, .int .i64 first, v] w (HamPost (hamsR m first card) w) := by
  have HCARD := hid hcard
  obtain ⟨i0, hi, hz0, hz1', hz2'⟩ := info_parts info3
  obtain ⟨ac, cc, rfl, hll, -⟩ := hcard.open
  have hccap : card.length ≤ cc := hcap _ _ _ rfl
  clear hcap
  have HMV := hid (show m.val = .agg #[.int .i64 m.ends, .int .i64 m.most, .int .i64 m.early, .bool m.change, .bool m.power] from rfl)
  have HRP := hid (fun i (hi : i ≤ card.length) W (h : SlL W (.slice ac card.length cc) card) => refReplay_any m first (card.take i) (.slice ac i cc) (-1) W (h.take i hi))
  have HRA := hid (fun W (h : SlL W (.slice ac card.length cc) card) => refReplay_any m first card (.slice ac card.length cc) (-1) W h)
  rw [HMV.out] at HRP HRA
  rw [HMV.out]
  have HR := hid (hamsR.eq_1 m first card)
  obtain ⟨r, hr⟩ : ∃ r, replayR m first card (-1) = r := ⟨_, rfl⟩
  obtain ⟨s, k1, code⟩ := r
  rw [hr] at HR HRA
  have HRR := hid hr
  clear hcard hr
  go_enter Tryd.func14, Tryd.ntmps14
  go_upto_region 1 with fail
  have hb4 := (Below.refl w.heap.size w).alloc (Nat.le_refl _) (.cells #[.int .i64 m.ends, .int .i64 m.most, .int .i64 m.early, .bool m.change, .bool m.power] 23)
  have hm4 := heap_alloc_new w (.cells #[.int .i64 m.ends, .int .i64 m.most, .int .i64 m.early, .bool m.change, .bool m.power] 23)
  generalize w.alloc (.cells #[.int .i64 m.ends, .int .i64 m.most, .int .i64 m.early, .bool m.change, .bool m.power] 23) = W4 at *
  have HB4 := hid hb4
  have HM4 := hid (show W4.heap[w.heap.size]? = some (.cells m.arr 23 (0, 0)) from hm4)
  obtain ⟨m0, m1, m2, m3, m4⟩ := cells5 hm4
  clear hb4 hm4
  go_wp2_with fail
  refine (HRA.out _ (HCARD.out.below HB4.out)).mono ?_
  rintro e W5 ⟨rfl, hb5⟩
  dsimp only
  unfold StD.val StD.arr
  have HB5 := hid (HB4.out.trans (hb5.mono HB4.out.size))
  have HM5 := hid ((hb5.block _ (Array.getElem?_eq_some_iff.1 HM4.out).1).trans HM4.out)
  clear hb5 m0 m1 m2 m3 m4
  by_cases hc : code = 0
  · have hcb : (code != 0) = false := by simp [hc]
    rw [if_pos hc] at HR
    have HC0 := hid hc
    clear hc
    go_wp2_with fail
    obtain ⟨W6, hW6⟩ : ∃ W6, W5.alloc (.cells #[.int .i64 s.p0, .int .i64 s.p1, .int .i64 s.ends, .int .i64 s.ham, .int .i64 s.win, .bool s.over, .bool s.extra, .bool s.w0, .bool s.w1] 29) = W6 := ⟨_, rfl⟩
    have hb6 : Below W5.heap.size W5 W6 := by rw [← hW6]; exact (Below.refl _ _).alloc (Nat.le_refl _) _
    have HS6 := hid (show W6.heap[W5.heap.size]? = some (.cells #[.int .i64 s.p0, .int .i64 s.p1, .int .i64 s.ends, .int .i64 s.ham, .int .i64 s.win, .bool s.over, .bool s.extra, .bool s.w0, .bool s.w1] 29 (0, 0)) by rw [← hW6]; exact heap_alloc_new W5 _)
    have HB6 := hid (HB5.out.trans (hb6.mono HB5.out.size))
    have HM6 := hid ((hb6.block _ (Array.getElem?_eq_some_iff.1 HM5.out).1).trans HM5.out)
    rw [hW6]
    clear hW6 hb6
    go_loopw [11, 12] (fun v i wr => ∃ k : Nat, k ≤ card.length ∧ i = .int .i64 k ∧ wr.ownsRow W6.heap.size 3 1 v k ((hamL m first card k).map (.int .i64)) ∧ Below W6.heap.size W6 wr) (fun _ i _ => card.length - (intOf i).toNat)
    case atStart => exact ⟨0, Nat.zero_le _, rfl, World.ownsRow_nil _ _ _ _, Below.refl _ _⟩
    case round =>
      obtain ⟨k, hk, rfl, hown, hb⟩ := hrel
      by_cases hlt : k < card.length
      · have hkl40 := hid (replayR_zero m first card (by rw [HRR.out]; exact HC0.out)).2.1
        obtain ⟨hz1, hz2, hz3, -⟩ := replayR_zero m first card (by rw [HRR.out]; exact HC0.out)
        have hbw : Below w.heap.size w wr := HB6.out.trans (hb.mono HB6.out.size)
        have HRK := hid (replayR_take m first card k hz1 hz2 (by omega))
        have HCW := hid (HCARD.out.below hbw)
        have HMW := hid ((hb.block _ (Array.getElem?_eq_some_iff.1 HM6.out).1).trans HM6.out)
        have HCALL := hid (fun W h => HRP.out k hk W h)
        rw [HRK.out] at HCALL
        have HHL := hid (hamL_on m first card k (by omega))
        obtain ⟨s2, hs2⟩ : ∃ s2, stAt m first card k = s2 := ⟨_, rfl⟩
        rw [hs2] at HCALL HHL
        unfold ReplayPost StD.val StD.arr at HCALL
        dsimp only at HCALL
        obtain ⟨m0, m1, m2, m3, m4⟩ := cells5 HMW.out
        have hcc : k ≤ cc := by omega
        have hzw : w.heap.size < wr.heap.size := (Array.getElem?_eq_some_iff.1 HMW.out).1
        clear hz1 hz2 hz3 hs2
        go_upto_region 8 with fail
        go_cut [13] (fun x13 wx => ∃ T : Nat, x13 = .pointer (some ⟨T, 0, none⟩) ∧ wx.cell? ⟨T, 3, none⟩ = some (.int .i64 s2.ham) ∧ Below wr.heap.size wr wx)
        case first =>
          go_wp2_with fail
          go_region_with (go_at_call 12; refine (HCALL.out _ (SlL.below (by exact HCW.out) (by first | exact Below.refl _ _ | exact (Below.refl _ _).drew | exact (Below.refl _ _).alloc (Nat.le_refl _) _ | exact ((Below.refl _ _).drew).alloc (Nat.le_refl _) _ | exact ((Below.refl _ _).alloc (Nat.le_refl _) _).drew))).mono ?_; rintro e w4 ⟨rfl, hb4⟩; first | (have hz4 := (hb4.block wr.heap.size (by simp)).trans (heap_alloc_new wr (.cells #[.int .i64 0, .int .i64 0, .int .i64 0, .int .i64 0, .int .i64 0, .bool false, .bool false, .bool false, .bool false] 29)); obtain ⟨z0, z1, z2, z3, z4, z5, z6, z7, z8, zf⟩ := cells9 hz4) | skip)
          all_goals
            go_wp2_with fail
          all_goals
            go_meet
          · have hb5 : Below wr.heap.size wr w4 := ((Below.refl _ _).drew).trans hb4
            exact ⟨w4.heap.size, rfl, cellB (heap_alloc_new w4 _) 3, hb5.alloc hb5.size _⟩
          all_goals
            have hb5 : Below wr.heap.size wr w4 := Below.trans (by first | exact ((Below.refl _ _).drew).alloc (Nat.le_refl _) _ | exact ((Below.refl _ _).alloc (Nat.le_refl _) _).drew | exact (Below.refl _ _).alloc (Nat.le_refl _) _) (hb4.mono (by simp))
            exact ⟨wr.heap.size, rfl, cellB (put9_same (.int .i64 s2.p0) (.int .i64 s2.p1) (.int .i64 s2.ends) (.int .i64 s2.ham) (.int .i64 s2.win) (.bool s2.over) (.bool s2.extra) (.bool s2.w0) (.bool s2.w1) hz4) 3, put9_below _ _ _ _ _ _ _ _ _ hb5 (Nat.le_refl _)⟩
        case rest =>
          obtain ⟨T, rfl, hT, hbx⟩ := hcut
          obtain ⟨wx, rfl⟩ : ∃ wx, wx = wc := ⟨_, rfl⟩
          have hown2 := own_below hown hbx
          have HBX := hid (hb.trans (hbx.mono hb.size))
          have hk40 : k ≤ 40 := by have := hkl40.out; omega
          clear hown hbx
          go_wp2_with (at_builtin; refine wpList_append_own _ rfl _ _ 33 rfl W6.heap.size 3 i0 (.int .i64 0) 1 8 Tryd.underlying33 hi hz0 hz1' hz2' rfl (by decide) _ _ _ rfl (hown2.alloc _) ⟨wx.heap.size, 0, none⟩ 1 1 [.int .i64 s2.ham] rfl rfl (cell_one_new _ _ _) (ones _ rfl) (by unfold maxLen; omega) (by omega) (by simp; have := HBX.out.size; omega) ?_; intro v' w3 hown3 hgrow3 _)
          have hb4 : Below W6.heap.size W6 w3 := (HBX.out.alloc HBX.out.size _).grown hgrow3 (by simp; have := HBX.out.size; omega) (fun j hj => (hown2.lt j hj).1)
          go_roundw
          case rel => exact ⟨k + 1, by omega, by go_num, by rw [HHL.out, List.map_append]; exact hown3, hb4⟩
          case measure => simp [intOf]; omega
      · obtain ⟨hz1, hz2, hz3, hz4⟩ := replayR_zero m first card (by rw [HRR.out]; exact HC0.out)
        have hkl : k = card.length := by omega
        rw [HRR.out] at hz4
        obtain ⟨rfl, rfl, rfl⟩ : s = stAt m first card card.length ∧ k1 = -1 ∧ code = 0 := by simpa using hz4
        have HH := hid (hamL_succ m first card card.length)
        have hk40 : k ≤ 40 := by omega
        obtain ⟨s, hs⟩ : ∃ s, stAt m first card card.length = s := ⟨_, rfl⟩
        rw [hs] at HH
        rw [hs]
        have HSW := hid ((hb.block _ (Array.getElem?_eq_some_iff.1 HS6.out).1).trans HS6.out)
        rw [hs] at HSW
        obtain ⟨c0, c1, c2, c3, c4, c5, c6, c7, c8, cf⟩ := cells9 HSW.out
        rw [← hkl] at HH
        have HKL := hid hkl
        have HL := hid (hamL_len m first card k (by omega))
        clear hz1 hz2 hz3 hz4 hs hkl
        cases hov : s.over with
        | true =>
          rw [hov] at c5 HH
          clear hov
          go_wp2_with fail
          have hbw : Below w.heap.size w wr := HB6.out.trans (hb.mono HB6.out.size)
          refine bodyPost_ret (v := .tuple #[_, .int .i64 0]) (by simp [results, Tryd.results14, go_sem]; exact rfl) rfl ⟨⟨_, by rw [HR.out], ?_⟩, hbw⟩
          rw [HR.out, ← HKL.out, HH.out]
          exact own_SlI (n := k) (B := W6.heap.size) (by simpa using hown) (by simp [HL.out]; omega)
        | false =>
          rw [hov] at c5 HH
          clear hov
          go_wp2_with (at_builtin; refine wpList_append_own _ rfl _ _ 33 rfl W6.heap.size 3 i0 (.int .i64 0) 1 8 Tryd.underlying33 hi hz0 hz1' hz2' rfl (by decide) _ _ _ rfl (hown.alloc _) ⟨wr.heap.size, 0, none⟩ 1 1 [.int .i64 s.ham] rfl rfl (cell_one_new _ _ _) (ones _ rfl) (by unfold maxLen; omega) (by omega) (by simp; have := hb.size; omega) ?_; intro v' w3 hown3 hgrow3 _)
          have hb4 : Below W6.heap.size W6 w3 := (hb.alloc hb.size _).grown hgrow3 (by simp; have := hb.size; omega) (fun j hj => (hown.lt j hj).1)
          have hbw : Below w.heap.size w w3 := HB6.out.trans (hb4.mono HB6.out.size)
          refine bodyPost_ret (v := .tuple #[_, .int .i64 0]) (by simp [results, Tryd.results14, go_sem]; exact rfl) rfl ⟨⟨_, by rw [HR.out], ?_⟩, hbw⟩
          rw [HR.out, ← HKL.out, HH.out]
          exact own_SlI (n := k + 1) (B := W6.heap.size) (by simpa using hown3) (by simp [HL.out]; omega)
  · have hcb : (code != 0) = true := by simp [hc]
    rw [if_neg hc] at HR
    clear hc
    go_wp2_with fail
    exact bodyPost_ret (v := .tuple #[.slice none 0 0, .int .i64 code]) (by simp [results, Tryd.results14, go_sem]) rfl ⟨⟨_, by rw [HR.out], by rw [HR.out]; exact nil_SlI _⟩, HB5.out.alloc HB5.out.size _⟩
end Go.Proofs.YtdbfnonpndlejaaDoor
