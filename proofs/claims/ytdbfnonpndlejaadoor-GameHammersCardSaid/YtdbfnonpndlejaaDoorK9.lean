/- The document's Out walked. -/
import Derived.Test.YtdbfnonpndlejaaDoorK6
namespace Go.Proofs.YtdbfnonpndlejaaDoor
open Go.RowKit
set_option maxRecDepth 100000 in
set_option maxHeartbeats 1000000 in
theorem refOut_any (c : ClkD) (team t : Int) (w : World) (N : Nat) (hN : N ≤ 1000) (ho : ClkOk N c) :
    Calls Tryd.prog 34 #[c.val, .int .i64 team, .int .i64 t] w (ClkR (c.out team t) w) := by
  have HT := hid (fun W => timed_any c t W)
  have HO := hid ho
  have htm := ho.team
  obtain ⟨b1, h1⟩ : ∃ b, inB team 0 1 = b := ⟨_, rfl⟩
  obtain ⟨b2, h2⟩ : ∃ b, inB t c.now 1073741824 = b := ⟨_, rfl⟩
  have hw := wrong_of c team t b1 b2 h1 h2
  rw [h2] at HT
  have HP := hid (fun W h => passed_any c t W N hN ho h)
  rw [show c.val = .agg #[.int .i64 c.t.total, .int .i64 c.t.extra, .int .i64 c.t.outs, .int .i64 c.t.len, .int .i64 c.l0, .int .i64 c.l1, .int .i64 c.o0, .int .i64 c.o1, .int .i64 c.now, .int .i64 c.team, .int .i64 c.til] from rfl] at HT HP ⊢
  cases b1 with
  | false =>
    have HS := hid (ClkD.out_w hw (by simp))
    clear hw ho
    go_enter Tryd.func34, Tryd.ntmps34
    go_wp2_with (go_at_call 42; refine (in_any _ _ _ _).mono ?_; rintro e w' ⟨rfl, rfl⟩)
    refine bodyPost_ret (by simp [results, Tryd.results34, go_sem]; exact rfl) rfl ?_
    rw [HS.out]
    exact ⟨rfl, two_blocks _ _ _⟩
  | true =>
    cases b2 with
    | false =>
      have HS := hid (ClkD.out_w hw (by simp))
      clear hw ho
      go_enter Tryd.func34, Tryd.ntmps34
      go_wp2_with (go_at_call 42; refine (in_any _ _ _ _).mono ?_; rintro e w' ⟨rfl, rfl⟩)
      refine (HT.out _).mono ?_
      rintro e w1 ⟨rfl, hb1⟩
      have HB1 := hid (two_then hb1)
      have hr := two_robj w c #[.int .i64 c.t.total, .int .i64 c.t.extra, .int .i64 c.t.outs, .int .i64 c.t.len, .int .i64 c.l0, .int .i64 c.l1, .int .i64 c.o0, .int .i64 c.o1, .int .i64 c.now, .int .i64 c.team, .int .i64 c.til] #[.int .i64 ClkD.zero.t.total, .int .i64 ClkD.zero.t.extra, .int .i64 ClkD.zero.t.outs, .int .i64 ClkD.zero.t.len, .int .i64 ClkD.zero.l0, .int .i64 ClkD.zero.l1, .int .i64 ClkD.zero.o0, .int .i64 ClkD.zero.o1, .int .i64 ClkD.zero.now, .int .i64 ClkD.zero.team, .int .i64 ClkD.zero.til] rfl rfl
      have HR0 := hid (hr.1.below hb1)
      have HR1 := hid (hr.2.below hb1)
      obtain ⟨c0, c1, c2, c3, c4, c5, c6, c7, c8, c9, c10, cf⟩ := cells11 HR0.out
      obtain ⟨d0, d1, d2, d3, d4, d5, d6, d7, d8, d9, d10, df⟩ := cells11 HR1.out
      clear hb1 hr
      go_wp2_with fail
      refine bodyPost_ret (res64 rfl rfl (put11_same _ _ _ _ _ _ _ _ _ _ _ HR1.out) rfl) rfl ?_
      rw [HS.out]
      exact ⟨rfl, put11_below _ _ _ _ _ _ _ _ _ _ _ HB1.out (Nat.le_succ _)⟩
    | true =>
      have hz : c.wrong team t = 0 := hw
      obtain ⟨hk, ht⟩ := wrong_zero hz
      have HTT := hid ht
      clear hw
      rcases hk with rfl | rfl
      · by_cases hct : c.team = 0 ∧ c.til ≤ t
        · have hne : (c.team != 0) = false := by simpa using hct.1
          have htl : c.til ≤ t := hct.2
          by_cases hl : c.o0 = 0
          · have HS := hid (ClkD.out_n hz hct hl)
            have hl' : (c.o0 == 0) = true := by simpa using hl
            clear hz ho htm hct ht hl
            go_enter Tryd.func34, Tryd.ntmps34
            go_wp2_with (go_at_call 42; refine (in_any _ _ _ _).mono ?_; rintro e w' ⟨rfl, rfl⟩)
            refine (HT.out _).mono ?_
            rintro e w1 ⟨rfl, hb1⟩
            have HB1 := hid (two_then hb1)
            have hr := two_robj w c #[.int .i64 c.t.total, .int .i64 c.t.extra, .int .i64 c.t.outs, .int .i64 c.t.len, .int .i64 c.l0, .int .i64 c.l1, .int .i64 c.o0, .int .i64 c.o1, .int .i64 c.now, .int .i64 c.team, .int .i64 c.til] #[.int .i64 ClkD.zero.t.total, .int .i64 ClkD.zero.t.extra, .int .i64 ClkD.zero.t.outs, .int .i64 ClkD.zero.t.len, .int .i64 ClkD.zero.l0, .int .i64 ClkD.zero.l1, .int .i64 ClkD.zero.o0, .int .i64 ClkD.zero.o1, .int .i64 ClkD.zero.now, .int .i64 ClkD.zero.team, .int .i64 ClkD.zero.til] rfl rfl
            have HR0 := hid (hr.1.below hb1)
            have HR1 := hid (hr.2.below hb1)
            obtain ⟨c0, c1, c2, c3, c4, c5, c6, c7, c8, c9, c10, cf⟩ := cells11 HR0.out
            obtain ⟨d0, d1, d2, d3, d4, d5, d6, d7, d8, d9, d10, df⟩ := cells11 HR1.out
            clear hb1 hr
            go_wp2_with fail
            refine bodyPost_ret (res64 rfl rfl (put11_same _ _ _ _ _ _ _ _ _ _ _ HR1.out) rfl) rfl ?_
            rw [HS.out]
            exact ⟨rfl, put11_below _ _ _ _ _ _ _ _ _ _ _ HB1.out (Nat.le_succ _)⟩
          · have HS := hid (ClkD.out_y0 hz hct hl)
            have hl' : (c.o0 == 0) = false := by simpa using hl
            obtain ⟨z1, z2⟩ := ho.o0
            obtain ⟨y1, y2⟩ := ho.len
            obtain ⟨x1, x2⟩ := ht
            have nw := ho.now.1
            obtain ⟨q, hq⟩ : ∃ q, q = c.pass t := ⟨_, rfl⟩
            rw [← hq] at HP HS
            rw [show q.val = .agg #[.int .i64 q.t.total, .int .i64 q.t.extra, .int .i64 q.t.outs, .int .i64 q.t.len, .int .i64 q.l0, .int .i64 q.l1, .int .i64 q.o0, .int .i64 q.o1, .int .i64 q.now, .int .i64 q.team, .int .i64 q.til] from rfl] at HP
            have HQE := hid hq
            clear hq
            have hqo : q.o0 = c.o0 := by rw [HQE.out]; rfl
            have hql : q.t.len = c.t.len := by rw [HQE.out]; rfl
            rw [← hqo] at z1 z2
            rw [← hql] at y1 y2
            have hx0 : 0 ≤ t := by omega
            clear hz ho htm hct hl hqo hql x1 nw
            go_enter Tryd.func34, Tryd.ntmps34
            go_wp2_with (go_at_call 42; refine (in_any _ _ _ _).mono ?_; rintro e w' ⟨rfl, rfl⟩)
            refine (HT.out _).mono ?_
            rintro e w1 ⟨rfl, hb1⟩
            have HB1 := hid (two_then hb1)
            have hr := two_robj w c #[.int .i64 c.t.total, .int .i64 c.t.extra, .int .i64 c.t.outs, .int .i64 c.t.len, .int .i64 c.l0, .int .i64 c.l1, .int .i64 c.o0, .int .i64 c.o1, .int .i64 c.now, .int .i64 c.team, .int .i64 c.til] #[.int .i64 ClkD.zero.t.total, .int .i64 ClkD.zero.t.extra, .int .i64 ClkD.zero.t.outs, .int .i64 ClkD.zero.t.len, .int .i64 ClkD.zero.l0, .int .i64 ClkD.zero.l1, .int .i64 ClkD.zero.o0, .int .i64 ClkD.zero.o1, .int .i64 ClkD.zero.now, .int .i64 ClkD.zero.team, .int .i64 ClkD.zero.til] rfl rfl
            have HR0 := hid (hr.1.below hb1)
            have HR1 := hid (hr.2.below hb1)
            obtain ⟨c0, c1, c2, c3, c4, c5, c6, c7, c8, c9, c10, cf⟩ := cells11 HR0.out
            obtain ⟨d0, d1, d2, d3, d4, d5, d6, d7, d8, d9, d10, df⟩ := cells11 HR1.out
            clear hb1 hr
            go_upto_region 9 with fail
            go_cut [] (fun wx => RObj wx w.heap.size q ∧ RObj wx (w.heap.size + 1) ClkD.zero ∧ Below w.heap.size w wx)
            case first =>
              go_wp2_with fail
              refine (HP.out _ HTT.out).mono ?_
              rintro e w2 ⟨rfl, hb2⟩
              have HB2 := hid (HB1.out.trans (hb2.mono HB1.out.size))
              have HR02 := hid (HR0.out.below hb2)
              have HR12 := hid (HR1.out.below hb2)
              clear c0 c1 c2 c3 c4 c5 c6 c7 c8 c9 c10 cf d0 d1 d2 d3 d4 d5 d6 d7 d8 d9 d10 df hb2
              obtain ⟨c0, c1, c2, c3, c4, c5, c6, c7, c8, c9, c10, cf⟩ := cells11 HR02.out
              go_wp2_with fail
              go_meet
              exact ⟨put11_same _ _ _ _ _ _ _ _ _ _ _ HR02.out, (put11_other _ _ _ _ _ _ _ _ _ _ _ (Nat.ne_of_lt (Nat.lt_succ_self _))).trans HR12.out, put11_below _ _ _ _ _ _ _ _ _ _ _ HB2.out (Nat.le_refl _)⟩
            case rest =>
              obtain ⟨hr0, hr1, hb3⟩ := hcut
              have HR02 := hid hr0
              have HR12 := hid hr1
              have HB2 := hid hb3
              clear c0 c1 c2 c3 c4 c5 c6 c7 c8 c9 c10 cf d0 d1 d2 d3 d4 d5 d6 d7 d8 d9 d10 df hr0 hr1 hb3
              obtain ⟨c0, c1, c2, c3, c4, c5, c6, c7, c8, c9, c10, cf⟩ := cells11 HR02.out
              obtain ⟨d0, d1, d2, d3, d4, d5, d6, d7, d8, d9, d10, df⟩ := cells11 HR12.out
              go_wp2_with fail
              refine bodyPost_ret (res64 rfl rfl (put11_same _ _ _ _ _ _ _ _ _ _ _ ((heap_setCell_ne _ (Nat.ne_of_lt (Nat.lt_succ_self _))).trans ((heap_setCell_ne _ (Nat.ne_of_lt (Nat.lt_succ_self _))).trans HR12.out))) rfl) rfl ?_
              rw [HS.out]
              have hq := HQE.out
              subst hq
              exact ⟨rfl, put11_below _ _ _ _ _ _ _ _ _ _ _ ((HB2.out.setCell (p := ⟨w.heap.size, 6, none⟩) (Nat.le_refl _) _).setCell (p := ⟨w.heap.size, 10, none⟩) (Nat.le_refl _) _) (Nat.le_succ _)⟩
        · have HS := hid (ClkD.out_s hz hct)
          by_cases hne : c.team = 0
          · have hne' : (c.team != 0) = false := by simpa using hne
            have htl : t < c.til := by omega
            clear hz ho htm hct ht hne
            go_enter Tryd.func34, Tryd.ntmps34
            go_wp2_with (go_at_call 42; refine (in_any _ _ _ _).mono ?_; rintro e w' ⟨rfl, rfl⟩)
            refine (HT.out _).mono ?_
            rintro e w1 ⟨rfl, hb1⟩
            have HB1 := hid (two_then hb1)
            have hr := two_robj w c #[.int .i64 c.t.total, .int .i64 c.t.extra, .int .i64 c.t.outs, .int .i64 c.t.len, .int .i64 c.l0, .int .i64 c.l1, .int .i64 c.o0, .int .i64 c.o1, .int .i64 c.now, .int .i64 c.team, .int .i64 c.til] #[.int .i64 ClkD.zero.t.total, .int .i64 ClkD.zero.t.extra, .int .i64 ClkD.zero.t.outs, .int .i64 ClkD.zero.t.len, .int .i64 ClkD.zero.l0, .int .i64 ClkD.zero.l1, .int .i64 ClkD.zero.o0, .int .i64 ClkD.zero.o1, .int .i64 ClkD.zero.now, .int .i64 ClkD.zero.team, .int .i64 ClkD.zero.til] rfl rfl
            have HR0 := hid (hr.1.below hb1)
            have HR1 := hid (hr.2.below hb1)
            obtain ⟨c0, c1, c2, c3, c4, c5, c6, c7, c8, c9, c10, cf⟩ := cells11 HR0.out
            obtain ⟨d0, d1, d2, d3, d4, d5, d6, d7, d8, d9, d10, df⟩ := cells11 HR1.out
            clear hb1 hr
            go_wp2_with fail
            refine bodyPost_ret (res64 rfl rfl (put11_same _ _ _ _ _ _ _ _ _ _ _ HR1.out) rfl) rfl ?_
            rw [HS.out]
            exact ⟨rfl, put11_below _ _ _ _ _ _ _ _ _ _ _ HB1.out (Nat.le_succ _)⟩
          · have hne' : (c.team != 0) = true := by simpa using hne
            clear hz ho htm hct ht hne
            go_enter Tryd.func34, Tryd.ntmps34
            go_wp2_with (go_at_call 42; refine (in_any _ _ _ _).mono ?_; rintro e w' ⟨rfl, rfl⟩)
            refine (HT.out _).mono ?_
            rintro e w1 ⟨rfl, hb1⟩
            have HB1 := hid (two_then hb1)
            have hr := two_robj w c #[.int .i64 c.t.total, .int .i64 c.t.extra, .int .i64 c.t.outs, .int .i64 c.t.len, .int .i64 c.l0, .int .i64 c.l1, .int .i64 c.o0, .int .i64 c.o1, .int .i64 c.now, .int .i64 c.team, .int .i64 c.til] #[.int .i64 ClkD.zero.t.total, .int .i64 ClkD.zero.t.extra, .int .i64 ClkD.zero.t.outs, .int .i64 ClkD.zero.t.len, .int .i64 ClkD.zero.l0, .int .i64 ClkD.zero.l1, .int .i64 ClkD.zero.o0, .int .i64 ClkD.zero.o1, .int .i64 ClkD.zero.now, .int .i64 ClkD.zero.team, .int .i64 ClkD.zero.til] rfl rfl
            have HR0 := hid (hr.1.below hb1)
            have HR1 := hid (hr.2.below hb1)
            obtain ⟨c0, c1, c2, c3, c4, c5, c6, c7, c8, c9, c10, cf⟩ := cells11 HR0.out
            obtain ⟨d0, d1, d2, d3, d4, d5, d6, d7, d8, d9, d10, df⟩ := cells11 HR1.out
            clear hb1 hr
            go_wp2_with fail
            refine bodyPost_ret (res64 rfl rfl (put11_same _ _ _ _ _ _ _ _ _ _ _ HR1.out) rfl) rfl ?_
            rw [HS.out]
            exact ⟨rfl, put11_below _ _ _ _ _ _ _ _ _ _ _ HB1.out (Nat.le_succ _)⟩
      · by_cases hct : c.team = 1 ∧ c.til ≤ t
        · have hne : (c.team != 1) = false := by simpa using hct.1
          have htl : c.til ≤ t := hct.2
          by_cases hl : c.o1 = 0
          · have HS := hid (ClkD.out_n hz hct hl)
            have hl' : (c.o1 == 0) = true := by simpa using hl
            clear hz ho htm hct ht hl
            go_enter Tryd.func34, Tryd.ntmps34
            go_wp2_with (go_at_call 42; refine (in_any _ _ _ _).mono ?_; rintro e w' ⟨rfl, rfl⟩)
            refine (HT.out _).mono ?_
            rintro e w1 ⟨rfl, hb1⟩
            have HB1 := hid (two_then hb1)
            have hr := two_robj w c #[.int .i64 c.t.total, .int .i64 c.t.extra, .int .i64 c.t.outs, .int .i64 c.t.len, .int .i64 c.l0, .int .i64 c.l1, .int .i64 c.o0, .int .i64 c.o1, .int .i64 c.now, .int .i64 c.team, .int .i64 c.til] #[.int .i64 ClkD.zero.t.total, .int .i64 ClkD.zero.t.extra, .int .i64 ClkD.zero.t.outs, .int .i64 ClkD.zero.t.len, .int .i64 ClkD.zero.l0, .int .i64 ClkD.zero.l1, .int .i64 ClkD.zero.o0, .int .i64 ClkD.zero.o1, .int .i64 ClkD.zero.now, .int .i64 ClkD.zero.team, .int .i64 ClkD.zero.til] rfl rfl
            have HR0 := hid (hr.1.below hb1)
            have HR1 := hid (hr.2.below hb1)
            obtain ⟨c0, c1, c2, c3, c4, c5, c6, c7, c8, c9, c10, cf⟩ := cells11 HR0.out
            obtain ⟨d0, d1, d2, d3, d4, d5, d6, d7, d8, d9, d10, df⟩ := cells11 HR1.out
            clear hb1 hr
            go_wp2_with fail
            refine bodyPost_ret (res64 rfl rfl (put11_same _ _ _ _ _ _ _ _ _ _ _ HR1.out) rfl) rfl ?_
            rw [HS.out]
            exact ⟨rfl, put11_below _ _ _ _ _ _ _ _ _ _ _ HB1.out (Nat.le_succ _)⟩
          · have HS := hid (ClkD.out_y1 hz hct hl)
            have hl' : (c.o1 == 0) = false := by simpa using hl
            obtain ⟨z1, z2⟩ := ho.o1
            obtain ⟨y1, y2⟩ := ho.len
            obtain ⟨x1, x2⟩ := ht
            have nw := ho.now.1
            obtain ⟨q, hq⟩ : ∃ q, q = c.pass t := ⟨_, rfl⟩
            rw [← hq] at HP HS
            rw [show q.val = .agg #[.int .i64 q.t.total, .int .i64 q.t.extra, .int .i64 q.t.outs, .int .i64 q.t.len, .int .i64 q.l0, .int .i64 q.l1, .int .i64 q.o0, .int .i64 q.o1, .int .i64 q.now, .int .i64 q.team, .int .i64 q.til] from rfl] at HP
            have HQE := hid hq
            clear hq
            have hqo : q.o1 = c.o1 := by rw [HQE.out]; rfl
            have hql : q.t.len = c.t.len := by rw [HQE.out]; rfl
            rw [← hqo] at z1 z2
            rw [← hql] at y1 y2
            have hx0 : 0 ≤ t := by omega
            clear hz ho htm hct hl hqo hql x1 nw
            go_enter Tryd.func34, Tryd.ntmps34
            go_wp2_with (go_at_call 42; refine (in_any _ _ _ _).mono ?_; rintro e w' ⟨rfl, rfl⟩)
            refine (HT.out _).mono ?_
            rintro e w1 ⟨rfl, hb1⟩
            have HB1 := hid (two_then hb1)
            have hr := two_robj w c #[.int .i64 c.t.total, .int .i64 c.t.extra, .int .i64 c.t.outs, .int .i64 c.t.len, .int .i64 c.l0, .int .i64 c.l1, .int .i64 c.o0, .int .i64 c.o1, .int .i64 c.now, .int .i64 c.team, .int .i64 c.til] #[.int .i64 ClkD.zero.t.total, .int .i64 ClkD.zero.t.extra, .int .i64 ClkD.zero.t.outs, .int .i64 ClkD.zero.t.len, .int .i64 ClkD.zero.l0, .int .i64 ClkD.zero.l1, .int .i64 ClkD.zero.o0, .int .i64 ClkD.zero.o1, .int .i64 ClkD.zero.now, .int .i64 ClkD.zero.team, .int .i64 ClkD.zero.til] rfl rfl
            have HR0 := hid (hr.1.below hb1)
            have HR1 := hid (hr.2.below hb1)
            obtain ⟨c0, c1, c2, c3, c4, c5, c6, c7, c8, c9, c10, cf⟩ := cells11 HR0.out
            obtain ⟨d0, d1, d2, d3, d4, d5, d6, d7, d8, d9, d10, df⟩ := cells11 HR1.out
            clear hb1 hr
            go_upto_region 9 with fail
            go_cut [] (fun wx => RObj wx w.heap.size q ∧ RObj wx (w.heap.size + 1) ClkD.zero ∧ Below w.heap.size w wx)
            case first =>
              go_wp2_with fail
              refine (HP.out _ HTT.out).mono ?_
              rintro e w2 ⟨rfl, hb2⟩
              have HB2 := hid (HB1.out.trans (hb2.mono HB1.out.size))
              have HR02 := hid (HR0.out.below hb2)
              have HR12 := hid (HR1.out.below hb2)
              clear c0 c1 c2 c3 c4 c5 c6 c7 c8 c9 c10 cf d0 d1 d2 d3 d4 d5 d6 d7 d8 d9 d10 df hb2
              obtain ⟨c0, c1, c2, c3, c4, c5, c6, c7, c8, c9, c10, cf⟩ := cells11 HR02.out
              go_wp2_with fail
              go_meet
              exact ⟨put11_same _ _ _ _ _ _ _ _ _ _ _ HR02.out, (put11_other _ _ _ _ _ _ _ _ _ _ _ (Nat.ne_of_lt (Nat.lt_succ_self _))).trans HR12.out, put11_below _ _ _ _ _ _ _ _ _ _ _ HB2.out (Nat.le_refl _)⟩
            case rest =>
              obtain ⟨hr0, hr1, hb3⟩ := hcut
              have HR02 := hid hr0
              have HR12 := hid hr1
              have HB2 := hid hb3
              clear c0 c1 c2 c3 c4 c5 c6 c7 c8 c9 c10 cf d0 d1 d2 d3 d4 d5 d6 d7 d8 d9 d10 df hr0 hr1 hb3
              obtain ⟨c0, c1, c2, c3, c4, c5, c6, c7, c8, c9, c10, cf⟩ := cells11 HR02.out
              obtain ⟨d0, d1, d2, d3, d4, d5, d6, d7, d8, d9, d10, df⟩ := cells11 HR12.out
              go_wp2_with fail
              refine bodyPost_ret (res64 rfl rfl (put11_same _ _ _ _ _ _ _ _ _ _ _ ((heap_setCell_ne _ (Nat.ne_of_lt (Nat.lt_succ_self _))).trans ((heap_setCell_ne _ (Nat.ne_of_lt (Nat.lt_succ_self _))).trans HR12.out))) rfl) rfl ?_
              rw [HS.out]
              have hq := HQE.out
              subst hq
              exact ⟨rfl, put11_below _ _ _ _ _ _ _ _ _ _ _ ((HB2.out.setCell (p := ⟨w.heap.size, 7, none⟩) (Nat.le_refl _) _).setCell (p := ⟨w.heap.size, 10, none⟩) (Nat.le_refl _) _) (Nat.le_succ _)⟩
        · have HS := hid (ClkD.out_s hz hct)
          by_cases hne : c.team = 1
          · have hne' : (c.team != 1) = false := by simpa using hne
            have htl : t < c.til := by omega
            clear hz ho htm hct ht hne
            go_enter Tryd.func34, Tryd.ntmps34
            go_wp2_with (go_at_call 42; refine (in_any _ _ _ _).mono ?_; rintro e w' ⟨rfl, rfl⟩)
            refine (HT.out _).mono ?_
            rintro e w1 ⟨rfl, hb1⟩
            have HB1 := hid (two_then hb1)
            have hr := two_robj w c #[.int .i64 c.t.total, .int .i64 c.t.extra, .int .i64 c.t.outs, .int .i64 c.t.len, .int .i64 c.l0, .int .i64 c.l1, .int .i64 c.o0, .int .i64 c.o1, .int .i64 c.now, .int .i64 c.team, .int .i64 c.til] #[.int .i64 ClkD.zero.t.total, .int .i64 ClkD.zero.t.extra, .int .i64 ClkD.zero.t.outs, .int .i64 ClkD.zero.t.len, .int .i64 ClkD.zero.l0, .int .i64 ClkD.zero.l1, .int .i64 ClkD.zero.o0, .int .i64 ClkD.zero.o1, .int .i64 ClkD.zero.now, .int .i64 ClkD.zero.team, .int .i64 ClkD.zero.til] rfl rfl
            have HR0 := hid (hr.1.below hb1)
            have HR1 := hid (hr.2.below hb1)
            obtain ⟨c0, c1, c2, c3, c4, c5, c6, c7, c8, c9, c10, cf⟩ := cells11 HR0.out
            obtain ⟨d0, d1, d2, d3, d4, d5, d6, d7, d8, d9, d10, df⟩ := cells11 HR1.out
            clear hb1 hr
            go_wp2_with fail
            refine bodyPost_ret (res64 rfl rfl (put11_same _ _ _ _ _ _ _ _ _ _ _ HR1.out) rfl) rfl ?_
            rw [HS.out]
            exact ⟨rfl, put11_below _ _ _ _ _ _ _ _ _ _ _ HB1.out (Nat.le_succ _)⟩
          · have hne' : (c.team != 1) = true := by simpa using hne
            clear hz ho htm hct ht hne
            go_enter Tryd.func34, Tryd.ntmps34
            go_wp2_with (go_at_call 42; refine (in_any _ _ _ _).mono ?_; rintro e w' ⟨rfl, rfl⟩)
            refine (HT.out _).mono ?_
            rintro e w1 ⟨rfl, hb1⟩
            have HB1 := hid (two_then hb1)
            have hr := two_robj w c #[.int .i64 c.t.total, .int .i64 c.t.extra, .int .i64 c.t.outs, .int .i64 c.t.len, .int .i64 c.l0, .int .i64 c.l1, .int .i64 c.o0, .int .i64 c.o1, .int .i64 c.now, .int .i64 c.team, .int .i64 c.til] #[.int .i64 ClkD.zero.t.total, .int .i64 ClkD.zero.t.extra, .int .i64 ClkD.zero.t.outs, .int .i64 ClkD.zero.t.len, .int .i64 ClkD.zero.l0, .int .i64 ClkD.zero.l1, .int .i64 ClkD.zero.o0, .int .i64 ClkD.zero.o1, .int .i64 ClkD.zero.now, .int .i64 ClkD.zero.team, .int .i64 ClkD.zero.til] rfl rfl
            have HR0 := hid (hr.1.below hb1)
            have HR1 := hid (hr.2.below hb1)
            obtain ⟨c0, c1, c2, c3, c4, c5, c6, c7, c8, c9, c10, cf⟩ := cells11 HR0.out
            obtain ⟨d0, d1, d2, d3, d4, d5, d6, d7, d8, d9, d10, df⟩ := cells11 HR1.out
            clear hb1 hr
            go_wp2_with fail
            refine bodyPost_ret (res64 rfl rfl (put11_same _ _ _ _ _ _ _ _ _ _ _ HR1.out) rfl) rfl ?_
            rw [HS.out]
            exact ⟨rfl, put11_below _ _ _ _ _ _ _ _ _ _ _ HB1.out (Nat.le_succ _)⟩
end Go.Proofs.YtdbfnonpndlejaaDoor
