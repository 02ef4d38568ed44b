/- besomlaw08.GameSeconds walked. -/
import Derived.Test.YtdbfnonpndlejaaDoorS4
import Derived.Test.YtdbfnonpndlejaaDoorL2
import Derived.Deep.CutBlock
namespace Go.Proofs.YtdbfnonpndlejaaDoor
open Go.RowKit

/-- One press of a clock. -/
def pressR (c : ClkD) (x : PressD) (next : Int) : ClkD × Int :=
  if x.what = 1 then c.start x.team next else if x.what = 2 then c.stop next else if x.what = 3 then c.out x.team next else c.extra next
def wantR (c : ClkD) (x : PressD) (g next k : Int) : Int :=
  (if g = 0 ∧ c.team = k then max 0 (c.left k - max 0 (next - max c.now c.til)) else c.left k) + (if g = 0 ∧ x.what = 4 then c.t.extra else 0)
theorem at_now {N : Nat} {c : ClkD} (h : ClkOk N c) (k : Int) (t : Int) (ht : c.now = t) : c.at k t = c.left k := by
  have h0 := h.l0
  have h1 := h.l1
  subst ht
  unfold ClkD.at
  have : 0 ≤ c.left k := by unfold ClkD.left; split <;> omega
  split <;> omega
theorem press_ok {N : Nat} {c : ClkD} (x : PressD) (next : Int) (h : ClkOk N c) : ClkOk (N + 1) (pressR c x next).1 := by
  unfold pressR
  split
  · exact start_ok _ _ h
  · split
    · exact stop_ok _ h
    · split
      · exact out_ok _ _ h
      · exact extra_ok _ h
/-- What a press comes to. -/
def PressOk (c : ClkD) (x : PressD) (next : Int) (r : ClkD × Int) (k : Int) : Prop :=
  r.1.now = (if r.2 = 0 then next else c.now) ∧ r.1.left k = wantR c x r.2 (if r.2 = 0 then next else c.now) k ∧
    r.1.til = (if r.2 = 0 ∧ x.what = 3 then next + c.t.len else c.til) ∧ (r.2 = 0 → c.now ≤ next ∧ next ≤ 1073741824) ∧ r.1.t = c.t
theorem press_no (c : ClkD) (x : PressD) (next E k : Int) (h : E ≠ 0) : PressOk c x next (c, E) k := by
  refine ⟨by simp [h], ?_, by simp [h], fun h0 => absurd h0 h, rfl⟩
  simp [wantR, h]
theorem pass_left (c : ClkD) (t k : Int) (hk : k = 0 ∨ k = 1) : (c.pass t).left k = c.at k t := by
  rcases hk with rfl | rfl <;> simp [ClkD.pass, ClkD.left]
theorem press_law (c : ClkD) (x : PressD) (next : Int) (k : Int) (hk : k = 0 ∨ k = 1) (hx : x.what = 1 ∨ x.what = 2 ∨ x.what = 3 ∨ x.what = 4) :
    PressOk c x next (pressR c x next) k := by
  have hp := pass_left c next k hk
  have hat : c.at k next = if c.team = k then max 0 (c.left k - max 0 (next - max c.now c.til)) else c.left k := rfl
  unfold pressR
  rcases hx with h1 | h1 | h1 | h1
  · rw [if_pos h1]
    by_cases hz : c.wrong x.team next = 0
    · obtain ⟨-, ht⟩ := wrong_zero hz
      by_cases hm : c.team = -1
      · by_cases hl : c.left x.team = 0
        · rw [ClkD.start_n hz hm hl]; exact press_no _ _ _ _ _ (by decide)
        · rw [ClkD.start_y hz hm hl]
          refine ⟨by simp [ClkD.pass], ?_, by simp [ClkD.pass, h1], fun _ => ht, rfl⟩
          show (c.pass next).left k = _
          rw [hp, hat]
          simp [wantR, h1]
      · rw [ClkD.start_s hz hm]; exact press_no _ _ _ _ _ (by decide)
    · rw [ClkD.start_w rfl hz]; exact press_no _ _ _ _ _ hz
  · rw [if_neg (by omega), if_pos h1]
    by_cases hz : c.wrong 0 next = 0
    · obtain ⟨-, ht⟩ := wrong_zero hz
      by_cases hm : c.team = -1
      · rw [ClkD.stop_s hz hm]; exact press_no _ _ _ _ _ (by decide)
      · rw [ClkD.stop_y hz hm]
        refine ⟨by simp [ClkD.pass], ?_, by simp [ClkD.pass, h1], fun _ => ht, rfl⟩
        show (c.pass next).left k = _
        rw [hp, hat]
        simp [wantR, h1]
    · rw [ClkD.stop_w rfl hz]; exact press_no _ _ _ _ _ hz
  · rw [if_neg (by omega), if_neg (by omega), if_pos h1]
    by_cases hz : c.wrong x.team next = 0
    · obtain ⟨hk2, ht⟩ := wrong_zero hz
      by_cases hm : c.team = x.team ∧ c.til ≤ next
      · by_cases hl : c.outs x.team = 0
        · rw [ClkD.out_n hz hm hl]; exact press_no _ _ _ _ _ (by decide)
        · rcases hk2 with h2 | h2
          · rw [h2] at hz hm hl ⊢
            have hl' : c.o0 ≠ 0 := hl
            rw [ClkD.out_y0 hz hm hl']
            refine ⟨by simp [ClkD.pass], ?_, by simp [h1], fun _ => ht, rfl⟩
            show (c.pass next).left k = _
            rw [hp, hat]
            simp [wantR, h1]
          · rw [h2] at hz hm hl ⊢
            have hl' : c.o1 ≠ 0 := hl
            rw [ClkD.out_y1 hz hm hl']
            refine ⟨by simp [ClkD.pass], ?_, by simp [h1], fun _ => ht, rfl⟩
            show (c.pass next).left k = _
            rw [hp, hat]
            simp [wantR, h1]
      · rw [ClkD.out_s hz hm]; exact press_no _ _ _ _ _ (by decide)
    · rw [ClkD.out_w rfl hz]; exact press_no _ _ _ _ _ hz
  · rw [if_neg (by omega), if_neg (by omega), if_neg (by omega)]
    by_cases hz : c.wrong 0 next = 0
    · obtain ⟨-, ht⟩ := wrong_zero hz
      by_cases hm : c.team = -1
      · rw [ClkD.extra_y hz hm]
        refine ⟨by simp [ClkD.pass], ?_, by simp [ClkD.pass, h1], fun _ => ht, rfl⟩
        rcases hk with rfl | rfl
        · simp [wantR, h1, hm, ClkD.left, ClkD.pass, ClkD.at]
        · simp [wantR, h1, hm, ClkD.left, ClkD.pass, ClkD.at]
      · rw [ClkD.extra_s hz hm]; exact press_no _ _ _ _ _ (by decide)
    · rw [ClkD.extra_w rfl hz]; exact press_no _ _ _ _ _ hz
theorem left_pos {N : Nat} {c : ClkD} (h : ClkOk N c) (k : Int) : 0 ≤ c.left k := by
  have h0 := h.l0
  have h1 := h.l1
  unfold ClkD.left
  split <;> omega
theorem wrong_zero2 {N : Nat} {c : ClkD} (h : ClkOk N c) {k : Int} (hk : k = 0 ∨ k = 1) : c.wrong k c.now = 0 := by
  have hn := h.now
  unfold ClkD.wrong
  have h1 : inB k 0 1 = true := by rcases hk with rfl | rfl <;> rfl
  have h2 : inB c.now c.now 1073741824 = true := by unfold inB; simp; omega
  rw [h1, h2]; rfl
theorem left_zero {N : Nat} {c : ClkD} (h : ClkOk N c) {k : Int} (hk : k = 0 ∨ k = 1) : c.leftR k c.now = c.left k := by
  unfold ClkD.leftR
  rw [if_pos (wrong_zero2 h hk), at_now h k c.now rfl]
/-- One of two cells stored. -/
theorem put_two {w : World} {T : Nat} (a b q : Int) (j : Nat) (hj : j < 2) (hq : j = 0 ∧ q = a ∨ j = 1 ∧ q = b) (h : w.heap[T]? = some (.cells #[.int .i64 (if 0 < j then a else 0), .int .i64 (if 1 < j then b else 0)] 26 (0, 0))) :
    (w.setCell ⟨T, j, none⟩ (.int .i64 q)).heap[T]? = some (.cells #[.int .i64 (if 0 < j + 1 then a else 0), .int .i64 (if 1 < j + 1 then b else 0)] 26 (0, 0)) := by
  have hs := heap_setCell_same _ T j _ 26 (.int .i64 q) h
  rw [hs]
  rcases hq with ⟨rfl, rfl⟩ | ⟨rfl, rfl⟩ <;> simp
theorem drewC {w : World} {B : Nat} {c : ClkD} (h : CObj w B c) (n : Nat) : CObj (w.drewN n) B c := h
theorem two_at {w : World} {T : Nat} {c : ClkD} (j : Nat) (hj : j < 2) (h : w.heap[T]? = some (.cells #[.int .i64 (c.left 0), .int .i64 (c.left 1)] 26 (0, 0))) : w.cell? ⟨T, j, none⟩ = some (.int .i64 (c.left j)) := by
  obtain rfl | rfl : j = 0 ∨ j = 1 := by omega
  · exact cellB h 0
  · exact cellB h 1
theorem want_b {c : ClkD} {x : PressD} {E nx : Int} {j : Nat} {bt bw : Bool} {y : Int} (ht : (c.team == (j : Int)) = bt) (hw : (x.what == 4) = bw) (hE : E = 0) (h : y = wantR c x E nx j) :
    y = (if bt then max 0 (c.left j - max 0 (nx - max c.now c.til)) else c.left j) + (if bw then c.t.extra else 0) := by
  subst ht hw hE h
  unfold wantR
  simp
theorem left_le {N : Nat} {c : ClkD} (h : ClkOk N c) (hN : N ≤ 1000) (k : Int) : 0 ≤ c.left k ∧ c.left k ≤ 1173741824 := by
  have h0 := h.l0
  have h1 := h.l1
  unfold ClkD.left
  split <;> omega
theorem extra_le {t : TimesD} (h : t.ok = true) : 0 ≤ t.extra ∧ t.extra ≤ 100000 := by
  unfold TimesD.ok inB at h
  simp at h
  omega
theorem len_le {t : TimesD} (h : t.ok = true) : 0 ≤ t.len ∧ t.len ≤ 100000 := by
  unfold TimesD.ok inB at h
  simp at h
  omega
/-- The law's state: the clock, the box of the times. -/
def SecS (w : World) (B k : Nat) (t : TimesD) (q : ClkD) (wx : World) : Prop :=
  CObj wx B q ∧ ClkOk k q ∧ Below w.heap.size w wx ∧ wx.cell? ⟨w.heap.size, 1, none⟩ = some (.int .i64 t.extra) ∧ wx.cell? ⟨w.heap.size, 3, none⟩ = some (.int .i64 t.len) ∧ q.t = t
set_option maxRecDepth 100000 in
set_option maxHeartbeats 2000000 in
theorem gameSeconds_any (t : TimesD) (v : Value) (l : List PressD) (w : World) (hl : SlP w v l) (hA : ∀ w1, Below w.heap.size w w1 → Calls Tryd.prog 10 #[] w1 fun e w' => e = .returned (.bool true) ∧ Below w1.heap.size w1 w') : Calls Tryd.prog 7 #[t.val, v] w (True1 w) := by
  have HA := hid hA
  have HL := hid hl
  obtain ⟨al, cl, rfl, hll, -⟩ := hl.open
  have HV := hid (show t.val = .agg #[.int .i64 t.total, .int .i64 t.extra, .int .i64 t.outs, .int .i64 t.len] from rfl)
  rw [HV.out]
  clear hA hl
  go_enter Tryd.func7, Tryd.ntmps7
  go_upto_region 1 with fail
  obtain ⟨W0, e0, hz0, hb0, hc0, hf0⟩ := box_new w #[.int .i64 t.total, .int .i64 t.extra, .int .i64 t.outs, .int .i64 t.len] 47
  rw [e0]
  have c0 := hc0 0
  have c1 := hc0 1
  have c2 := hc0 2
  have c3 := hc0 3
  simp only [List.getElem?_toArray, List.getElem?_cons_zero, List.getElem?_cons_succ] at c0 c1 c2 c3
  have HB0 := hid hb0
  have HZ := hid hz0
  clear e0 hz0 hb0 hc0 hf0
  by_cases hlen : 200 < l.length
  · clear c0 c1 c2 c3
    go_wp2_with fail
    refine (HA.out _ HB0.out).mono ?_
    rintro e w1 ⟨rfl, hb1⟩
    have HB1 := hid (HB0.out.trans (hb1.mono HB0.out.size))
    clear hb1
    go_wp2_with fail
    go_ret
    exact ⟨rfl, HB1.out⟩
  · have HN := hid (newClock_any t W0)
    rw [HV.out] at HN
    cases hok : t.ok with
    | false =>
      rw [hok] at HN
      clear hok
      go_wp2_with fail
      refine HN.out.mono ?_
      rintro e w1 ⟨h1, -⟩
      obtain ⟨rfl, hb1⟩ := h1 (by simp)
      have HB1 := hid (HB0.out.trans (hb1.mono HB0.out.size))
      clear hb1 c0 c1 c2 c3 h1
      go_wp2_with fail
      refine (HA.out _ HB1.out).mono ?_
      rintro e w4 ⟨rfl, hb4⟩
      have HB4 := hid (HB1.out.trans (hb4.mono HB1.out.size))
      clear hb4
      go_wp2_with fail
      go_ret
      exact ⟨rfl, HB4.out⟩
    | true =>
      have HOT := hid (new_ok hok)
      have HTK := hid hok
      rw [hok] at HN
      clear hok
      go_wp2_with fail
      refine HN.out.mono ?_
      rintro e w1 ⟨-, h1⟩
      obtain ⟨B, hB, rfl, hb1, hc1⟩ := h1 (by simp)
      have d1 := bcs hb1 c1
      have d3 := bcs hb1 c3
      have HB1 := hid (HB0.out.trans (hb1.mono HB0.out.size))
      have HS0 := hid (show SecS w B 0 t ⟨t, t.total, t.total, t.outs, t.outs, -1, 0, 0⟩ w1 from ⟨hc1, HOT.out, HB1.out, d1, d3, rfl⟩)
      have HWB := hid (show w.heap.size < B by have := HZ.out; omega)
      clear hb1 c0 c1 c2 c3 h1 hc1 hB d1 d3
      go_wp2_with fail
      go_loopw [7, 8] (fun u i wr => ∃ (k : Nat) (c : ClkD), k ≤ l.length ∧ i = .int .i64 k ∧ u = .int .i64 c.til ∧ SecS w B k t c wr) (fun _ i _ => l.length - (intOf i).toNat)
      case atStart => exact ⟨0, _, Nat.zero_le _, rfl, rfl, HS0.out⟩
      case round =>
        obtain ⟨k, c, hk, rfl, rfl, hs⟩ := hrel
        obtain ⟨wo, rfl⟩ : ∃ wo, wo = wr := ⟨_, rfl⟩
        have HSO := hid hs
        clear hs
        by_cases hkl : k < l.length
        · have HOK := hid HSO.out.2.1
          have HBO := hid HSO.out.2.2.1
          have HCO := hid HSO.out.1
          obtain ⟨al2, cl2, ee, -, hxx⟩ := (HL.out.below HBO.out).open
          obtain ⟨bb, off, rfl, hbb, -⟩ := hxx k hkl
          obtain ⟨e1, -, -⟩ := Value.slice.inj ee
          subst e1
          clear hxx ee
          have HXC0 := hid (fun (wx : World) (hb : Below w.heap.size w wx) => show wx.cell? ⟨bb, off + k * 4, none⟩ = some (.int .i64 l[k].what) ∧ wx.cell? ⟨bb, off + k * 4 + 1, none⟩ = some (.int .i64 l[k].team) ∧ wx.cell? ⟨bb, off + k * 4 + 2, none⟩ = some (.int .i64 l[k].t) ∧ wx.cell? ⟨bb, off + k * 4 + 3, none⟩ = some (.bool l[k].later) from by
            obtain ⟨al2, cl2, ee, -, hxx⟩ := (HL.out.below hb).open
            obtain ⟨b3, off3, e3, -, hxx⟩ := hxx k hkl
            obtain ⟨e1, -, -⟩ := Value.slice.inj ee
            rw [← e1] at e3
            injection e3 with e3
            injection e3 with e4 e5
            subst e4 e5
            exact hxx k hkl)
          obtain ⟨x, hx⟩ : ∃ x, x = l[k] := ⟨_, rfl⟩
          rw [← hx] at HXC0
          have HXC := hid HXC0.out
          have hk1000 : k ≤ 1000 := by omega
          clear hx HXC0 hlen
          obtain ⟨x0, x1, x2, x3⟩ := HXC.out wo HBO.out
          by_cases hbig : x.t > 1099511627776 ∨ x.t < -1099511627776
          · skip
            clear x0 x1 x3
            generalize x.t = tt at *
            by_cases hb1 : tt > 1099511627776
            · clear hbig
              go_wp2_with fail
              refine (HA.out _ HBO.out).mono ?_
              rintro e w1 ⟨rfl, hb1⟩
              have HB1 := hid (HBO.out.trans (hb1.mono HBO.out.size))
              clear hb1
              go_wp2_with fail
              go_ret
              exact ⟨rfl, HB1.out⟩
            · have hb2 : tt < -1099511627776 := by omega
              clear hbig
              go_wp2_with fail
              refine (HA.out _ HBO.out).mono ?_
              rintro e w1 ⟨rfl, hb1⟩
              have HB1 := hid (HBO.out.trans (hb1.mono HBO.out.size))
              clear hb1
              go_wp2_with fail
              go_ret
              exact ⟨rfl, HB1.out⟩
          · have ht1 : x.t ≤ 1099511627776 := by omega
            have ht2 : -1099511627776 ≤ x.t := by omega
            have HAT := hid (fun W => at_law_any x c.now W HOK.out.now ⟨ht2, ht1⟩)
            clear hbig
            go_upto_region 13 with (go_at_call 22; refine (running_any B c _ HCO.out).mono ?_; rintro e w4 ⟨rfl, n4, rfl⟩)
            go_upto_region 14 with (go_at_call 23; refine (HAT.out _).mono ?_; rintro e w4 ⟨rfl, hb4⟩)
            have hb2 : Below wo.heap.size wo w4 := (drewNB (Below.refl _ _) _).trans hb4
            have HB2 := hid (HBO.out.trans (hb2.mono HBO.out.size))
            have HC2 := hid (HCO.out.below hb2)
            have HTE := hid (bcs hb2 HSO.out.2.2.2.1)
            have HTL := hid (bcs hb2 HSO.out.2.2.2.2.1)
            have HNX := hid (show x.at c.now = x.at c.now from rfl)
            obtain ⟨next, hnx⟩ : ∃ n, x.at c.now = n := ⟨_, rfl⟩
            rw [hnx]
            have HNX := hid hnx
            clear x0 x1 x2 x3 hb2 hb4 HAT ht1 ht2 hnx
            obtain ⟨W2, rfl⟩ : ∃ W2, W2 = w4 := ⟨_, rfl⟩
            go_upto_region 15 with fail
            obtain ⟨T, hT⟩ : ∃ T, W2.heap.size = T := ⟨_, rfl⟩
            have hTB : B < W2.heap.size := HC2.out.lt
            have h3 := heap_alloc_new W2 (.cells #[.int .i64 0, .int .i64 0] 26)
            have hb3 : Below W2.heap.size W2 (W2.alloc (.cells #[.int .i64 0, .int .i64 0] 26)) := (Below.refl _ _).alloc (Nat.le_refl _) _
            generalize W2.alloc (.cells #[.int .i64 0, .int .i64 0] 26) = W3 at *
            rw [hT] at h3 hb3 hTB
            rw [hT]
            have H3 := hid h3
            have HB3 := hid hb3
            have HTT := hid hT
            have HTB := hid hTB
            clear h3 hb3 hT hTB
            go_wp2_with fail
            go_loopw [13] (fun i wr => ∃ j : Nat, j ≤ 2 ∧ i = .int .i64 j ∧ wr.heap[T]? = some (.cells #[.int .i64 (if 0 < j then c.left 0 else 0), .int .i64 (if 1 < j then c.left 1 else 0)] 26 (0, 0)) ∧ Below T W2 wr) (fun i _ => 2 - (intOf i).toNat)
            case atStart => exact ⟨0, by omega, rfl, H3.out, HB3.out⟩
            case round =>
              obtain ⟨j, hj, rfl, hbx, hbl⟩ := hrel
              obtain ⟨wj, rfl⟩ : ∃ wj, wj = wr := ⟨_, rfl⟩
              have hbl2 : Below W2.heap.size W2 wj := by rw [HTT.out]; exact hbl
              have HCJ := hid (HC2.out.below hbl2)
              have HBJ := hid (HB2.out.trans (hbl2.mono HB2.out.size))
              have HBL := hid hbl
              have HBX := hid hbx
              clear hbx hbl hbl2
              by_cases hj2 : j < 2
              · have hjj : (j : Int) = 0 ∨ (j : Int) = 1 := by omega
                have HL1 := hid (left_any B c j c.now wj HCJ.out k hk1000 HOK.out)
                rw [left_zero HOK.out hjj, wrong_zero2 HOK.out hjj] at HL1
                have hl0 := left_pos HOK.out j
                have hjI : (j : Int) < 2 := by omega
                have hqj : j = 0 ∧ c.left j = c.left 0 ∨ j = 1 ∧ c.left j = c.left 1 := by
                  rcases hjj with h | h
                  · exact .inl ⟨by omega, by rw [h]⟩
                  · exact .inr ⟨by omega, by rw [h]⟩
                have HPJ := hid (put_two (c.left 0) (c.left 1) (c.left j) j hj2 hqj HBX.out)
                have hf : wj.frozen? ⟨T, j, none⟩ = false := by simp [World.frozen?, HBX.out]
                have hcj : wj.cell? ⟨T, j, none⟩ = some (.int .i64 0) := by
                  rw [cellB HBX.out j]
                  rcases hqj with ⟨rfl, -⟩ | ⟨rfl, -⟩ <;> rfl
                clear hqj
                generalize c.left j = q at *
                clear hjj
                go_wp2_with (go_at_call 24; refine HL1.out.mono ?_; rintro e w5 ⟨rfl, n5, rfl⟩)
                have hbs : Below T W2 ((wj.drewN n5).setCell ⟨T, j, none⟩ (.int .i64 q)) := (drewNB HBL.out _).setCell (p := ⟨T, j, none⟩) (Nat.le_refl _) _
                refine ⟨⟨j + 1, by omega, by go_num, HPJ.out, hbs⟩, by simp [intOf]; omega⟩
              · obtain rfl : j = 2 := by omega
                obtain ⟨x0, x1, x2, x3⟩ := HXC.out wj HBJ.out
                by_cases hd : x.what = 1 ∨ x.what = 2 ∨ x.what = 3 ∨ x.what = 4
                · have HD := hid hd
                  go_upto_block 4 with fail
                  go_cut [16] (fun g wx => g = .int .i64 (pressR c x next).2 ∧ CPost B (pressR c x next).1 wj wx)
                  case first =>
                    rcases hd with h1 | h1 | h1 | h1
                    · have g1 : (x.what == 1) = true := by simpa using h1
                      have hpr : pressR c x next = c.start x.team next := by unfold pressR; rw [if_pos h1]
                      have HS1 := hid (start_any B c x.team next wj HCJ.out k hk1000 HOK.out)
                      have HPR := hid hpr
                      clear h1 hpr
                      go_wp2_with (go_at_call 25; refine HS1.out.mono ?_; rintro e w5 ⟨rfl, hc5⟩)
                      go_meet
                      rw [HPR.out]
                      exact ⟨rfl, hc5⟩
                    · have g1 : (x.what == 2) = true := by simpa using h1
                      have hpr : pressR c x next = c.stop next := by unfold pressR; rw [if_neg (by omega), if_pos h1]
                      have HS1 := hid (stop_any B c next wj HCJ.out k hk1000 HOK.out)
                      have HPR := hid hpr
                      clear h1 hpr
                      go_wp2_with (go_at_call 26; refine HS1.out.mono ?_; rintro e w5 ⟨rfl, hc5⟩)
                      go_meet
                      rw [HPR.out]
                      exact ⟨rfl, hc5⟩
                    · have g1 : (x.what == 3) = true := by simpa using h1
                      have hpr : pressR c x next = c.out x.team next := by unfold pressR; rw [if_neg (by omega), if_neg (by omega), if_pos h1]
                      have HS1 := hid (out_any B c x.team next wj HCJ.out k hk1000 HOK.out)
                      have HPR := hid hpr
                      clear h1 hpr
                      go_wp2_with (go_at_call 27; refine HS1.out.mono ?_; rintro e w5 ⟨rfl, hc5⟩)
                      go_meet
                      rw [HPR.out]
                      exact ⟨rfl, hc5⟩
                    · have g1 : (x.what == 4) = true := by simpa using h1
                      have hpr : pressR c x next = c.extra next := by unfold pressR; rw [if_neg (by omega), if_neg (by omega), if_neg (by omega)]
                      have HS1 := hid (extra_any B c next wj HCJ.out k hk1000 HOK.out)
                      have HPR := hid hpr
                      clear h1 hpr
                      go_wp2_with (go_at_call 28; refine HS1.out.mono ?_; rintro e w5 ⟨rfl, hc5⟩)
                      go_meet
                      rw [HPR.out]
                      exact ⟨rfl, hc5⟩
                  case rest =>
                    obtain ⟨rfl, hc4, ho4⟩ := hcut
                    obtain ⟨W4, rfl⟩ : ∃ W4, W4 = wc := ⟨_, rfl⟩
                    have hP0 := press_law c x next 0 (.inl rfl) HD.out
                    have hP1 := press_law c x next 1 (.inr rfl) HD.out
                    have hQO := press_ok x next HOK.out
                    obtain ⟨r, hr⟩ : ∃ r, pressR c x next = r := ⟨_, rfl⟩
                    rw [hr] at hP0 hP1 hQO hc4 ⊢
                    obtain ⟨q, E⟩ := r
                    dsimp only at hc4 ho4 hQO ⊢
                    have hTj : B < T := HTB.out
                    have hbw4 : Below w.heap.size w W4 := HBJ.out.trans (ho4.bel.mono (Nat.le_of_lt HWB.out))
                    have HP0 := hid hP0
                    have HP1 := hid hP1
                    have HQO := hid hQO
                    have HC4 := hid hc4
                    have HB4 := hid hbw4
                    have hT4 : W4.heap[T]? = some (.cells #[.int .i64 (c.left 0), .int .i64 (c.left 1)] 26 (0, 0)) := (ho4.rest T hTj (Array.getElem?_eq_some_iff.1 HBX.out).1).trans HBX.out
                    have HT4 := hid hT4
                    have hlt := HTT.out
                    have hte := bcs (show Below W2.heap.size W2 wj by rw [HTT.out]; exact HBL.out) HTE.out
                    have htl := bcs (show Below W2.heap.size W2 wj by rw [HTT.out]; exact HBL.out) HTL.out
                    have te4 := rdB ho4.bel HWB.out hte
                    have tl4 := rdB ho4.bel HWB.out htl
                    obtain ⟨x0, x1, x2, x3⟩ := HXC.out W4 hbw4
                    clear hP0 hP1 hQO hc4 ho4 hr hbw4 hT4 hlt hte htl hTj
                    obtain ⟨nx, hnx⟩ : ∃ nx, q.now = nx := ⟨_, rfl⟩
                    have HLQ := hid (fun (j : Nat) (W : World) (h : CObj W B q) => left_any B q j nx W h (k + 1) (by omega) HQO.out)
                    have HPN := hid (HP0.out.1.symm.trans hnx)
                    by_cases hg : E = 0
                    · have hgb : (E != 0) = false := by simp [hg]
                      have hgc : (E == 0) = true := by simp [hg]
                      have hne : next = nx := by have := HPN.out; rw [if_pos hg] at this; exact this
                      have HG := hid hg
                      clear hg
                      subst hne
                      go_wp2_with fail
                      go_loopw [17] (fun i wr => ∃ j n : Nat, j ≤ 2 ∧ i = .int .i64 j ∧ wr = W4.drewN n) (fun i _ => 2 - (intOf i).toNat)
                      case atStart => exact ⟨0, 0, by omega, rfl, rfl⟩
                      case round =>
                        obtain ⟨j, n, hj, rfl, rfl⟩ := hrel
                        by_cases hj2 : j < 2
                        · have hjj : (j : Int) = 0 ∨ (j : Int) = 1 := by omega
                          have HL2 := hid (HLQ.out j (W4.drewN n) (drewC HC4.out n))
                          have hjI : (j : Int) < 2 := by omega
                          have hct : W4.cell? ⟨T, j, none⟩ = some (.int .i64 (c.left j)) := two_at j hj2 HT4.out
                          have HW := hid (show q.left j = wantR c x E next j from by
                            rcases hjj with h | h
                            · rw [h]; have := HP0.out.2.1; rw [HPN.out] at this; exact this
                            · rw [h]; have := HP1.out.2.1; rw [HPN.out] at this; exact this)
                          rw [show q.leftR j next = q.left j by rw [← hnx]; exact left_zero HQO.out hjj, show q.wrong j next = 0 by rw [← hnx]; exact wrong_zero2 HQO.out hjj] at HL2
                          obtain ⟨bt, hbt⟩ : ∃ b, (c.team == (j : Int)) = b := ⟨_, rfl⟩
                          obtain ⟨bw, hbw⟩ : ∃ b, (x.what == 4) = b := ⟨_, rfl⟩
                          have hwb := want_b hbt hbw HG.out HW.out
                          have hlb := left_le HOK.out hk1000 j
                          have hnb := HOK.out.now
                          have htb := HOK.out.til
                          have hxb := HP0.out.2.2.2.1 HG.out
                          have heb := extra_le HTK.out
                          rw [HSO.out.2.2.2.2.2] at hwb
                          generalize hcl : c.left (j : Int) = cl1 at *
                          generalize hql : q.left (j : Int) = ql1 at *
                          cases bt <;> cases bw
                          all_goals
                            simp only [if_true, if_false, Bool.false_eq_true] at hwb
                            have HWB2 := hid hwb
                            clear hwb hcl hql
                            go_wp2_with (go_at_call 24; refine HL2.out.mono ?_; rintro e w5 ⟨rfl, n5, rfl⟩)
                          all_goals first
                            | (exfalso
                               have hne := ‹(ql1 != _) = true›
                               rw [bne_iff_ne] at hne
                               refine hne ?_
                               have h := HWB2.out
                               omega)
                            | (with_reducible refine ⟨⟨j + 1, n + n5, (by omega), (by go_num), ?_⟩, (by simp [intOf]; omega)⟩; rfl)
                        · obtain rfl : j = 2 := by omega
                          have HTI := hid HP0.out.2.2.1
                          by_cases h3 : x.what = 3
                          · have h3b : (x.what == 3) = true := by simp [h3]
                            have HU := hid (show q.til = next + t.len by
                              have h := HTI.out
                              rw [if_pos ⟨HG.out, h3⟩, HSO.out.2.2.2.2.2] at h
                              exact h)
                            have hxb := HP0.out.2.2.2.1 HG.out
                            have hlb := len_le HTK.out
                            have hnb := HOK.out.now
                            clear h3
                            go_wp2_with fail
                            exact ⟨⟨k + 1, q, by omega, by go_num, by rw [HU.out], drewC HC4.out n, HQO.out, drewNB HB4.out n, te4, tl4, HP0.out.2.2.2.2.trans HSO.out.2.2.2.2.2⟩, by simp [intOf]; omega⟩
                          · have h3b : (x.what == 3) = false := by simp [h3]
                            have HU := hid (show q.til = c.til by
                              have h := HTI.out
                              rw [if_neg (fun e => h3 e.2)] at h
                              exact h)
                            clear h3
                            go_wp2_with fail
                            exact ⟨⟨k + 1, q, by omega, by go_num, by rw [HU.out], drewC HC4.out n, HQO.out, drewNB HB4.out n, te4, tl4, HP0.out.2.2.2.2.trans HSO.out.2.2.2.2.2⟩, by simp [intOf]; omega⟩
                    · have hgb : (E != 0) = true := by simp [hg]
                      have hgc : (E == 0) = false := by simp [hg]
                      have hne : c.now = nx := by have := HPN.out; rw [if_neg hg] at this; exact this
                      have HG := hid hg
                      clear hg
                      subst hne
                      go_wp2_with fail
                      go_loopw [17] (fun i wr => ∃ j n : Nat, j ≤ 2 ∧ i = .int .i64 j ∧ wr = W4.drewN n) (fun i _ => 2 - (intOf i).toNat)
                      case atStart => exact ⟨0, 0, by omega, rfl, rfl⟩
                      case round =>
                        obtain ⟨j, n, hj, rfl, rfl⟩ := hrel
                        by_cases hj2 : j < 2
                        · have hjj : (j : Int) = 0 ∨ (j : Int) = 1 := by omega
                          have HL2 := hid (HLQ.out j (W4.drewN n) (drewC HC4.out n))
                          have hjI : (j : Int) < 2 := by omega
                          have hct : W4.cell? ⟨T, j, none⟩ = some (.int .i64 (c.left j)) := two_at j hj2 HT4.out
                          have hW : q.left j = c.left j := by
                            have h : q.left j = wantR c x E c.now j := by
                              rcases hjj with h | h
                              · rw [h]; have := HP0.out.2.1; rw [HPN.out] at this; exact this
                              · rw [h]; have := HP1.out.2.1; rw [HPN.out] at this; exact this
                            rw [h]
                            unfold wantR
                            rw [if_neg (fun e => HG.out e.1), if_neg (fun e => HG.out e.1)]
                            exact Int.add_zero _
                          rw [show q.leftR j c.now = q.left j by rw [← hnx]; exact left_zero HQO.out hjj, show q.wrong j c.now = 0 by rw [← hnx]; exact wrong_zero2 HQO.out hjj, hW] at HL2
                          have hself : (c.left j != c.left j) = false := by simp
                          clear hjj hnx hW
                          go_wp2_with (go_at_call 24; refine HL2.out.mono ?_; rintro e w5 ⟨rfl, n5, rfl⟩)
                          with_reducible refine ⟨⟨j + 1, n + n5, (by omega), (by go_num), ?_⟩, (by simp [intOf]; omega)⟩
                          rfl
                        · obtain rfl : j = 2 := by omega
                          have HU := hid (show q.til = c.til by
                            have h := HP0.out.2.2.1
                            rw [if_neg (fun e => HG.out e.1)] at h
                            exact h)
                          clear hnx
                          go_wp2_with fail
                          exact ⟨⟨k + 1, q, by omega, by go_num, by rw [HU.out], drewC HC4.out n, HQO.out, drewNB HB4.out n, te4, tl4, HP0.out.2.2.2.2.trans HSO.out.2.2.2.2.2⟩, by simp [intOf]; omega⟩
                · have d1 : (x.what == 1) = false := by simp; omega
                  have d2 : (x.what == 2) = false := by simp; omega
                  have d3 : (x.what == 3) = false := by simp; omega
                  have d4 : (x.what == 4) = false := by simp; omega
                  clear hd
                  go_wp2_with fail
                  refine ⟨⟨k + 1, c, by omega, by go_num, rfl, HCJ.out, HOK.out.mono (by omega), HBJ.out, bcs (by rw [HTT.out]; exact HBL.out) HTE.out, bcs (by rw [HTT.out]; exact HBL.out) HTL.out, HSO.out.2.2.2.2.2⟩, by simp [intOf]; omega⟩
        · go_wp2_with fail
          refine (HA.out _ HSO.out.2.2.1).mono ?_
          rintro e w4 ⟨rfl, hb4⟩
          have HB4 := hid (HSO.out.2.2.1.trans (hb4.mono HSO.out.2.2.1.size))
          clear hb4
          go_wp2_with fail
          go_ret
          exact ⟨rfl, HB4.out⟩
end Go.Proofs.YtdbfnonpndlejaaDoor
