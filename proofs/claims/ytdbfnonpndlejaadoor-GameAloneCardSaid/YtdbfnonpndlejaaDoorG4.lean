/- besomlaw08.GameAlone walked. -/
import Derived.Test.YtdbfnonpndlejaaDoorG3
import Derived.Test.YtdbfnonpndlejaaDoorM5
import Derived.Test.YtdbfnonpndlejaaDoorX1
namespace Go.Proofs.YtdbfnonpndlejaaDoor
open Go.RowKit Go.Shelf

set_option maxRecDepth 100000 in
theorem rd_u8 {H : Type} {enc : TypeId × Value → H} {w : World} {r : Reach} {b0 : Nat} {v : Value} {d : DataW H} {ps : List MemPlace} (h : DataW.Trod enc Tryd.prog w 0 (fun _ => true) true 5 v d ps) (hv : Value.okWide Tryd.prog w r b0 5 v) :
    ∃ n : Nat, v = .int .u8 n ∧ n ≤ 255 := by
  obtain ⟨n, rfl⟩ := Go.WideShapes.okWide_int Tryd.underlying5 hv
  obtain ⟨fuel, hf⟩ := h
  obtain ⟨z, e, -, hwf⟩ := DataW.trod_int Tryd.underlying5 hf
  simp only [Value.cells, List.cons.injEq, and_true] at e
  obtain ⟨-, rfl⟩ := Value.int.inj e
  have : 0 ≤ n ∧ n ≤ 255 := by
    have h1 : IntKind.u8.min = 0 := rfl
    have h2 : IntKind.u8.max = 255 := rfl
    simp [Lit.wf, h1, h2] at hwf
    omega
  exact ⟨n.toNat, by rw [show ((n.toNat : Nat) : Int) = n by omega], by omega⟩
theorem over_t {e a b : Int} {k : Nat} (he : e ≤ (k : Int) + 1) : Value.bool (a != b) = .bool (decide (e ≤ ((k + 1 : Nat) : Int)) && decide (a ≠ b)) := by
  have h : e ≤ ((k + 1 : Nat) : Int) := by omega
  rw [decide_eq_true h]
  simp [bne]
  rfl
theorem over_f {e a b : Int} {k : Nat} (he : ¬ e ≤ (k : Int) + 1) : Value.bool false = .bool (decide (e ≤ ((k + 1 : Nat) : Int)) && decide (a ≠ b)) := by
  have h : ¬ e ≤ ((k + 1 : Nat) : Int) := by omega
  rw [decide_eq_false h]
  simp
theorem asked1 {m : MatchD} {first : Int} (h : m.ok = true ∧ (first = 0 ∨ first = 1)) : m.asked first (-1) = true := by
  unfold MatchD.asked
  rw [h.1]
  rcases h.2 with rfl | rfl <;> rfl
/-- The sums of the card so far, in their block. -/
def BoxT (W : World) (T : Nat) (a b : Int) : Prop := W.heap[T]? = some (.cells #[.int .i64 a, .int .i64 b] 26 (0, 0))
theorem BoxT.below {w w' : World} {T : Nat} {a b : Int} (h : BoxT w T a b) (hb : Below w.heap.size w w') : BoxT w' T a b := (hb.block _ (Array.getElem?_eq_some_iff.1 h).1).trans h
set_option maxRecDepth 100000 in
set_option maxHeartbeats 4000000 in
theorem gameAlone_any (m : MatchD) (first : Int) (card : List LineD) (v : Value) (n : Nat) (w : World) (hcard : SlL w v card) (hcap : ∀ a n c, v = .slice a n c → n ≤ c) (hn : n ≤ 255) (hW : TabW w) :
    Calls Tryd.prog 4 #[m.val, .int .i64 first, v, .int .u8 n] w (True1 w) := by
  have HCARD := hid hcard
  have HW := hid hW
  obtain ⟨ac, cc, rfl, hll, -⟩ := hcard.open
  have hccap : card.length ≤ cc := hcap _ _ _ rfl
  have HMV := hid (show m.val = .agg #[.int .i64 m.ends, .int .i64 m.most, .int .i64 m.early, .bool m.change, .bool m.power] from rfl)
  have H1 := hid (fun W (h : SlL W (.slice ac card.length cc) card) => replay_any m first card (.slice ac card.length cc) (-1) W h)
  have HRP := hid (fun i (hi : i ≤ card.length) W (h : SlL W (.slice ac card.length cc) card) => replay_any m first (card.take i) (.slice ac i cc) (-1) W (h.take i hi))
  rw [HMV.out] at H1 HRP
  rw [HMV.out]
  have HOK := hid (replayR_ok m first card (-1))
  obtain ⟨⟨s, k1, code⟩, hr⟩ : ∃ r, replayR m first card (-1) = r := ⟨_, rfl⟩
  have HRE := hid hr
  rw [hr] at H1 HOK
  clear hcard hr hcap hW
  go_enter Tryd.func4, Tryd.ntmps4
  go_upto_region 1 with fail
  have hb0 := (Below.refl w.heap.size w).alloc (Nat.le_refl _) (.cells #[.int .i64 m.ends, .int .i64 m.most, .int .i64 m.early, .bool m.change, .bool m.power] 23)
  have hm0 := heap_alloc_new w (.cells #[.int .i64 m.ends, .int .i64 m.most, .int .i64 m.early, .bool m.change, .bool m.power] 23)
  generalize w.alloc (.cells #[.int .i64 m.ends, .int .i64 m.most, .int .i64 m.early, .bool m.change, .bool m.power] 23) = W0 at *
  have HB0 := hid hb0
  have HM0 := hid (show BoxM W0 w.heap.size m from hm0)
  obtain ⟨m0, m1, m2, m3, m4⟩ := cells5 hm0
  clear hb0 hm0
  by_cases hlen : 60 < card.length
  · clear m0 m1 m2 m3 m4
    go_wp2_with fail
    refine (awake_any _ (HW.out.below HB0.out)).mono ?_
    rintro e w1 ⟨rfl, hb1⟩
    have HB1 := hid (HB0.out.trans (hb1.mono HB0.out.size))
    clear hb1
    go_wp2_with fail
    go_ret
    exact ⟨rfl, HB1.out⟩
  · go_upto_region 4 with (go_at_call 11; refine (H1.out _ (HCARD.out.below HB0.out)).mono ?_; rintro e W1 ⟨rfl, hb1⟩; unfold StD.val StD.arr)
    have hsb := BoxS.new W1 s
    have hb2 : Below W0.heap.size W0 (W1.alloc (.cells #[.int .i64 s.p0, .int .i64 s.p1, .int .i64 s.ends, .int .i64 s.ham, .int .i64 s.win, .bool s.over, .bool s.extra, .bool s.w0, .bool s.w1] 29)) := hb1.alloc hb1.size _
    generalize hS1 : W1.heap.size = S1 at *
    generalize W1.alloc (.cells #[.int .i64 s.p0, .int .i64 s.p1, .int .i64 s.ends, .int .i64 s.ham, .int .i64 s.win, .bool s.over, .bool s.extra, .bool s.w0, .bool s.w1] 29) = W2 at *
    have HS2 := hid hsb
    have HB2 := hid (HB0.out.trans (hb2.mono HB0.out.size))
    have HM2 := hid (HM0.out.below hb2)
    clear hsb hb1 hb2 hS1 m0 m1 m2 m3 m4
    by_cases hc : code = 0
    · have hcb : (code != 0) = false := by simp [hc]
      have HC := hid (HOK.out hc)
      have HRZ := hid HC.out.zero
      rw [HRE.out] at HRZ
      obtain ⟨rfl, rfl, rfl⟩ : s = stAt m first card card.length ∧ k1 = -1 ∧ code = 0 := by simpa using HRZ.out
      clear hc
      go_upto_region 6 with fail
      have ht3 : BoxT (W2.alloc (.cells #[.int .i64 0, .int .i64 0] 26)) W2.heap.size 0 0 := heap_alloc_new W2 _
      have hb3 : Below W2.heap.size W2 (W2.alloc (.cells #[.int .i64 0, .int .i64 0] 26)) := (Below.refl _ _).alloc (Nat.le_refl _) _
      go_upto_region 7 with fail
      generalize W2.alloc (.cells #[.int .i64 0, .int .i64 0] 26) = W3 at *
      have hZ : w.heap.size < W2.heap.size := (Array.getElem?_eq_some_iff.1 HM2.out).1
      have hZ1 : S1 < W2.heap.size := (Array.getElem?_eq_some_iff.1 HS2.out).1
      generalize hT : W2.heap.size = T at *
      have HT := hid hT
      have HT3 := hid ht3
      have HB3 := hid hb3
      clear ht3 hb3 hT
      go_wp2_with fail
      go_loopw [13, 14] (fun o i wr => ∃ k : Nat, k ≤ card.length ∧ i = .int .i64 k ∧ o = .bool (stAt m first card k).over ∧ BoxT wr T (stAt m first card k).p0 (stAt m first card k).p1 ∧ Below T W2 wr) (fun _ i _ => card.length - (intOf i).toNat)
      case atStart => exact ⟨0, Nat.zero_le _, rfl, rfl, HT3.out, HB3.out⟩
      case round =>
        obtain ⟨k, hk, rfl, rfl, hbx, hb⟩ := hrel
        obtain ⟨wo, rfl⟩ : ∃ wo, wo = wr := ⟨_, rfl⟩
        have HBX := hid hbx
        have HB := hid hb
        by_cases hkl : k < card.length
        · have ho := HC.out.on k hkl
          have hst := HC.out.st k hk
          have htm := HC.out.team k hkl
          have hmo := HC.out.most
          have hal := (HC.out.alone (k + 1) (by omega)).over
          have hsc := stAt_succ m first card k
          rw [ho]
          have hbw : Below W2.heap.size W2 wo := by rw [HT.out]; exact hb
          obtain ⟨al2, cl2, ee, -, hxx⟩ := (HCARD.out.below (HB2.out.trans (hbw.mono HB2.out.size))).open
          obtain ⟨bb, off, rfl, hbb, hx⟩ := hxx k hkl
          obtain ⟨e1, -, -⟩ := Value.slice.inj ee
          subst e1
          obtain ⟨x0, x1, x2⟩ := hx k hkl
          have hgd : card.getD k ⟨0, 0, false⟩ = card[k] := by rw [List.getD_eq_getElem?_getD, List.getElem?_eq_getElem hkl]; rfl
          rw [hgd] at hsc
          generalize card[k] = x at *
          obtain ⟨hp0, hp1⟩ := behind_p m (stAt m first card k) x
          rw [← hsc] at hp0 hp1
          have hpb0 := hst.p0
          have hpb1 := hst.p1
          have hfw := HC.out.few
          obtain ⟨a, ha⟩ : ∃ a, (stAt m first card k).p0 = a := ⟨_, rfl⟩
          obtain ⟨b, hb'⟩ : ∃ b, (stAt m first card k).p1 = b := ⟨_, rfl⟩
          rw [ha] at hbx hp0 hpb0
          rw [hb'] at hbx hp1 hpb1
          obtain ⟨o2, ho2⟩ : ∃ o, (stAt m first card (k + 1)).over = o := ⟨_, rfl⟩
          rw [ho2] at hal
          have t0 : wo.cell? ⟨T, 0, none⟩ = some (.int .i64 a) := cellB hbx 0
          have t1 : wo.cell? ⟨T, 1, none⟩ = some (.int .i64 b) := cellB hbx 1
          have tf : ∀ i, wo.frozen? ⟨T, i, none⟩ = false := fun i => by simp [World.frozen?, show wo.heap[T]? = some (.cells #[.int .i64 a, .int .i64 b] 26 (0, 0)) from hbx]
          have me : wo.cell? ⟨w.heap.size, 0, none⟩ = some (.int .i64 m.ends) := cellB (HM2.out.below hbw) 0
          have HBX2 := hid hbx
          have HP0 := hid hp0
          have HP1 := hid hp1
          have HO2 := hid ho2
          have HAL := hid hal
          have hmT : w.heap.size < T := hZ
          clear hbx hp0 hp1 ho2 hal hxx hx ee hgd hsc ho hst hbw ha hb'
          rcases htm with ⟨hx, -⟩ | ⟨hx | hx, hp, hp2⟩
          · skip
            rw [hx] at x0
            have hq0 : (stAt m first card (k + 1)).p0 = a := by have h := HP0.out; rw [hx] at h; simpa using h
            have hq1 : (stAt m first card (k + 1)).p1 = b := by have h := HP1.out; rw [hx] at h; simpa using h
            have HQ0 := hid hq0
            have HQ1 := hid hq1
            have hal := HAL.out
            rw [hq0, hq1] at hal
            have HAL2 := hid hal
            clear hq0 hq1 hal hx
            by_cases he : m.ends ≤ (k : Int) + 1
            · go_wp2_with fail
              all_goals
                refine ⟨⟨k + 1, by omega, by go_num, ?_, ?_, ?_⟩, by simp [intOf]; omega⟩
                · rw [HO2.out, HAL2.out]; exact over_t he
                · rw [HQ0.out, HQ1.out]; exact HBX2.out
                · exact HB.out
            · go_wp2_with fail
              all_goals
                refine ⟨⟨k + 1, by omega, by go_num, ?_, ?_, ?_⟩, by simp [intOf]; omega⟩
                · rw [HO2.out, HAL2.out]; exact over_f he
                · rw [HQ0.out, HQ1.out]; exact HBX2.out
                · exact HB.out
          · skip
            rw [hx] at x0
            have hq0 : (stAt m first card (k + 1)).p0 = a + x.pts := by have h := HP0.out; rw [hx] at h; simpa using h
            have hq1 : (stAt m first card (k + 1)).p1 = b := by have h := HP1.out; rw [hx] at h; simpa using h
            have HQ0 := hid hq0
            have HQ1 := hid hq1
            have hal := HAL.out
            rw [hq0, hq1] at hal
            have HAL2 := hid hal
            clear hq0 hq1 hal hx
            by_cases he : m.ends ≤ (k : Int) + 1
            · go_upto_region 13 with fail
              go_region
              all_goals go_wp2_with fail
              all_goals
                refine ⟨⟨k + 1, by omega, by go_num, ?_, ?_, ?_⟩, by simp [intOf]; omega⟩
                · rw [HO2.out, HAL2.out]; exact over_t he
                · rw [HQ0.out, HQ1.out]; exact heap_setCell_same _ T 0 _ 26 _ HBX2.out
                · first | exact (HB.out.setCell (p := ⟨T, 0, none⟩) (Nat.le_refl _) _).drew | exact HB.out.setCell (p := ⟨T, 0, none⟩) (Nat.le_refl _) _
            · go_upto_region 13 with fail
              go_region
              all_goals go_wp2_with fail
              all_goals
                refine ⟨⟨k + 1, by omega, by go_num, ?_, ?_, ?_⟩, by simp [intOf]; omega⟩
                · rw [HO2.out, HAL2.out]; exact over_f he
                · rw [HQ0.out, HQ1.out]; exact heap_setCell_same _ T 0 _ 26 _ HBX2.out
                · first | exact (HB.out.setCell (p := ⟨T, 0, none⟩) (Nat.le_refl _) _).drew | exact HB.out.setCell (p := ⟨T, 0, none⟩) (Nat.le_refl _) _
          · skip
            rw [hx] at x0
            have hq0 : (stAt m first card (k + 1)).p0 = a := by have h := HP0.out; rw [hx] at h; simpa using h
            have hq1 : (stAt m first card (k + 1)).p1 = b + x.pts := by have h := HP1.out; rw [hx] at h; simpa using h
            have HQ0 := hid hq0
            have HQ1 := hid hq1
            have hal := HAL.out
            rw [hq0, hq1] at hal
            have HAL2 := hid hal
            clear hq0 hq1 hal hx
            by_cases he : m.ends ≤ (k : Int) + 1
            · go_upto_region 13 with fail
              go_region
              all_goals go_wp2_with fail
              all_goals
                refine ⟨⟨k + 1, by omega, by go_num, ?_, ?_, ?_⟩, by simp [intOf]; omega⟩
                · rw [HO2.out, HAL2.out]; exact over_t he
                · rw [HQ0.out, HQ1.out]; exact heap_setCell_same _ T 1 _ 26 _ HBX2.out
                · first | exact (HB.out.setCell (p := ⟨T, 1, none⟩) (Nat.le_refl _) _).drew | exact HB.out.setCell (p := ⟨T, 1, none⟩) (Nat.le_refl _) _
            · go_upto_region 13 with fail
              go_region
              all_goals go_wp2_with fail
              all_goals
                refine ⟨⟨k + 1, by omega, by go_num, ?_, ?_, ?_⟩, by simp [intOf]; omega⟩
                · rw [HO2.out, HAL2.out]; exact over_f he
                · rw [HQ0.out, HQ1.out]; exact heap_setCell_same _ T 1 _ 26 _ HBX2.out
                · first | exact (HB.out.setCell (p := ⟨T, 1, none⟩) (Nat.le_refl _) _).drew | exact HB.out.setCell (p := ⟨T, 1, none⟩) (Nat.le_refl _) _
        · obtain rfl : k = card.length := by omega
          have hal := HC.out.alone card.length (Nat.le_refl _)
          have hst := HC.out.st card.length (Nat.le_refl _)
          have hbw : Below W2.heap.size W2 wo := by rw [HT.out]; exact hb
          obtain ⟨st, hs⟩ : ∃ st, stAt m first card card.length = st := ⟨_, rfl⟩
          have hsx : BoxS wo S1 (stAt m first card card.length) := HS2.out.below hbw
          rw [hs] at hal hst hbx hsx
          rw [hs]
          have hfw := HC.out.few
          have HBW := hid (HB2.out.trans (hbw.mono HB2.out.size))
          have HM3 := hid (HM2.out.below hbw)
          have HAL := hid hal
          have HST := hid hst
          have HSX := hid hsx
          have HBX2 := hid hbx
          have t0 : wo.cell? ⟨T, 0, none⟩ = some (.int .i64 st.p0) := cellB hbx 0
          have t1 : wo.cell? ⟨T, 1, none⟩ = some (.int .i64 st.p1) := cellB hbx 1
          obtain ⟨c0, c1, c2, c3, c4, c5, c6, c7, c8, cf⟩ := cells9 hsx
          obtain ⟨m0, m1, m2, m3, m4⟩ := cells5 HM3.out
          have heq := eq26 st.p0 st.p1 st.p0 st.p1
          simp only [and_self, decide_true] at heq
          clear hal hst hsx hbx hb hbw hs
          have hhm := HAL.out.ham
          have hwn := HAL.out.win
          have hex := HAL.out.extra
          have hov := HAL.out.over
          rw [HST.out.ends] at c2
          obtain ⟨b, hb2⟩ : ∃ b, st.over = b := ⟨_, rfl⟩
          rw [hb2] at c5 hhm hwn hex hov ⊢
          rw [hwn] at c4
          rw [hex] at c6
          clear hwn hex hb2
          have hcase : (b = true ∧ st.p1 < st.p0) ∨ (b = true ∧ st.p0 < st.p1) ∨ (b = false ∧ m.ends ≤ (card.length : Int)) ∨ (b = false ∧ ¬ m.ends ≤ (card.length : Int)) := by
            cases b with
            | true =>
              have h2 : st.p0 ≠ st.p1 := by intro h; rw [h] at hov; simp at hov
              simp
              omega
            | false => by_cases he : m.ends ≤ (card.length : Int) <;> simp [he]
          obtain ⟨k, hk, hke⟩ : ∃ k : Nat, k ≤ card.length ∧ (n : Int) % ((card.length : Int) + 1) = (k : Int) := ⟨n % (card.length + 1), by have := Nat.mod_lt n (show 0 < card.length + 1 by omega); omega, by simp⟩
          have HKE := hid hke
          clear hov hke
          rcases hcase with ⟨rfl, hlt⟩ | ⟨rfl, hlt⟩ | ⟨rfl, he⟩ | ⟨rfl, he⟩
          case' inl =>
            have hng : ¬ st.p0 < st.p1 := by omega
            simp only [if_true, if_pos hlt, Bool.not_true, Bool.false_and] at c4 c6
            go_upto_region 22 with fail
          case' inr.inl =>
            have hng : ¬ st.p1 < st.p0 := by omega
            simp only [if_true, if_neg hng, Bool.not_true, Bool.false_and] at c4 c6
            go_upto_region 22 with fail
          case' inr.inr.inl =>
            simp only [Bool.false_eq_true, if_false, Bool.not_false, Bool.true_and, decide_eq_true he] at c4 c6
            go_upto_region 22 with fail
          case' inr.inr.inr =>
            simp only [Bool.false_eq_true, if_false, Bool.not_false, Bool.true_and, decide_eq_false he] at c4 c6
            go_upto_region 22 with fail
          all_goals
            have hn255 : (n : Int) ≤ 255 := by omega
            clear c0 c1 c2 c3 c4 c5 c6 c7 c8 cf t0 t1
            go_upto_region 23 with fail
            rw [HKE.out]
            have HPZ := hid (fun W h => HRP.out k hk W h)
            rw [replayR_take m first card k (asked1 HC.out.asked) HC.out.few (by rw [HC.out.bad]; exact hk)] at HPZ
            obtain ⟨sk, hsk⟩ : ∃ sk, stAt m first card k = sk := ⟨_, rfl⟩
            rw [hsk] at HPZ
            have hcc : k ≤ cc := by omega
            have hzw : w.heap.size < wo.heap.size := (Array.getElem?_eq_some_iff.1 HM3.out).1
            have HCW := hid (HCARD.out.below HBW.out)
            go_cut [19] (fun x19 wx => x19 = .int .i64 0 ∧ Below wo.heap.size wo wx)
            case first =>
              go_wp2_with fail
              go_region_with (go_at_call 11; refine (HPZ.out _ (SlL.below (by exact HCW.out) (by first | exact Below.refl _ _ | exact (Below.refl _ _).drew | exact (Below.refl _ _).alloc (Nat.le_refl _) _ | exact ((Below.refl _ _).drew).alloc (Nat.le_refl _) _ | exact ((Below.refl _ _).alloc (Nat.le_refl _) _).drew))).mono ?_; rintro e w4 ⟨rfl, hb4⟩; unfold StD.val StD.arr; first | (have hz4 := (hb4.block wo.heap.size (by simp)).trans (heap_alloc_new wo (.cells #[.int .i64 0, .int .i64 0, .int .i64 0, .int .i64 0, .int .i64 0, .bool false, .bool false, .bool false, .bool false] 29)); obtain ⟨z0, z1, z2, z3, z4, z5, z6, z7, z8, zf⟩ := cells9 hz4) | skip)
              all_goals
                go_wp2_with fail
              all_goals
                go_meet
              · have hb5 : Below wo.heap.size wo w4 := ((Below.refl _ _).drew).trans hb4
                exact ⟨rfl, hb5.alloc hb5.size _⟩
              all_goals
                have hb5 : Below wo.heap.size wo w4 := Below.trans (by first | exact ((Below.refl _ _).drew).alloc (Nat.le_refl _) _ | exact ((Below.refl _ _).alloc (Nat.le_refl _) _).drew | exact (Below.refl _ _).alloc (Nat.le_refl _) _) (hb4.mono (by simp))
                exact ⟨rfl, put9_below _ _ _ _ _ _ _ _ _ hb5 (Nat.le_refl _)⟩
            case rest =>
              obtain ⟨rfl, hbq⟩ := hcut
              have HBQ := hid (HBW.out.trans (hbq.mono HBW.out.size))
              clear hbq
              go_wp2_with (go_at_call 10; refine (awake_any _ (HW.out.below HBQ.out)).mono ?_; rintro e w9 ⟨rfl, hb9⟩)
              go_ret
              exact ⟨rfl, HBQ.out.trans (hb9.mono HBQ.out.size)⟩
    · have hcb : (code != 0) = true := by simp [hc]
      clear hc
      go_wp2_with fail
      refine (awake_any _ (HW.out.below HB2.out)).mono ?_
      rintro e w4 ⟨rfl, hb4⟩
      have HB4 := hid (HB2.out.trans (hb4.mono HB2.out.size))
      clear hb4
      go_wp2_with fail
      go_ret
      exact ⟨rfl, HB4.out⟩
end Go.Proofs.YtdbfnonpndlejaaDoor
