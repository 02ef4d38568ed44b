/- besomlaw08.GameCards walked. -/
import Derived.Test.YtdbfnonpndlejaaDoorG1
import Derived.Test.YtdbfnonpndlejaaDoorB5
import Derived.Deep.RegionHeld3
namespace Go.Proofs.YtdbfnonpndlejaaDoor
open Go.RowKit Go.Shelf

def BoxM (W : World) (M : Nat) (m : MatchD) : Prop := W.heap[M]? = some (.cells #[.int .i64 m.ends, .int .i64 m.most, .int .i64 m.early, .bool m.change, .bool m.power] 23 (0, 0))
theorem BoxM.below {w w' : World} {M : Nat} {m : MatchD} (h : BoxM w M m) (hb : Below w.heap.size w w') : BoxM w' M m := (hb.block _ (Array.getElem?_eq_some_iff.1 h).1).trans h
def BoxS (W : World) (S : Nat) (s : StD) : Prop := W.heap[S]? = some (.cells #[.int .i64 s.p0, .int .i64 s.p1, .int .i64 s.ends, .int .i64 s.ham, .int .i64 s.win, .bool s.over, .bool s.extra, .bool s.w0, .bool s.w1] 29 (0, 0))
theorem BoxS.below {w w' : World} {S : Nat} {s : StD} (h : BoxS w S s) (hb : Below w.heap.size w w') : BoxS w' S s := (hb.block _ (Array.getElem?_eq_some_iff.1 h).1).trans h
theorem BoxS.new (w : World) (s : StD) : BoxS (w.alloc (.cells #[.int .i64 s.p0, .int .i64 s.p1, .int .i64 s.ends, .int .i64 s.ham, .int .i64 s.win, .bool s.over, .bool s.extra, .bool s.w0, .bool s.w1] 29)) w.heap.size s := heap_alloc_new w _
def Held (W : World) (M S1 S2 : Nat) (m : MatchD) (s : StD) : Prop :=
  (W.cell? ⟨M, 0, none⟩ = some (.int .i64 m.ends) ∧ W.cell? ⟨M, 1, none⟩ = some (.int .i64 m.most) ∧ W.cell? ⟨M, 2, none⟩ = some (.int .i64 m.early) ∧ W.cell? ⟨M, 3, none⟩ = some (.bool m.change) ∧ W.cell? ⟨M, 4, none⟩ = some (.bool m.power)) ∧
    (W.cell? ⟨S1, 0, none⟩ = some (.int .i64 s.p0) ∧ W.cell? ⟨S1, 1, none⟩ = some (.int .i64 s.p1) ∧ W.cell? ⟨S1, 2, none⟩ = some (.int .i64 s.ends) ∧ W.cell? ⟨S1, 3, none⟩ = some (.int .i64 s.ham) ∧ W.cell? ⟨S1, 4, none⟩ = some (.int .i64 s.win) ∧ W.cell? ⟨S1, 5, none⟩ = some (.bool s.over) ∧ W.cell? ⟨S1, 6, none⟩ = some (.bool s.extra) ∧ W.cell? ⟨S1, 7, none⟩ = some (.bool s.w0) ∧ W.cell? ⟨S1, 8, none⟩ = some (.bool s.w1)) ∧
    (W.cell? ⟨S2, 0, none⟩ = some (.int .i64 s.p0) ∧ W.cell? ⟨S2, 1, none⟩ = some (.int .i64 s.p1) ∧ W.cell? ⟨S2, 2, none⟩ = some (.int .i64 s.ends) ∧ W.cell? ⟨S2, 3, none⟩ = some (.int .i64 s.ham) ∧ W.cell? ⟨S2, 4, none⟩ = some (.int .i64 s.win) ∧ W.cell? ⟨S2, 5, none⟩ = some (.bool s.over) ∧ W.cell? ⟨S2, 6, none⟩ = some (.bool s.extra) ∧ W.cell? ⟨S2, 7, none⟩ = some (.bool s.w0) ∧ W.cell? ⟨S2, 8, none⟩ = some (.bool s.w1))
theorem held3 {W : World} {M S1 S2 : Nat} {m : MatchD} {s : StD} (h1 : BoxM W M m) (h2 : BoxS W S1 s) (h3 : BoxS W S2 s) : Held W M S1 S2 m s :=
  ⟨⟨cellB h1 0, cellB h1 1, cellB h1 2, cellB h1 3, cellB h1 4⟩, ⟨cellB h2 0, cellB h2 1, cellB h2 2, cellB h2 3, cellB h2 4, cellB h2 5, cellB h2 6, cellB h2 7, cellB h2 8⟩, ⟨cellB h3 0, cellB h3 1, cellB h3 2, cellB h3 3, cellB h3 4, cellB h3 5, cellB h3 6, cellB h3 7, cellB h3 8⟩⟩
theorem held3_below {W W' : World} {M S1 S2 : Nat} {m : MatchD} {s : StD} (h : Held W M S1 S2 m s) (hz : M < W.heap.size ∧ S1 < W.heap.size ∧ S2 < W.heap.size) (hb : Below W.heap.size W W') : Held W' M S1 S2 m s := by
  obtain ⟨⟨m0, m1, m2, m3, m4⟩, ⟨s0, s1, s2, s3, s4, s5, s6, s7, s8⟩, ⟨t0, t1, t2, t3, t4, t5, t6, t7, t8⟩⟩ := h
  obtain ⟨z1, z2, z3⟩ := hz
  exact ⟨⟨rdB hb z1 m0, rdB hb z1 m1, rdB hb z1 m2, rdB hb z1 m3, rdB hb z1 m4⟩, ⟨rdB hb z2 s0, rdB hb z2 s1, rdB hb z2 s2, rdB hb z2 s3, rdB hb z2 s4, rdB hb z2 s5, rdB hb z2 s6, rdB hb z2 s7, rdB hb z2 s8⟩, ⟨rdB hb z3 t0, rdB hb z3 t1, rdB hb z3 t2, rdB hb z3 t3, rdB hb z3 t4, rdB hb z3 t5, rdB hb z3 t6, rdB hb z3 t7, rdB hb z3 t8⟩⟩
theorem same_refl (l : List Int) : sameI l l = true := by unfold sameI; simp
set_option maxRecDepth 100000 in
set_option maxHeartbeats 4000000 in
theorem gameCards_any (m : MatchD) (first : Int) (card : List LineD) (v : Value) (con : Int) (w : World) (hcard : SlL w v card) (hcap : ∀ a n c, v = .slice a n c → n ≤ c) (hW : TabW w) :
    Calls Tryd.prog 3 #[m.val, .int .i64 first, v, .int .i64 con] w (True1 w) := by
  have HCARD := hid hcard
  have HW := hid hW
  obtain ⟨ac, cc, rfl, hll, -⟩ := hcard.open
  have HMV := hid (show m.val = .agg #[.int .i64 m.ends, .int .i64 m.most, .int .i64 m.early, .bool m.change, .bool m.power] from rfl)
  have H1 := hid (fun W (h : SlL W (.slice ac card.length cc) card) => replay_any m first card (.slice ac card.length cc) con W h)
  have H2 := hid (fun W (h : SlL W (.slice ac card.length cc) card) => refReplay_any m first card (.slice ac card.length cc) con W h)
  have H3 := hid (fun W (h : SlL W (.slice ac card.length cc) card) => hammers_any m first card (.slice ac card.length cc) W h)
  have H4 := hid (fun W (h : SlL W (.slice ac card.length cc) card) => refHammers_any m first card (.slice ac card.length cc) W h hcap)
  have H5 := hid (fun W (h : SlL W (.slice ac card.length cc) card) (hT : TabW W) => board_any m first card (.slice ac card.length cc) con W h hT)
  have H6 := hid (fun W (h : SlL W (.slice ac card.length cc) card) => refBoard_any m first card (.slice ac card.length cc) con W h hcap)
  have H7 := hid (fun W => checkMatch_any m W)
  have H8 := hid (fun W => refCheckMatch_any m W)
  rw [HMV.out] at H1 H2 H3 H4 H5 H6 H7 H8
  rw [HMV.out]
  obtain ⟨⟨s, k1, code⟩, hr⟩ : ∃ r, replayR m first card con = r := ⟨_, rfl⟩
  obtain ⟨⟨hams, hcode⟩, hh⟩ : ∃ r, hamsR m first card = r := ⟨_, rfl⟩
  obtain ⟨⟨txt, bcode⟩, hbd⟩ : ∃ r, boardR m first card con = r := ⟨_, rfl⟩
  obtain ⟨mok, hmok⟩ : ∃ b, m.ok = b := ⟨_, rfl⟩
  rw [hr] at H1 H2
  rw [hh] at H3 H4
  rw [hbd] at H5 H6
  rw [hmok] at H7 H8
  clear hcard hr hh hbd hmok hcap hW
  go_enter Tryd.func3, Tryd.ntmps3
  go_upto_region 1 with fail
  have hb0 := (Below.refl w.heap.size w).alloc (Nat.le_refl _) (.cells #[.int .i64 m.ends, .int .i64 m.most, .int .i64 m.early, .bool m.change, .bool m.power] 23)
  have hm0 := heap_alloc_new w (.cells #[.int .i64 m.ends, .int .i64 m.most, .int .i64 m.early, .bool m.change, .bool m.power] 23)
  generalize w.alloc (.cells #[.int .i64 m.ends, .int .i64 m.most, .int .i64 m.early, .bool m.change, .bool m.power] 23) = W0 at *
  have HB0 := hid hb0
  have HM0 := hid (show BoxM W0 w.heap.size m from hm0)
  obtain ⟨m0, m1, m2, m3, m4⟩ := cells5 hm0
  clear hb0 hm0
  by_cases hlen : 60 < card.length
  · clear m0 m1 m2 m3 m4
    go_wp2_with fail
    refine (awake_any _ (HW.out.below HB0.out)).mono ?_
    rintro e w1 ⟨rfl, hb1⟩
    have HB1 := hid (HB0.out.trans (hb1.mono HB0.out.size))
    clear hb1
    go_wp2_with fail
    go_ret
    exact ⟨rfl, HB1.out⟩
  · go_upto_region 4 with (go_at_call 11; refine (H1.out _ (HCARD.out.below HB0.out)).mono ?_; rintro e W1 ⟨rfl, hb1⟩; unfold StD.val StD.arr)
    have hsb := BoxS.new W1 s
    have hb2 : Below W0.heap.size W0 (W1.alloc (.cells #[.int .i64 s.p0, .int .i64 s.p1, .int .i64 s.ends, .int .i64 s.ham, .int .i64 s.win, .bool s.over, .bool s.extra, .bool s.w0, .bool s.w1] 29)) := hb1.alloc hb1.size _
    generalize hS1 : W1.heap.size = S1 at *
    generalize W1.alloc (.cells #[.int .i64 s.p0, .int .i64 s.p1, .int .i64 s.ends, .int .i64 s.ham, .int .i64 s.win, .bool s.over, .bool s.extra, .bool s.w0, .bool s.w1] 29) = W2 at *
    have HS2 := hid hsb
    have HB2 := hid (HB0.out.trans (hb2.mono HB0.out.size))
    have HM2 := hid (HM0.out.below hb2)
    clear hsb hb1 hb2 hS1 m0 m1 m2 m3 m4
    obtain ⟨m0, m1, m2, m3, m4⟩ := cells5 HM2.out
    go_upto_region 5 with (go_at_call 12; refine (H2.out _ (HCARD.out.below HB2.out)).mono ?_; rintro e W3 ⟨rfl, hb3⟩; unfold StD.val StD.arr)
    have hsb := BoxS.new W3 s
    have hb4 : Below W2.heap.size W2 (W3.alloc (.cells #[.int .i64 s.p0, .int .i64 s.p1, .int .i64 s.ends, .int .i64 s.ham, .int .i64 s.win, .bool s.over, .bool s.extra, .bool s.w0, .bool s.w1] 29)) := hb3.alloc hb3.size _
    generalize hS2 : W3.heap.size = S2 at *
    generalize W3.alloc (.cells #[.int .i64 s.p0, .int .i64 s.p1, .int .i64 s.ends, .int .i64 s.ham, .int .i64 s.win, .bool s.over, .bool s.extra, .bool s.w0, .bool s.w1] 29) = W4 at *
    have HT4 := hid hsb
    have HS4 := hid (HS2.out.below hb4)
    have HB4 := hid (HB2.out.trans (hb4.mono HB2.out.size))
    have HM4 := hid (HM2.out.below hb4)
    clear hsb hb3 hb4 hS2 m0 m1 m2 m3 m4
    obtain ⟨m0, m1, m2, m3, m4⟩ := cells5 HM4.out
    go_upto_region 6 with (go_at_call 13; refine (H3.out _ (HCARD.out.below HB4.out)).mono ?_; rintro e W5 ⟨⟨v1, rfl, hv1⟩, hb5⟩)
    obtain ⟨a1, c1, rfl, -, -⟩ := hv1.open
    have HV5 := hid hv1
    have HS5 := hid (HS4.out.below hb5)
    have HT5 := hid (HT4.out.below hb5)
    have HB5 := hid (HB4.out.trans (hb5.mono HB4.out.size))
    have HM5 := hid (HM4.out.below hb5)
    clear hb5 hv1 m0 m1 m2 m3 m4
    obtain ⟨m0, m1, m2, m3, m4⟩ := cells5 HM5.out
    go_upto_region 7 with (go_at_call 14; refine (H4.out _ (HCARD.out.below HB5.out)).mono ?_; rintro e W6 ⟨⟨v2, rfl, hv2⟩, hb6⟩)
    obtain ⟨a2, c2, rfl, -, -⟩ := hv2.open
    have HU6 := hid hv2
    have HV6 := hid (HV5.out.below hb6)
    have HS6 := hid (HS5.out.below hb6)
    have HT6 := hid (HT5.out.below hb6)
    have HB6 := hid (HB5.out.trans (hb6.mono HB5.out.size))
    have HM6 := hid (HM5.out.below hb6)
    clear hb6 hv2 m0 m1 m2 m3 m4
    obtain ⟨m0, m1, m2, m3, m4⟩ := cells5 HM6.out
    go_upto_region 8 with (go_at_call 15; refine (H5.out _ (HCARD.out.below HB6.out) (HW.out.below HB6.out)).mono ?_; rintro e W7 ⟨rfl, hb7⟩)
    have HU7 := hid (HU6.out.below hb7)
    have HV7 := hid (HV6.out.below hb7)
    have HS7 := hid (HS6.out.below hb7)
    have HT7 := hid (HT6.out.below hb7)
    have HB7 := hid (HB6.out.trans (hb7.mono HB6.out.size))
    have HM7 := hid (HM6.out.below hb7)
    clear hb7 m0 m1 m2 m3 m4
    obtain ⟨m0, m1, m2, m3, m4⟩ := cells5 HM7.out
    go_upto_region 9 with (go_at_call 16; refine (H6.out _ (HCARD.out.below HB7.out)).mono ?_; rintro e W8 ⟨rfl, hb8⟩)
    have HU8 := hid (HU7.out.below hb8)
    have HV8 := hid (HV7.out.below hb8)
    have HB8 := hid (HB7.out.trans (hb8.mono HB7.out.size))
    have hz : w.heap.size < W8.heap.size ∧ S1 < W8.heap.size ∧ S2 < W8.heap.size := ⟨(Array.getElem?_eq_some_iff.1 (HM7.out.below hb8)).1, (Array.getElem?_eq_some_iff.1 (HS7.out.below hb8)).1, (Array.getElem?_eq_some_iff.1 (HT7.out.below hb8)).1⟩
    have HBX := hid (held3 (HM7.out.below hb8) (HS7.out.below hb8) (HT7.out.below hb8))
    have HT8 := hid (HW.out.below HB8.out)
    clear hb8 m0 m1 m2 m3 m4
    obtain ⟨⟨m0, m1, m2, m3, m4⟩, ⟨s0, s1, s2, s3, s4, s5, s6, s7, s8⟩, ⟨t0, t1, t2, t3, t4, t5, t6, t7, t8⟩⟩ := HBX.out
    have HSR := hid (same_refl hams)
    have e1 : (k1 == k1) = true := by simp
    have e2 : (code == code) = true := by simp
    have e3 : (hcode == hcode) = true := by simp
    have e4 : (bcode == bcode) = true := by simp
    have e5 : (mok == mok) = true := by simp
    have e29 := eq29s s
    unfold StD.val StD.arr at e29
    go_cut [8] (fun t wx => t = .bool true ∧ Below W8.heap.size W8 wx)
    case first =>
      go_region_held3 (fun w' => (w'.cell? ⟨w.heap.size, 0, none⟩ = some (.int .i64 m.ends) ∧ w'.cell? ⟨w.heap.size, 1, none⟩ = some (.int .i64 m.most) ∧ w'.cell? ⟨w.heap.size, 2, none⟩ = some (.int .i64 m.early) ∧ w'.cell? ⟨w.heap.size, 3, none⟩ = some (.bool m.change) ∧ w'.cell? ⟨w.heap.size, 4, none⟩ = some (.bool m.power)) ∧
          (w'.cell? ⟨S1, 0, none⟩ = some (.int .i64 s.p0) ∧ w'.cell? ⟨S1, 1, none⟩ = some (.int .i64 s.p1) ∧ w'.cell? ⟨S1, 2, none⟩ = some (.int .i64 s.ends) ∧ w'.cell? ⟨S1, 3, none⟩ = some (.int .i64 s.ham) ∧ w'.cell? ⟨S1, 4, none⟩ = some (.int .i64 s.win) ∧ w'.cell? ⟨S1, 5, none⟩ = some (.bool s.over) ∧ w'.cell? ⟨S1, 6, none⟩ = some (.bool s.extra) ∧ w'.cell? ⟨S1, 7, none⟩ = some (.bool s.w0) ∧ w'.cell? ⟨S1, 8, none⟩ = some (.bool s.w1)) ∧
          (w'.cell? ⟨S2, 0, none⟩ = some (.int .i64 s.p0) ∧ w'.cell? ⟨S2, 1, none⟩ = some (.int .i64 s.p1) ∧ w'.cell? ⟨S2, 2, none⟩ = some (.int .i64 s.ends) ∧ w'.cell? ⟨S2, 3, none⟩ = some (.int .i64 s.ham) ∧ w'.cell? ⟨S2, 4, none⟩ = some (.int .i64 s.win) ∧ w'.cell? ⟨S2, 5, none⟩ = some (.bool s.over) ∧ w'.cell? ⟨S2, 6, none⟩ = some (.bool s.extra) ∧ w'.cell? ⟨S2, 7, none⟩ = some (.bool s.w0) ∧ w'.cell? ⟨S2, 8, none⟩ = some (.bool s.w1)))
        (first | (refine held3_below HBX.out hz ?_; repeat' (first | exact Below.refl _ _ | apply drewNB | apply Below.drew | refine Below.trans2 ?_ (Nat.le_refl _) (by assumption))))
        (first
          | (go_at_call 17; refine (H7.out _).mono ?_; (rintro e w' ⟨rfl, hbq⟩))
          | (go_at_call 18; refine (H8.out _).mono ?_; (rintro e w' ⟨rfl, hbq⟩))
          | (go_at_call 19; refine (ints_any _ _ hams hams _ (HV8.out.below ?_) (HU8.out.below ?_)).mono ?_; (repeat' (first | exact Below.refl _ _ | apply drewNB | apply Below.drew | refine Below.trans2 ?_ (Nat.le_refl _) (by assumption))); (repeat' (first | exact Below.refl _ _ | apply drewNB | apply Below.drew | refine Below.trans2 ?_ (Nat.le_refl _) (by assumption))); (rw [HSR.out]; rintro e w' ⟨rfl, hbq⟩))
          | (go_at_call 10; refine (awake_any _ (HT8.out.below ?_)).mono ?_; (repeat' (first | exact Below.refl _ _ | apply drewNB | apply Below.drew | refine Below.trans2 ?_ (Nat.le_refl _) (by assumption))); (rintro e w' ⟨rfl, hbq⟩)))
      all_goals
        go_wp2_with fail
        go_meet
        refine ⟨rfl, ?_⟩
        repeat' (first | exact Below.refl _ _ | apply drewNB | apply Below.drew | refine Below.trans2 ?_ (Nat.le_refl _) (by assumption))
    case rest =>
      obtain ⟨rfl, hbw⟩ := hcut
      go_wp2_with fail
      go_ret
      exact ⟨rfl, HB8.out.trans (hbw.mono HB8.out.size)⟩
end Go.Proofs.YtdbfnonpndlejaaDoor
