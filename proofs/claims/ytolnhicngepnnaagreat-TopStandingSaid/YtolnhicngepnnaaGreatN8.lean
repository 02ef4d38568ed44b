/- TopStanding walked. -/
import Derived.Test.YtolnhicngepnnaaGreatGS6
import Derived.Test.YtolnhicngepnnaaGreatN7
import Derived.Deep.RegionHeld3
namespace Go.Proofs.YtolnhicngepnnaaGreat
open Go.RowKit

/-- The front of a card, as a slice of the same block. -/
theorem SlL.take {w : World} {a : Option Addr} {n c : Nat} {l : List LineD} (h : SlL w (.slice a n c) l) (i : Nat) (hi : i ≤ l.length) : SlL w (.slice a i c) (l.take i) := by
  obtain ⟨a', cap, e, hn, hc⟩ := h
  obtain ⟨rfl, -, rfl⟩ := Value.slice.inj e
  have hlen : (l.take i).length = i := by simp; omega
  refine ⟨a, c, by rw [hlen], by omega, ?_⟩
  rw [hlen]
  by_cases h0 : i = 0
  · exact .inl h0
  · refine .inr ?_
    rcases hc with hz | ⟨b, off, rfl, hlt, hc⟩
    · omega
    · refine ⟨b, off, rfl, hlt, fun j hj => ?_⟩
      have hpre : l.flatMap LineD.cells = (l.take i).flatMap LineD.cells ++ (l.drop i).flatMap LineD.cells := by
        rw [← List.flatMap_append, List.take_append_drop]
      have hj2 : j < (l.flatMap LineD.cells).length := by
        rw [hpre, List.length_append]; omega
      have := hc j hj2
      rw [this]
      congr 1
      simp only [hpre]
      exact List.getElem_append_left hj

theorem nameW {B : Nat} {w w' : World} (_h : Below B w w') : ∃ x, x = w' := ⟨_, rfl⟩
/-- What is known of the skip's state ahead of a line. -/
def AtInv (m : MatchD) (first : Int) (card : List LineD) (n : Nat) (lead hm : Int) : Prop := lead = (stAt m first card n).p0 - (stAt m first card n).p1 ∧ ((stAt m first card n).over = false → hm = (stAt m first card n).ham)
def MatchD.still (m : MatchD) : MatchD := { m with change := false }
set_option maxRecDepth 100000 in
set_option maxHeartbeats 8000000 in
theorem stand_any (m : MatchD) (first : Int) (a : Option Addr) (cap : Nat) (card : List LineD) (d : Int) (v0 v1 : Value) (l0 l1 : List (List Int)) (w : World) (hc : SlL w (.slice a card.length cap) card) (hcap : card.length ≤ cap) (h0 : SlR w v0 l0) (h1 : SlR w v1 l1) :
    Calls Tryz.prog 4 #[m.val, .int .i64 first, .slice a card.length cap, .agg #[.int .i64 d, v0, v1]] w fun e w' => e = .returned (.bool true) ∧ Below w.heap.size w w' := by
  have HSO := hid (fun W => sound_any W)
  have HCD := hid hc
  have HGR := hid (fun W hb => great12_any d v0 v1 l0 l1 W (h0.below hb) (h1.below hb))
  have HVA := hid (fun l h hl hl0 hh W hb => value15_over d v0 v1 l0 l1 l h W (h0.below hb) (h1.below hb) hl hl0 hh)
  have HRP := hid (fun n (hn : n + 1 ≤ card.length) W hb => replay_any m.still first (card.take (n + 1)) (.slice a (n + 1) cap) (-1) W ((hc.take (n + 1) hn).below hb))
  have HST := hid (fun n hr hn hne h12 => stand_step (m := m.still) (first := first) (card := card) (n := n) rfl hr hn hne h12)
  have HNX := hid (fun e l h p he hl hh hp hn W => next14_ok e l h p he hl hh hp hn W)
  obtain ⟨a0, c0, rfl, -, -⟩ := h0.open
  obtain ⟨a1, c1, rfl, -, -⟩ := h1.open
  obtain ⟨a', cap', e', hcl, hco⟩ := hc.open
  obtain ⟨rfl, -, rfl⟩ := Value.slice.inj e'
  have HCO := hid hco
  clear hc h0 h1 hco e'
  obtain ⟨me, mm, mr, mc, mp⟩ := m
  show Calls Tryz.prog 4 #[.agg #[.int .i64 me, .int .i64 mm, .int .i64 mr, .bool mc, .bool mp], .int .i64 first, .slice a card.length cap, .agg #[.int .i64 d, .slice a0 l0.length c0, .slice a1 l1.length c1]] w _
  have HM := hid (show (MatchD.mk me mm mr mc mp).still = ⟨me, mm, mr, false, mp⟩ from rfl)
  rw [HM.out] at HRP HST
  clear HM
  obtain ⟨W2, hW2⟩ : ∃ W2, (w.alloc (.cells #[.int .i64 me, .int .i64 mm, .int .i64 mr, .bool false, .bool mp] 44)).alloc (.cells #[.int .i64 d, .slice a0 l0.length c0, .slice a1 l1.length c1] 49) = W2 := ⟨_, rfl⟩
  have hz : W2.heap.size = w.heap.size + 2 := by rw [← hW2]; simp
  have HB2 := hid (show Below w.heap.size w W2 by rw [← hW2]; exact ((Below.refl _ w).alloc (Nat.le_refl _) _).alloc (by simp) _)
  have b0 : W2.heap[w.heap.size]? = some (.cells #[.int .i64 me, .int .i64 mm, .int .i64 mr, .bool false, .bool mp] 44 (0, 0)) := by
    rw [← hW2, Below.heap_alloc _ _ _ (by simp)]; exact heap_alloc_new w _
  have b1 : W2.heap[w.heap.size + 1]? = some (.cells #[.int .i64 d, .slice a0 l0.length c0, .slice a1 l1.length c1] 49 (0, 0)) := by
    rw [← hW2]
    simpa using heap_alloc_new (w.alloc (.cells #[.int .i64 me, .int .i64 mm, .int .i64 mr, .bool false, .bool mp] 44)) (.cells #[.int .i64 d, .slice a0 l0.length c0, .slice a1 l1.length c1] 49)
  have HCE := hid (show ∀ U, Below W2.heap.size W2 U → (U.cell? ⟨w.heap.size, 0, none⟩ = some (.int .i64 me) ∧ U.cell? ⟨w.heap.size, 1, none⟩ = some (.int .i64 mm) ∧ U.cell? ⟨w.heap.size, 2, none⟩ = some (.int .i64 mr) ∧ U.cell? ⟨w.heap.size, 3, none⟩ = some (.bool false) ∧ U.cell? ⟨w.heap.size, 4, none⟩ = some (.bool mp)) ∧ U.cell? ⟨w.heap.size + 1, 0, none⟩ = some (.int .i64 d) ∧ U.cell? ⟨w.heap.size + 1, 1, none⟩ = some (.slice a0 l0.length c0) ∧ U.cell? ⟨w.heap.size + 1, 2, none⟩ = some (.slice a1 l1.length c1) from fun U hb => by
    have h0 := (hb.block _ (by omega)).trans b0
    have h1 := (hb.block _ (by omega)).trans b1
    exact ⟨⟨by simp [World.cell?, h0], by simp [World.cell?, h0], by simp [World.cell?, h0], by simp [World.cell?, h0], by simp [World.cell?, h0]⟩, by simp [World.cell?, h1], by simp [World.cell?, h1], by simp [World.cell?, h1]⟩)
  have HW2 := hid hW2
  clear hW2 b0 b1
  obtain ⟨⟨q0, q1, q2, q3, q4⟩, q5, q6, q7⟩ := HCE.out W2 (Below.refl _ _)
  have hsz2 : w.heap.size ≤ W2.heap.size := by omega
  go_enter Tryz.func4, Tryz.ntmps4
  go_upto_region 2 with fail
  rw [HW2.out]
  clear HW2
  by_cases h12 : 12 < card.length
  · have h12I : (12 : Int) < (card.length : Int) := by omega
    go_wp2_with fail
    refine (HSO.out _).mono ?_
    rintro e w9 ⟨rfl, hb9⟩
    go_wp2_with fail
    go_ret
    exact ⟨rfl, HB2.out.trans (hb9.mono hsz2)⟩
  have h12I : ¬ (12 : Int) < (card.length : Int) := by omega
  by_cases he12 : 12 < me
  · go_wp2_with fail
    refine (HSO.out _).mono ?_
    rintro e w9 ⟨rfl, hb9⟩
    go_wp2_with fail
    go_ret
    exact ⟨rfl, HB2.out.trans (hb9.mono hsz2)⟩
  go_wp2_with fail
  refine (HGR.out _ HB2.out).mono ?_
  rintro e w3 ⟨hg, hb3⟩
  have HB3 := hid hb3
  have HBW3 := hid (HB2.out.trans (hb3.mono hsz2))
  clear hb3 HGR q0 q1 q2 q3 q4 q5 q6 q7
  obtain ⟨⟨q0, q1, q2, q3, q4⟩, q5, q6, q7⟩ := HCE.out w3 HB3.out
  rcases hg with rfl | rfl
  · go_wp2_with fail
    refine (HSO.out _).mono ?_
    rintro e w9 ⟨rfl, hb9⟩
    go_wp2_with fail
    go_ret
    exact ⟨rfl, HBW3.out.trans (hb9.mono HBW3.out.size)⟩
  have hT9 : w3.heap.size < w3.heap.size + 1 := by omega
  go_wp2_with fail
  obtain ⟨W4, hW4⟩ : ∃ W4, w3.alloc (.cells #[.int .i64 me, .int .i64 0, .int .i64 first] 52) = W4 := ⟨_, rfl⟩
  have h49 : W4.heap[w3.heap.size]? = some (.cells #[.int .i64 me, .int .i64 0, .int .i64 first] 52 (0, 0)) := by rw [← hW4]; exact heap_alloc_new w3 _
  have hb4 : Below w3.heap.size w3 W4 := by rw [← hW4]; exact (Below.refl _ _).alloc (Nat.le_refl _) _
  have H49 := hid h49
  have HB4 := hid hb4
  rw [hW4]
  clear hW4 h49 hb4 q0 q1 q2 q3 q4 q5 q6 q7
  go_loopw [44] (fun z wq => ∃ n : Nat, n ≤ card.length ∧ z = .int .i64 n ∧ Below w3.heap.size w3 wq ∧ ∃ lead hm, wq.heap[w3.heap.size]? = some (.cells #[.int .i64 (me - n), .int .i64 lead, .int .i64 hm] 52 (0, 0)) ∧ AtInv ⟨me, mm, mr, false, mp⟩ first card n lead hm) (fun z _ => card.length - (intOf z).toNat)
  case atStart => exact ⟨0, Nat.zero_le _, rfl, HB4.out, 0, first, by rw [H49.out]; simp, rfl, fun _ => rfl⟩
  case round =>
    obtain ⟨n, hn, rfl, hb, lead, hm, hst, hinv⟩ := hrel
    have HB := hid hb
    obtain ⟨eo, heo⟩ : ∃ eo, me - (n : Int) = eo := ⟨_, rfl⟩
    rw [heo] at hst
    have HEO := hid heo
    have hTl : w3.heap.size < wr.heap.size := (Array.getElem?_eq_some_iff.1 hst).1
    have HT := hid hst
    clear heo
    have HI := hid hinv
    obtain ⟨wo, rfl⟩ : ∃ wo, wo = wr := ⟨_, rfl⟩
    have HBW := hid (HBW3.out.trans (hb.mono HBW3.out.size))
    clear hb hst hinv
    by_cases hlt : n < card.length
    case neg =>
      have hltI : ¬ (n : Int) < (card.length : Int) := by omega
      go_wp2_with fail
      refine (HSO.out _).mono ?_
      rintro e w9 ⟨rfl, hb9⟩
      go_wp2_with fail
      go_ret
      exact ⟨rfl, HBW.out.trans (hb9.mono HBW.out.size)⟩
    case pos =>
    have hltI : (n : Int) < (card.length : Int) := by omega
    obtain ⟨bc, oc, rfl, hbc, hcc⟩ := HCO.out n hlt
    have x0 := (HBW.out.cell (p := ⟨bc, oc + n * 3, none⟩) hbc).trans (hcc n hlt).1
    have x1 := (HBW.out.cell (p := ⟨bc, oc + n * 3 + 1, none⟩) hbc).trans (hcc n hlt).2.1
    have x2 := (HBW.out.cell (p := ⟨bc, oc + n * 3 + 2, none⟩) hbc).trans (hcc n hlt).2.2
    have hxg : card.getD n ⟨0, 0, false⟩ = card[n] := by simp [List.getD_eq_getElem?_getD, hlt]
    have HXG := hid hxg
    clear hcc hxg
    obtain ⟨x, hx⟩ : ∃ x, card[n] = x := ⟨_, rfl⟩
    rw [hx] at x0 x1 x2 HXG
    clear hx
    obtain ⟨xt, xp, xw⟩ := x
    dsimp only at x0 x1 x2
    obtain ⟨W5, hW5⟩ : ∃ W5, wo.alloc (.cells #[.int .i64 xt, .int .i64 xp, .bool xw] 54) = W5 := ⟨_, rfl⟩
    have hb5 : Below wo.heap.size wo W5 := by rw [← hW5]; exact (Below.refl _ _).alloc (Nat.le_refl _) _
    have HL5 := hid (show W5.heap[wo.heap.size]? = some (.cells #[.int .i64 xt, .int .i64 xp, .bool xw] 54 (0, 0)) by rw [← hW5]; exact heap_alloc_new wo _)
    have hz5 : wo.heap.size < W5.heap.size := by rw [← hW5]; simp
    have HB5 := hid hb5
    have HT5 := hid ((hb5.block w3.heap.size hTl).trans HT.out)
    have hT5l : w3.heap.size < W5.heap.size := by omega
    have HB35 := hid (HB.out.trans (hb5.mono HB.out.size))
    have HW5 := hid hW5
    clear hW5 hb5
    go_upto_region 9 with fail
    rw [HW5.out]
    clear HW5 x0 x1 x2
    have HRX := hid (fun W hb => HRP.out n hlt W (HBW3.out.trans ((HB35.out.trans (Below.mono hb HB35.out.size)).mono HBW3.out.size)))
    have HRP2 := hid (fun W hb => HRP.out n hlt W hb)
    have HSTP := hid (HST.out n)
    obtain ⟨RR, hRR⟩ : ∃ R, replayR ⟨me, mm, mr, false, mp⟩ first (card.take (n + 1)) (-1) = R := ⟨_, rfl⟩
    rw [hRR] at HRX HSTP HRP2
    clear hRR
    obtain ⟨rs, rk, rc⟩ := RR
    have HRX2 := hid (show ∀ W, Below W5.heap.size W5 W → Calls Tryz.prog 13 #[.agg #[.int .i64 me, .int .i64 mm, .int .i64 mr, .bool false, .bool mp], .int .i64 first, .slice (some ⟨bc, oc, none⟩) (n + 1) cap, .int .i64 (-1)] W fun e w' => e = .returned (.tuple #[rs.val, .int .i64 rk, .int .i64 rc]) ∧ Below W.heap.size W w' from fun W hb => HRX.out W hb)
    have HRP3 := hid (show ∀ W, Below w.heap.size w W → Calls Tryz.prog 13 #[.agg #[.int .i64 me, .int .i64 mm, .int .i64 mr, .bool false, .bool mp], .int .i64 first, .slice (some ⟨bc, oc, none⟩) (n + 1) cap, .int .i64 (-1)] W fun e w' => e = .returned (.tuple #[rs.val, .int .i64 rk, .int .i64 rc]) ∧ Below W.heap.size W w' from fun W hb => HRP2.out W hb)
    clear HRX HRP2
    have HRX := HRX2
    clear HRX2
    have HQ := hid (fun U (hb : Below W5.heap.size W5 U) => (HCE.out U (HB3.out.trans ((HB35.out.trans (Below.mono hb HB35.out.size)).mono HB3.out.size))).1)
    have HQS := hid (show ∀ (U : World) (P : Nat) (u0 u1 u2 u3 u4 u5 u6 u7 u8 : Value), W5.heap.size ≤ P → (U.cell? ⟨w.heap.size, 0, none⟩ = some (.int .i64 me) ∧ U.cell? ⟨w.heap.size, 1, none⟩ = some (.int .i64 mm) ∧ U.cell? ⟨w.heap.size, 2, none⟩ = some (.int .i64 mr) ∧ U.cell? ⟨w.heap.size, 3, none⟩ = some (.bool false) ∧ U.cell? ⟨w.heap.size, 4, none⟩ = some (.bool mp)) → ((((((((((U.setCell ⟨P, 0, none⟩ u0).setCell ⟨P, 1, none⟩ u1).setCell ⟨P, 2, none⟩ u2).setCell ⟨P, 3, none⟩ u3).setCell ⟨P, 4, none⟩ u4).setCell ⟨P, 5, none⟩ u5).setCell ⟨P, 6, none⟩ u6).setCell ⟨P, 7, none⟩ u7).setCell ⟨P, 8, none⟩ u8).cell? ⟨w.heap.size, 0, none⟩ = some (.int .i64 me) ∧ (((((((((U.setCell ⟨P, 0, none⟩ u0).setCell ⟨P, 1, none⟩ u1).setCell ⟨P, 2, none⟩ u2).setCell ⟨P, 3, none⟩ u3).setCell ⟨P, 4, none⟩ u4).setCell ⟨P, 5, none⟩ u5).setCell ⟨P, 6, none⟩ u6).setCell ⟨P, 7, none⟩ u7).setCell ⟨P, 8, none⟩ u8).cell? ⟨w.heap.size, 1, none⟩ = some (.int .i64 mm) ∧ (((((((((U.setCell ⟨P, 0, none⟩ u0).setCell ⟨P, 1, none⟩ u1).setCell ⟨P, 2, none⟩ u2).setCell ⟨P, 3, none⟩ u3).setCell ⟨P, 4, none⟩ u4).setCell ⟨P, 5, none⟩ u5).setCell ⟨P, 6, none⟩ u6).setCell ⟨P, 7, none⟩ u7).setCell ⟨P, 8, none⟩ u8).cell? ⟨w.heap.size, 2, none⟩ = some (.int .i64 mr) ∧ (((((((((U.setCell ⟨P, 0, none⟩ u0).setCell ⟨P, 1, none⟩ u1).setCell ⟨P, 2, none⟩ u2).setCell ⟨P, 3, none⟩ u3).setCell ⟨P, 4, none⟩ u4).setCell ⟨P, 5, none⟩ u5).setCell ⟨P, 6, none⟩ u6).setCell ⟨P, 7, none⟩ u7).setCell ⟨P, 8, none⟩ u8).cell? ⟨w.heap.size, 3, none⟩ = some (.bool false) ∧ (((((((((U.setCell ⟨P, 0, none⟩ u0).setCell ⟨P, 1, none⟩ u1).setCell ⟨P, 2, none⟩ u2).setCell ⟨P, 3, none⟩ u3).setCell ⟨P, 4, none⟩ u4).setCell ⟨P, 5, none⟩ u5).setCell ⟨P, 6, none⟩ u6).setCell ⟨P, 7, none⟩ u7).setCell ⟨P, 8, none⟩ u8).cell? ⟨w.heap.size, 4, none⟩ = some (.bool mp)) from fun U P u0 u1 u2 u3 u4 u5 u6 u7 u8 hP ⟨g0, g1, g2, g3, g4⟩ => by
      have hne : P ≠ w.heap.size := by have := HB35.out.size; have := HB3.out.size; omega
      have hk : ∀ i, ((((((((((U.setCell ⟨P, 0, none⟩ u0).setCell ⟨P, 1, none⟩ u1).setCell ⟨P, 2, none⟩ u2).setCell ⟨P, 3, none⟩ u3).setCell ⟨P, 4, none⟩ u4).setCell ⟨P, 5, none⟩ u5).setCell ⟨P, 6, none⟩ u6).setCell ⟨P, 7, none⟩ u7).setCell ⟨P, 8, none⟩ u8)).cell? ⟨w.heap.size, i, none⟩ = U.cell? ⟨w.heap.size, i, none⟩ := fun i => World.cell?_of_block (a := ⟨w.heap.size, i, none⟩) (put9_other u0 u1 u2 u3 u4 u5 u6 u7 u8 hne)
      exact ⟨(hk 0).trans g0, (hk 1).trans g1, (hk 2).trans g2, (hk 3).trans g3, (hk 4).trans g4⟩)
    obtain ⟨s0, s1, s2, s3, s4, s5, s6, s7, s8⟩ := rs
    have HRV := hid (show (StD.mk s0 s1 s2 s3 s4 s5 s6 s7 s8).val = .agg #[.int .i64 s0, .int .i64 s1, .int .i64 s2, .int .i64 s3, .int .i64 s4, .bool s5, .bool s6, .bool s7, .bool s8] from rfl)
    rw [HRV.out] at HRX HRP3
    have hn1 : (0 : Int) ≤ (n : Int) + 1 := by omega
    have hn2 : (n : Int) + 1 ≤ (cap : Int) := by omega
    have hc0 : ¬ cap = 0 := by omega
    have hc0' : (cap == 0) = false := by simp; omega
    have hn3 : n + 1 ≤ cap := by omega
    have hwr : IntKind.i64.wrap ((n : Int) + 1) = (n : Int) + 1 := by rw [IntKind.wrap_i64]; omega
    have hn4 : ((n : Int) + 1).toNat = n + 1 := by omega
    go_cut [12, 13, 14] (fun x y z wx => ∃ P, x = .pointer (some ⟨P, 0, none⟩) ∧ y = .int .i64 rk ∧ z = .int .i64 rc ∧ wx.heap[P]? = some (.cells (StD.mk s0 s1 s2 s3 s4 s5 s6 s7 s8).arr 58 (0, 0)) ∧ W5.heap.size ≤ P ∧ Below W5.heap.size W5 wx)
    case first =>
      refine wp_region_held_drew (S := (fun U => U.cell? ⟨w.heap.size, 0, none⟩ = some (.int .i64 me) ∧ U.cell? ⟨w.heap.size, 1, none⟩ = some (.int .i64 mm) ∧ U.cell? ⟨w.heap.size, 2, none⟩ = some (.int .i64 mr) ∧ U.cell? ⟨w.heap.size, 3, none⟩ = some (.bool false) ∧ U.cell? ⟨w.heap.size, 4, none⟩ = some (.bool mp))) (by kernel_rfl) (HQ.out _ ((Below.refl _ W5).drew)) (fun hH => ?_)
      refine wpAnyH_take (i := 0) (oi := { dst := some 52, op := Go.Op.load 44 (Go.Operand.tmp 4), type := 44, pos := "top11.go:61", after := #[], guard := none }) (v := (.agg #[.int .i64 me, .int .i64 mm, .int .i64 mr, .bool false, .bool mp])) rfl (by kernel_rfl) (by kernel_rfl) (by kernel_rfl) (fun _ _ _ h => h) (Or.inl ⟨by rfl, ?_⟩) hH ?_
      · intro w hSw
        (try dsimp only at hSw)
        go_simp
      (try simp only [Act.put, List.setIfInBounds_toArray, List.set_cons_zero, List.set_cons_succ])
      refine wpAnyH_take (i := 1) (oi := { dst := some 53, op := Go.Op.move (Go.Operand.tmp 1), type := 3, pos := "top11.go:61", after := #[], guard := none }) (v := (.int .i64 first)) rfl (by kernel_rfl) (by kernel_rfl) (by kernel_rfl) (fun _ _ _ h => h) (Or.inl ⟨by rfl, ?_⟩) hH ?_
      · intro w hSw
        (try dsimp only at hSw)
        go_simp
      (try simp only [Act.put, List.setIfInBounds_toArray, List.set_cons_zero, List.set_cons_succ])
      refine wpAnyH_take (i := 2) (oi := { dst := some 54, op := Go.Op.move (Go.Operand.tmp 2), type := 45, pos := "top11.go:61", after := #[], guard := none }) (v := (.slice (some ⟨bc, oc, none⟩) card.length cap)) rfl (by kernel_rfl) (by kernel_rfl) (by kernel_rfl) (fun _ _ _ h => h) (Or.inl ⟨by rfl, ?_⟩) hH ?_
      · intro w hSw
        (try dsimp only at hSw)
        go_simp
      (try simp only [Act.put, List.setIfInBounds_toArray, List.set_cons_zero, List.set_cons_succ])
      refine wpAnyH_take (i := 3) (oi := { dst := some 55, op := Go.Op.move (Go.Operand.tmp 10), type := 3, pos := "top11.go:61", after := #[], guard := none }) (v := (.int .i64 n)) rfl (by kernel_rfl) (by kernel_rfl) (by kernel_rfl) (fun _ _ _ h => h) (Or.inl ⟨by rfl, ?_⟩) hH ?_
      · intro w hSw
        (try dsimp only at hSw)
        go_simp
      (try simp only [Act.put, List.setIfInBounds_toArray, List.set_cons_zero, List.set_cons_succ])
      refine wpAnyH_take (i := 4) (oi := { dst := some 56, op := Go.Op.binOp Go.BinOp.add 3 (Go.Operand.tmp 55) (Go.Operand.const (Go.Value.int Go.IntKind.i64 1)) 3, type := 3, pos := "top11.go:61", after := #[{ on := 3, ground := Go.Ground.data }], guard := none }) (v := (.int .i64 ((n : Int) + 1))) rfl (by kernel_rfl) (by kernel_rfl) (by kernel_rfl) (fun _ _ _ h => h) (Or.inl ⟨by rfl, ?_⟩) hH ?_
      · intro w hSw
        (try dsimp only at hSw)
        go_simp
      (try simp only [Act.put, List.setIfInBounds_toArray, List.set_cons_zero, List.set_cons_succ])
      refine wpAnyH_take (i := 5) (oi := { dst := some 57, op := Go.Op.slice 45 (Go.Operand.tmp 54) none (some (Go.Operand.tmp 56)) none, type := 45, pos := "top11.go:61", after := #[{ on := 2, ground := Go.Ground.data }, { on := 4, ground := Go.Ground.data }], guard := none }) (v := (.slice (some ⟨bc, oc, none⟩) (n + 1) cap)) rfl (by kernel_rfl) (by kernel_rfl) (by kernel_rfl) (fun _ _ _ h => h) (Or.inl ⟨by rfl, ?_⟩) hH ?_
      · intro w hSw
        (try dsimp only at hSw)
        go_simp
      (try simp only [Act.put, List.setIfInBounds_toArray, List.set_cons_zero, List.set_cons_succ])
      refine wpAnyH_ready (rs := [6, 11]) (by kernel_rfl) (by simp) ?_
      refine AllReadyH.cons rfl (fun K hK => ?_) (AllReadyH.cons rfl (fun K hK => ?_) AllReadyH.nil)
      · skip
        (try dsimp only at hH)
        go_simp
        refine (HRX.out _ ((Below.refl _ W5).drew)).mono ?_
        rintro e w6 ⟨rfl, hb6⟩
        refine hK.out _ _ (HQ.out _ (btrans ((Below.refl _ W5).drew) (Nat.le_refl _) hb6)) (fun hH1 => ?_)
        clear hK K
        (try simp only [Act.put, List.setIfInBounds_toArray, List.set_cons_zero, List.set_cons_succ])
        refine wpAnyH_take (i := 7) (oi := { dst := some 51, op := Go.Op.move (Go.Operand.tmp 58), type := 59, pos := "top11.go:61", after := #[{ on := 6, ground := Go.Ground.data }], guard := none }) (v := (.tuple #[.agg #[.int .i64 s0, .int .i64 s1, .int .i64 s2, .int .i64 s3, .int .i64 s4, .bool s5, .bool s6, .bool s7, .bool s8], .int .i64 rk, .int .i64 rc])) rfl (by kernel_rfl) (by kernel_rfl) (by kernel_rfl) (fun _ _ _ h => h) (Or.inl ⟨by rfl, ?_⟩) hH1 ?_
        · intro w hSw
          (try dsimp only at hSw)
          go_simp
        (try simp only [Act.put, List.setIfInBounds_toArray, List.set_cons_zero, List.set_cons_succ])
        refine wpAnyH_take (i := 8) (oi := { dst := some 59, op := Go.Op.extract (Go.Operand.tmp 51) 0, type := 58, pos := "top11.go:61", after := #[{ on := 7, ground := Go.Ground.data }], guard := none }) (v := (.agg #[.int .i64 s0, .int .i64 s1, .int .i64 s2, .int .i64 s3, .int .i64 s4, .bool s5, .bool s6, .bool s7, .bool s8])) rfl (by kernel_rfl) (by kernel_rfl) (by kernel_rfl) (fun _ _ _ h => h) (Or.inl ⟨by rfl, ?_⟩) hH1 ?_
        · intro w hSw
          (try dsimp only at hSw)
          go_simp
        (try simp only [Act.put, List.setIfInBounds_toArray, List.set_cons_zero, List.set_cons_succ])
        refine wpAnyH_take (i := 9) (oi := { dst := some 60, op := Go.Op.extract (Go.Operand.tmp 51) 1, type := 3, pos := "top11.go:61", after := #[{ on := 7, ground := Go.Ground.data }, { on := 12, ground := Go.Ground.gcOnly Go.Departure.lateStores }], guard := none }) (v := (.int .i64 rk)) rfl (by kernel_rfl) (by kernel_rfl) (by kernel_rfl) (fun _ _ _ h => h) (Or.inl ⟨by rfl, ?_⟩) hH1 ?_
        · intro w hSw
          (try dsimp only at hSw)
          go_simp
        (try simp only [Act.put, List.setIfInBounds_toArray, List.set_cons_zero, List.set_cons_succ])
        refine wpAnyH_take (i := 10) (oi := { dst := some 61, op := Go.Op.extract (Go.Operand.tmp 51) 2, type := 33, pos := "top11.go:61", after := #[{ on := 7, ground := Go.Ground.data }, { on := 13, ground := Go.Ground.gcOnly Go.Departure.lateStores }], guard := none }) (v := (.int .i64 rc)) rfl (by kernel_rfl) (by kernel_rfl) (by kernel_rfl) (fun _ _ _ h => h) (Or.inl ⟨by rfl, ?_⟩) hH1 ?_
        · intro w hSw
          (try dsimp only at hSw)
          go_simp
        (try simp only [Act.put, List.setIfInBounds_toArray, List.set_cons_zero, List.set_cons_succ])
        refine wpAnyH_ready (rs := [11]) (by kernel_rfl) (by simp) ?_
        refine AllReadyH.cons rfl (fun K hK => ?_) AllReadyH.nil
        (try dsimp only at hH1)
        go_simp
        refine hK.out _ _ (HQ.out _ ((btrans ((Below.refl _ W5).drew) (Nat.le_refl _) hb6).alloc ((btrans ((Below.refl _ W5).drew) (Nat.le_refl _) hb6).size) (.cells #[.int .i64 0, .int .i64 0, .int .i64 0, .int .i64 0, .int .i64 0, .bool false, .bool false, .bool false, .bool false] 58))) (fun hH2 => ?_)
        clear hK K
        (try simp only [Act.put, List.setIfInBounds_toArray, List.set_cons_zero, List.set_cons_succ])
        refine wpAnyH_ready (rs := [12]) (by kernel_rfl) (by simp) ?_
        refine AllReadyH.cons rfl (fun K hK => ?_) AllReadyH.nil
        (try dsimp only at hH2)
        have hN := heap_alloc_new w6 (.cells #[.int .i64 0, .int .i64 0, .int .i64 0, .int .i64 0, .int .i64 0, .bool false, .bool false, .bool false, .bool false] 58)
        obtain ⟨y0, y1, y2, y3, y4, y5, y6, y7, y8, yf⟩ := cells9 hN
        go_simp
        refine hK.out _ _ (HQ.out _ ((btrans ((Below.refl _ W5).drew) (Nat.le_refl _) hb6).alloc ((btrans ((Below.refl _ W5).drew) (Nat.le_refl _) hb6).size) (.cells #[.int .i64 s0, .int .i64 s1, .int .i64 s2, .int .i64 s3, .int .i64 s4, .bool s5, .bool s6, .bool s7, .bool s8] 58))) (fun hH3 => ?_)
        clear hK K
        (try simp only [Act.put, List.setIfInBounds_toArray, List.set_cons_zero, List.set_cons_succ])
        refine wpAnyH_take (i := 13) (oi := { dst := some 13, op := Go.Op.assign (Go.Operand.tmp 60), type := 3, pos := "top11.go:61", after := #[{ on := 9, ground := Go.Ground.data }, { on := 12, ground := Go.Ground.chain }, { on := 0, ground := Go.Ground.phase }, { on := 1, ground := Go.Ground.phase }, { on := 2, ground := Go.Ground.phase }, { on := 3, ground := Go.Ground.phase }, { on := 4, ground := Go.Ground.phase }, { on := 5, ground := Go.Ground.phase }, { on := 6, ground := Go.Ground.phase }, { on := 7, ground := Go.Ground.phase }, { on := 8, ground := Go.Ground.phase }, { on := 9, ground := Go.Ground.phase }, { on := 10, ground := Go.Ground.textOnly Go.Departure.lateStores }, { on := 11, ground := Go.Ground.phase }, { on := 12, ground := Go.Ground.phase }], guard := none }) (v := (.int .i64 rk)) rfl (by kernel_rfl) (by kernel_rfl) (by kernel_rfl) (fun _ _ _ h => h) (Or.inl ⟨by rfl, ?_⟩) hH3 ?_
        · intro w hSw
          (try dsimp only at hSw)
          go_simp
        (try simp only [Act.put, List.setIfInBounds_toArray, List.set_cons_zero, List.set_cons_succ])
        refine wpAnyH_take (i := 14) (oi := { dst := some 14, op := Go.Op.assign (Go.Operand.tmp 61), type := 33, pos := "top11.go:61", after := #[{ on := 10, ground := Go.Ground.data }, { on := 13, ground := Go.Ground.chain }, { on := 0, ground := Go.Ground.phase }, { on := 1, ground := Go.Ground.phase }, { on := 2, ground := Go.Ground.phase }, { on := 3, ground := Go.Ground.phase }, { on := 4, ground := Go.Ground.phase }, { on := 5, ground := Go.Ground.phase }, { on := 6, ground := Go.Ground.phase }, { on := 7, ground := Go.Ground.phase }, { on := 8, ground := Go.Ground.phase }, { on := 9, ground := Go.Ground.phase }, { on := 10, ground := Go.Ground.phase }, { on := 11, ground := Go.Ground.phase }, { on := 12, ground := Go.Ground.phase }, { on := 13, ground := Go.Ground.phase }], guard := none }) (v := (.int .i64 rc)) rfl (by kernel_rfl) (by kernel_rfl) (by kernel_rfl) (fun _ _ _ h => h) (Or.inl ⟨by rfl, ?_⟩) hH3 ?_
        · intro w hSw
          (try dsimp only at hSw)
          go_simp
        (try simp only [Act.put, List.setIfInBounds_toArray, List.set_cons_zero, List.set_cons_succ])
        refine wpAnyH_done (by kernel_rfl) ?_ _
        go_wp2_with fail
        go_meet
        exact ⟨w6.heap.size, rfl, rfl, rfl, heap_alloc_new w6 (.cells #[.int .i64 s0, .int .i64 s1, .int .i64 s2, .int .i64 s3, .int .i64 s4, .bool s5, .bool s6, .bool s7, .bool s8] 58), (btrans ((Below.refl _ W5).drew) (Nat.le_refl _) hb6).size, (btrans ((Below.refl _ W5).drew) (Nat.le_refl _) hb6).alloc ((btrans ((Below.refl _ W5).drew) (Nat.le_refl _) hb6).size) (.cells #[.int .i64 s0, .int .i64 s1, .int .i64 s2, .int .i64 s3, .int .i64 s4, .bool s5, .bool s6, .bool s7, .bool s8] 58)⟩
      · skip
        (try dsimp only at hH)
        go_simp
        refine hK.out _ _ (HQ.out _ ((Below.refl _ W5).drew.alloc (Nat.le_refl _) (.cells #[.int .i64 0, .int .i64 0, .int .i64 0, .int .i64 0, .int .i64 0, .bool false, .bool false, .bool false, .bool false] 58))) (fun hH4 => ?_)
        clear hK K
        (try simp only [Act.put, List.setIfInBounds_toArray, List.set_cons_zero, List.set_cons_succ])
        refine wpAnyH_ready (rs := [6]) (by kernel_rfl) (by simp) ?_
        refine AllReadyH.cons rfl (fun K hK => ?_) AllReadyH.nil
        (try dsimp only at hH4)
        go_simp
        refine (HRX.out _ ((Below.refl _ W5).drew.alloc (Nat.le_refl _) (.cells #[.int .i64 0, .int .i64 0, .int .i64 0, .int .i64 0, .int .i64 0, .bool false, .bool false, .bool false, .bool false] 58))).mono ?_
        rintro e w6 ⟨rfl, hb6⟩
        refine hK.out _ _ (HQ.out _ (btrans ((Below.refl _ W5).drew.alloc (Nat.le_refl _) (.cells #[.int .i64 0, .int .i64 0, .int .i64 0, .int .i64 0, .int .i64 0, .bool false, .bool false, .bool false, .bool false] 58)) (Nat.le_refl _) hb6)) (fun hH5 => ?_)
        clear hK K
        (try simp only [Act.put, List.setIfInBounds_toArray, List.set_cons_zero, List.set_cons_succ])
        refine wpAnyH_take (i := 7) (oi := { dst := some 51, op := Go.Op.move (Go.Operand.tmp 58), type := 59, pos := "top11.go:61", after := #[{ on := 6, ground := Go.Ground.data }], guard := none }) (v := (.tuple #[.agg #[.int .i64 s0, .int .i64 s1, .int .i64 s2, .int .i64 s3, .int .i64 s4, .bool s5, .bool s6, .bool s7, .bool s8], .int .i64 rk, .int .i64 rc])) rfl (by kernel_rfl) (by kernel_rfl) (by kernel_rfl) (fun _ _ _ h => h) (Or.inl ⟨by rfl, ?_⟩) hH5 ?_
        · intro w hSw
          (try dsimp only at hSw)
          go_simp
        (try simp only [Act.put, List.setIfInBounds_toArray, List.set_cons_zero, List.set_cons_succ])
        refine wpAnyH_take (i := 8) (oi := { dst := some 59, op := Go.Op.extract (Go.Operand.tmp 51) 0, type := 58, pos := "top11.go:61", after := #[{ on := 7, ground := Go.Ground.data }], guard := none }) (v := (.agg #[.int .i64 s0, .int .i64 s1, .int .i64 s2, .int .i64 s3, .int .i64 s4, .bool s5, .bool s6, .bool s7, .bool s8])) rfl (by kernel_rfl) (by kernel_rfl) (by kernel_rfl) (fun _ _ _ h => h) (Or.inl ⟨by rfl, ?_⟩) hH5 ?_
        · intro w hSw
          (try dsimp only at hSw)
          go_simp
        (try simp only [Act.put, List.setIfInBounds_toArray, List.set_cons_zero, List.set_cons_succ])
        refine wpAnyH_take (i := 9) (oi := { dst := some 60, op := Go.Op.extract (Go.Operand.tmp 51) 1, type := 3, pos := "top11.go:61", after := #[{ on := 7, ground := Go.Ground.data }, { on := 12, ground := Go.Ground.gcOnly Go.Departure.lateStores }], guard := none }) (v := (.int .i64 rk)) rfl (by kernel_rfl) (by kernel_rfl) (by kernel_rfl) (fun _ _ _ h => h) (Or.inl ⟨by rfl, ?_⟩) hH5 ?_
        · intro w hSw
          (try dsimp only at hSw)
          go_simp
        (try simp only [Act.put, List.setIfInBounds_toArray, List.set_cons_zero, List.set_cons_succ])
        refine wpAnyH_take (i := 10) (oi := { dst := some 61, op := Go.Op.extract (Go.Operand.tmp 51) 2, type := 33, pos := "top11.go:61", after := #[{ on := 7, ground := Go.Ground.data }, { on := 13, ground := Go.Ground.gcOnly Go.Departure.lateStores }], guard := none }) (v := (.int .i64 rc)) rfl (by kernel_rfl) (by kernel_rfl) (by kernel_rfl) (fun _ _ _ h => h) (Or.inl ⟨by rfl, ?_⟩) hH5 ?_
        · intro w hSw
          (try dsimp only at hSw)
          go_simp
        (try simp only [Act.put, List.setIfInBounds_toArray, List.set_cons_zero, List.set_cons_succ])
        refine wpAnyH_ready (rs := [12]) (by kernel_rfl) (by simp) ?_
        refine AllReadyH.cons rfl (fun K hK => ?_) AllReadyH.nil
        (try dsimp only at hH5)
        have hN : w6.heap[W5.heap.size]? = some (.cells #[.int .i64 0, .int .i64 0, .int .i64 0, .int .i64 0, .int .i64 0, .bool false, .bool false, .bool false, .bool false] 58 (0, 0)) := (hb6.block W5.heap.size (by simp)).trans (heap_alloc_new W5.drew (.cells #[.int .i64 0, .int .i64 0, .int .i64 0, .int .i64 0, .int .i64 0, .bool false, .bool false, .bool false, .bool false] 58))
        obtain ⟨y0, y1, y2, y3, y4, y5, y6, y7, y8, yf⟩ := cells9 hN
        go_simp
        refine hK.out _ _ (HQS.out _ _ _ _ _ _ _ _ _ _ _ (Nat.le_refl _) (HQ.out _ (btrans ((Below.refl _ W5).drew.alloc (Nat.le_refl _) (.cells #[.int .i64 0, .int .i64 0, .int .i64 0, .int .i64 0, .int .i64 0, .bool false, .bool false, .bool false, .bool false] 58)) (Nat.le_refl _) hb6))) (fun hH6 => ?_)
        clear hK K
        (try simp only [Act.put, List.setIfInBounds_toArray, List.set_cons_zero, List.set_cons_succ])
        refine wpAnyH_take (i := 13) (oi := { dst := some 13, op := Go.Op.assign (Go.Operand.tmp 60), type := 3, pos := "top11.go:61", after := #[{ on := 9, ground := Go.Ground.data }, { on := 12, ground := Go.Ground.chain }, { on := 0, ground := Go.Ground.phase }, { on := 1, ground := Go.Ground.phase }, { on := 2, ground := Go.Ground.phase }, { on := 3, ground := Go.Ground.phase }, { on := 4, ground := Go.Ground.phase }, { on := 5, ground := Go.Ground.phase }, { on := 6, ground := Go.Ground.phase }, { on := 7, ground := Go.Ground.phase }, { on := 8, ground := Go.Ground.phase }, { on := 9, ground := Go.Ground.phase }, { on := 10, ground := Go.Ground.textOnly Go.Departure.lateStores }, { on := 11, ground := Go.Ground.phase }, { on := 12, ground := Go.Ground.phase }], guard := none }) (v := (.int .i64 rk)) rfl (by kernel_rfl) (by kernel_rfl) (by kernel_rfl) (fun _ _ _ h => h) (Or.inl ⟨by rfl, ?_⟩) hH6 ?_
        · intro w hSw
          (try dsimp only at hSw)
          go_simp
        (try simp only [Act.put, List.setIfInBounds_toArray, List.set_cons_zero, List.set_cons_succ])
        refine wpAnyH_take (i := 14) (oi := { dst := some 14, op := Go.Op.assign (Go.Operand.tmp 61), type := 33, pos := "top11.go:61", after := #[{ on := 10, ground := Go.Ground.data }, { on := 13, ground := Go.Ground.chain }, { on := 0, ground := Go.Ground.phase }, { on := 1, ground := Go.Ground.phase }, { on := 2, ground := Go.Ground.phase }, { on := 3, ground := Go.Ground.phase }, { on := 4, ground := Go.Ground.phase }, { on := 5, ground := Go.Ground.phase }, { on := 6, ground := Go.Ground.phase }, { on := 7, ground := Go.Ground.phase }, { on := 8, ground := Go.Ground.phase }, { on := 9, ground := Go.Ground.phase }, { on := 10, ground := Go.Ground.phase }, { on := 11, ground := Go.Ground.phase }, { on := 12, ground := Go.Ground.phase }, { on := 13, ground := Go.Ground.phase }], guard := none }) (v := (.int .i64 rc)) rfl (by kernel_rfl) (by kernel_rfl) (by kernel_rfl) (fun _ _ _ h => h) (Or.inl ⟨by rfl, ?_⟩) hH6 ?_
        · intro w hSw
          (try dsimp only at hSw)
          go_simp
        (try simp only [Act.put, List.setIfInBounds_toArray, List.set_cons_zero, List.set_cons_succ])
        refine wpAnyH_done (by kernel_rfl) ?_ _
        go_wp2_with fail
        go_meet
        exact ⟨_, rfl, rfl, rfl, put9_same (.int .i64 s0) (.int .i64 s1) (.int .i64 s2) (.int .i64 s3) (.int .i64 s4) (.bool s5) (.bool s6) (.bool s7) (.bool s8) hN, Nat.le_refl _, put9_below (.int .i64 s0) (.int .i64 s1) (.int .i64 s2) (.int .i64 s3) (.int .i64 s4) (.bool s5) (.bool s6) (.bool s7) (.bool s8) (btrans ((Below.refl _ W5).drew.alloc (Nat.le_refl _) (.cells #[.int .i64 0, .int .i64 0, .int .i64 0, .int .i64 0, .int .i64 0, .bool false, .bool false, .bool false, .bool false] 58)) (Nat.le_refl _) hb6) (Nat.le_refl _)⟩
    case rest =>
      obtain ⟨P, rfl, rfl, rfl, hP, hPs, hbx⟩ := hcut
      obtain ⟨wx, rfl⟩ := nameW hbx
      have HX := hid hbx
      have HB3X := hid (HB35.out.trans (hbx.mono HB35.out.size))
      have hTX := (HX.out.block w3.heap.size hT5l).trans HT5.out
      have HTX := hid hTX
      have HBWX := hid (HBW3.out.trans (HB3X.out.mono HBW3.out.size))
      have hLX := (HX.out.block wo.heap.size hz5).trans HL5.out
      obtain ⟨⟨m0, m1, m2, m3, m4⟩, -⟩ := HCE.out wx (HB3.out.trans (HB3X.out.mono HB3.out.size))
      have l0' : wx.cell? ⟨wo.heap.size, 0, none⟩ = some (.int .i64 xt) := by simp [World.cell?, hLX]
      have l1' : wx.cell? ⟨wo.heap.size, 1, none⟩ = some (.int .i64 xp) := by simp [World.cell?, hLX]
      have t0 : wx.cell? ⟨w3.heap.size, 0, none⟩ = some (.int .i64 eo) := by simp [World.cell?, hTX]
      have t1 : wx.cell? ⟨w3.heap.size, 1, none⟩ = some (.int .i64 lead) := by simp [World.cell?, hTX]
      have t2 : wx.cell? ⟨w3.heap.size, 2, none⟩ = some (.int .i64 hm) := by simp [World.cell?, hTX]
      clear hbx hP hPs hTX hLX
      by_cases hrc : rc = 0
      case neg =>
        go_wp2_with fail
        refine (HSO.out _).mono ?_
        rintro e w9 ⟨rfl, hb9⟩
        go_wp2_with fail
        go_ret
        exact ⟨rfl, HBWX.out.trans (hb9.mono HBWX.out.size)⟩
      case pos =>
      subst hrc
      by_cases hne : (n : Int) < me
      case neg =>
        have hne' : me ≤ (n : Int) := by omega
        clear hne
        go_wp2_with fail
        refine (HSO.out _).mono ?_
        rintro e w9 ⟨rfl, hb9⟩
        go_wp2_with fail
        go_ret
        exact ⟨rfl, HBWX.out.trans (hb9.mono HBWX.out.size)⟩
      case pos =>
      have hne' : ¬ me ≤ (n : Int) := by omega
      obtain ⟨hs1, hs2, hs3⟩ := HSTP.out rfl hlt hne (by omega)
      have hld := HI.out.1
      have hhm := HI.out.2 hs3
      rw [HXG.out, ← hs1] at hs2
      have HS1 := hid hs1
      have k1 := hs2.ham
      have k2 := hs2.lead
      have k3 := hs2.pt
      have k4 := hs2.next
      have k5 := hs2.lead2
      have k6 := hs2.ham2
      have k7 := hs2.ham3
      have k8 := hs2.over
      have k9 := hs2.win
      have k10 := hs2.pb
      rw [← hhm] at k1 k3 k4 k6 k7
      rw [← hld] at k2 k4
      dsimp only at k4 k5 k6 k8 k9 k10
      have hpt : ptN ⟨xt, xp, xw⟩ hm = if xt = hm then xp else -xp := rfl
      obtain ⟨pt, hptv⟩ : ∃ p, ptN ⟨xt, xp, xw⟩ hm = p := ⟨_, rfl⟩
      obtain ⟨hq, hhq⟩ : ∃ q, hamN hm pt = q := ⟨_, rfl⟩
      rw [hptv] at k3 k4 k6 k7 hpt
      rw [hhq] at k6 k7
      have HNXC := hid (fun W => HNX.out eo lead hm pt (by have := HEO.out; omega) k2 k1 k3 (by rw [k4]; exact k5) W)
      rw [k4, hhq] at HNXC
      have hxb : -8 ≤ xp ∧ xp ≤ 8 := by split at hpt <;> omega
      have hend : me - (n : Int) - 1 = eo - 1 := by rw [HEO.out]
      rw [hend] at k8
      have K8 := hid k8
      have K6 := hid k6
      have K9 := hid k9
      have K7 := hid k7
      have K5 := hid k5
      have HQH := hid hhq
      have HPT := hid hptv
      have hpc := hpt
      clear k1 k2 k3 k4 k5 k6 k7 k8 k9 hs1 hs2 hs3 hld hhm hptv hhq hend hpt
      have hTxl : w3.heap.size < wx.heap.size := (Array.getElem?_eq_some_iff.1 HTX.out).1
      by_cases hxt : xt = hm
      case pos =>
        rw [if_pos hxt] at hpc
        subst hpc
        go_wp2_with fail
        refine (HNXC.out _).mono ?_
        rintro e w7 ⟨rfl, hb7⟩
        have HX7 := hid (HX.out.trans (hb7.mono HX.out.size))
        have hT7 := (hb7.block w3.heap.size hTxl).trans HTX.out
        have HB37 := hid (HB3X.out.trans (hb7.mono HB3X.out.size))
        have hT7l : w3.heap.size < w7.heap.size := (Array.getElem?_eq_some_iff.1 hT7).1
        have hTne : w3.heap.size ≠ w7.heap.size := by omega
        have hTne2 : w7.heap.size ≠ w3.heap.size := by omega
        have g0 : w7.cell? ⟨w3.heap.size, 0, none⟩ = some (.int .i64 eo) := by simp [World.cell?, hT7]
        have g1 : w7.cell? ⟨w3.heap.size, 1, none⟩ = some (.int .i64 lead) := by simp [World.cell?, hT7]
        have g2 : w7.cell? ⟨w3.heap.size, 2, none⟩ = some (.int .i64 hm) := by simp [World.cell?, hT7]
        have f0 : w7.frozen? ⟨w3.heap.size, 0, none⟩ = false := by simp [World.frozen?, hT7]
        have f1 : w7.frozen? ⟨w3.heap.size, 1, none⟩ = false := by simp [World.frozen?, hT7]
        have f2 : w7.frozen? ⟨w3.heap.size, 2, none⟩ = false := by simp [World.frozen?, hT7]
        have HT7 := hid hT7
        clear hb7 hT7 t0 t1 t2 m0 m1 m2 m3 m4 l0' l1'
        go_upto_region 19 with fail
        obtain ⟨W8, hW8⟩ : ∃ W, (((w7.setCell ⟨w3.heap.size, 0, none⟩ (.int .i64 (eo - 1))).setCell ⟨w3.heap.size, 1, none⟩ (.int .i64 (s0 - s1))).setCell ⟨w3.heap.size, 2, none⟩ (.int .i64 hq)).alloc (.cells #[.int .i64 (eo - 1), .int .i64 (s0 - s1), .int .i64 hq] 52) = W := ⟨_, rfl⟩
        have HTW8 := hid (show W8.heap[w3.heap.size]? = some (.cells #[.int .i64 (eo - 1), .int .i64 (s0 - s1), .int .i64 hq] 52 (0, 0)) by
          rw [← hW8, Below.heap_alloc _ _ _ (by simp; exact hT7l)]
          exact put3_same (.int .i64 (eo - 1)) (.int .i64 (s0 - s1)) (.int .i64 hq) HT7.out)
        have hb8 : Below w3.heap.size w3 W8 := by
          rw [← hW8]
          exact (((HB37.out.setCell (p := ⟨w3.heap.size, 0, none⟩) (Nat.le_refl _) _).setCell (p := ⟨w3.heap.size, 1, none⟩) (Nat.le_refl _) _).setCell (p := ⟨w3.heap.size, 2, none⟩) (Nat.le_refl _) _).alloc (by have := HB37.out.size; simp; exact this) _
        rw [hW8]
        have HB8 := hid hb8
        clear hW8 hb8 g0 g1 g2 f0 f1 f2 HRX HQ HQS
        have HRX := hid (show ∀ W, Below W8.heap.size W8 W → Calls Tryz.prog 13 #[.agg #[.int .i64 me, .int .i64 mm, .int .i64 mr, .bool false, .bool mp], .int .i64 first, .slice (some ⟨bc, oc, none⟩) (n + 1) cap, .int .i64 (-1)] W fun e w' => e = .returned (.tuple #[.agg #[.int .i64 s0, .int .i64 s1, .int .i64 s2, .int .i64 s3, .int .i64 s4, .bool s5, .bool s6, .bool s7, .bool s8], .int .i64 rk, .int .i64 0]) ∧ Below W.heap.size W w' from fun W hb => HRP3.out W (HBW3.out.trans ((HB8.out.trans (Below.mono hb HB8.out.size)).mono HBW3.out.size)))
        have HQ := hid (fun U (hb : Below W8.heap.size W8 U) => (HCE.out U (HB3.out.trans ((HB8.out.trans (Below.mono hb HB8.out.size)).mono HB3.out.size))).1)
        have HQS := hid (show ∀ (U : World) (P : Nat) (u0 u1 u2 u3 u4 u5 u6 u7 u8 : Value), W8.heap.size ≤ P → (U.cell? ⟨w.heap.size, 0, none⟩ = some (.int .i64 me) ∧ U.cell? ⟨w.heap.size, 1, none⟩ = some (.int .i64 mm) ∧ U.cell? ⟨w.heap.size, 2, none⟩ = some (.int .i64 mr) ∧ U.cell? ⟨w.heap.size, 3, none⟩ = some (.bool false) ∧ U.cell? ⟨w.heap.size, 4, none⟩ = some (.bool mp)) → ((((((((((U.setCell ⟨P, 0, none⟩ u0).setCell ⟨P, 1, none⟩ u1).setCell ⟨P, 2, none⟩ u2).setCell ⟨P, 3, none⟩ u3).setCell ⟨P, 4, none⟩ u4).setCell ⟨P, 5, none⟩ u5).setCell ⟨P, 6, none⟩ u6).setCell ⟨P, 7, none⟩ u7).setCell ⟨P, 8, none⟩ u8).cell? ⟨w.heap.size, 0, none⟩ = some (.int .i64 me) ∧ (((((((((U.setCell ⟨P, 0, none⟩ u0).setCell ⟨P, 1, none⟩ u1).setCell ⟨P, 2, none⟩ u2).setCell ⟨P, 3, none⟩ u3).setCell ⟨P, 4, none⟩ u4).setCell ⟨P, 5, none⟩ u5).setCell ⟨P, 6, none⟩ u6).setCell ⟨P, 7, none⟩ u7).setCell ⟨P, 8, none⟩ u8).cell? ⟨w.heap.size, 1, none⟩ = some (.int .i64 mm) ∧ (((((((((U.setCell ⟨P, 0, none⟩ u0).setCell ⟨P, 1, none⟩ u1).setCell ⟨P, 2, none⟩ u2).setCell ⟨P, 3, none⟩ u3).setCell ⟨P, 4, none⟩ u4).setCell ⟨P, 5, none⟩ u5).setCell ⟨P, 6, none⟩ u6).setCell ⟨P, 7, none⟩ u7).setCell ⟨P, 8, none⟩ u8).cell? ⟨w.heap.size, 2, none⟩ = some (.int .i64 mr) ∧ (((((((((U.setCell ⟨P, 0, none⟩ u0).setCell ⟨P, 1, none⟩ u1).setCell ⟨P, 2, none⟩ u2).setCell ⟨P, 3, none⟩ u3).setCell ⟨P, 4, none⟩ u4).setCell ⟨P, 5, none⟩ u5).setCell ⟨P, 6, none⟩ u6).setCell ⟨P, 7, none⟩ u7).setCell ⟨P, 8, none⟩ u8).cell? ⟨w.heap.size, 3, none⟩ = some (.bool false) ∧ (((((((((U.setCell ⟨P, 0, none⟩ u0).setCell ⟨P, 1, none⟩ u1).setCell ⟨P, 2, none⟩ u2).setCell ⟨P, 3, none⟩ u3).setCell ⟨P, 4, none⟩ u4).setCell ⟨P, 5, none⟩ u5).setCell ⟨P, 6, none⟩ u6).setCell ⟨P, 7, none⟩ u7).setCell ⟨P, 8, none⟩ u8).cell? ⟨w.heap.size, 4, none⟩ = some (.bool mp)) from fun U P u0 u1 u2 u3 u4 u5 u6 u7 u8 hP ⟨g0, g1, g2, g3, g4⟩ => by
          have hne : P ≠ w.heap.size := by have := HB8.out.size; have := HB3.out.size; omega
          have hk : ∀ i, ((((((((((U.setCell ⟨P, 0, none⟩ u0).setCell ⟨P, 1, none⟩ u1).setCell ⟨P, 2, none⟩ u2).setCell ⟨P, 3, none⟩ u3).setCell ⟨P, 4, none⟩ u4).setCell ⟨P, 5, none⟩ u5).setCell ⟨P, 6, none⟩ u6).setCell ⟨P, 7, none⟩ u7).setCell ⟨P, 8, none⟩ u8)).cell? ⟨w.heap.size, i, none⟩ = U.cell? ⟨w.heap.size, i, none⟩ := fun i => World.cell?_of_block (a := ⟨w.heap.size, i, none⟩) (put9_other u0 u1 u2 u3 u4 u5 u6 u7 u8 hne)
          exact ⟨(hk 0).trans g0, (hk 1).trans g1, (hk 2).trans g2, (hk 3).trans g3, (hk 4).trans g4⟩)
        go_cut [18, 19, 20] (fun x y z wx => ∃ P, x = .pointer (some ⟨P, 0, none⟩) ∧ y = .int .i64 rk ∧ z = .int .i64 0 ∧ wx.heap[P]? = some (.cells (StD.mk s0 s1 s2 s3 s4 s5 s6 s7 s8).arr 58 (0, 0)) ∧ W8.heap.size ≤ P ∧ Below W8.heap.size W8 wx)
        case first =>
          refine wp_region_held_drew (S := (fun U => U.cell? ⟨w.heap.size, 0, none⟩ = some (.int .i64 me) ∧ U.cell? ⟨w.heap.size, 1, none⟩ = some (.int .i64 mm) ∧ U.cell? ⟨w.heap.size, 2, none⟩ = some (.int .i64 mr) ∧ U.cell? ⟨w.heap.size, 3, none⟩ = some (.bool false) ∧ U.cell? ⟨w.heap.size, 4, none⟩ = some (.bool mp))) (by kernel_rfl) (HQ.out _ ((Below.refl _ W8).drew)) (fun hH => ?_)
          refine wpAnyH_take (i := 0) (oi := { dst := some 90, op := Go.Op.load 44 (Go.Operand.tmp 4), type := 44, pos := "top11.go:74", after := #[], guard := none }) (v := (.agg #[.int .i64 me, .int .i64 mm, .int .i64 mr, .bool false, .bool mp])) rfl (by kernel_rfl) (by kernel_rfl) (by kernel_rfl) (fun _ _ _ h => h) (Or.inl ⟨by rfl, ?_⟩) hH ?_
          · intro w hSw
            (try dsimp only at hSw)
            go_simp
          (try simp only [Act.put, List.setIfInBounds_toArray, List.set_cons_zero, List.set_cons_succ])
          refine wpAnyH_take (i := 1) (oi := { dst := some 91, op := Go.Op.move (Go.Operand.tmp 1), type := 3, pos := "top11.go:74", after := #[], guard := none }) (v := (.int .i64 first)) rfl (by kernel_rfl) (by kernel_rfl) (by kernel_rfl) (fun _ _ _ h => h) (Or.inl ⟨by rfl, ?_⟩) hH ?_
          · intro w hSw
            (try dsimp only at hSw)
            go_simp
          (try simp only [Act.put, List.setIfInBounds_toArray, List.set_cons_zero, List.set_cons_succ])
          refine wpAnyH_take (i := 2) (oi := { dst := some 92, op := Go.Op.move (Go.Operand.tmp 2), type := 45, pos := "top11.go:74", after := #[], guard := none }) (v := (.slice (some ⟨bc, oc, none⟩) card.length cap)) rfl (by kernel_rfl) (by kernel_rfl) (by kernel_rfl) (fun _ _ _ h => h) (Or.inl ⟨by rfl, ?_⟩) hH ?_
          · intro w hSw
            (try dsimp only at hSw)
            go_simp
          (try simp only [Act.put, List.setIfInBounds_toArray, List.set_cons_zero, List.set_cons_succ])
          refine wpAnyH_take (i := 3) (oi := { dst := some 93, op := Go.Op.move (Go.Operand.tmp 10), type := 3, pos := "top11.go:74", after := #[], guard := none }) (v := (.int .i64 n)) rfl (by kernel_rfl) (by kernel_rfl) (by kernel_rfl) (fun _ _ _ h => h) (Or.inl ⟨by rfl, ?_⟩) hH ?_
          · intro w hSw
            (try dsimp only at hSw)
            go_simp
          (try simp only [Act.put, List.setIfInBounds_toArray, List.set_cons_zero, List.set_cons_succ])
          refine wpAnyH_take (i := 4) (oi := { dst := some 94, op := Go.Op.binOp Go.BinOp.add 3 (Go.Operand.tmp 93) (Go.Operand.const (Go.Value.int Go.IntKind.i64 1)) 3, type := 3, pos := "top11.go:74", after := #[{ on := 3, ground := Go.Ground.data }], guard := none }) (v := (.int .i64 ((n : Int) + 1))) rfl (by kernel_rfl) (by kernel_rfl) (by kernel_rfl) (fun _ _ _ h => h) (Or.inl ⟨by rfl, ?_⟩) hH ?_
          · intro w hSw
            (try dsimp only at hSw)
            go_simp
          (try simp only [Act.put, List.setIfInBounds_toArray, List.set_cons_zero, List.set_cons_succ])
          refine wpAnyH_take (i := 5) (oi := { dst := some 95, op := Go.Op.slice 45 (Go.Operand.tmp 92) none (some (Go.Operand.tmp 94)) none, type := 45, pos := "top11.go:74", after := #[{ on := 2, ground := Go.Ground.data }, { on := 4, ground := Go.Ground.data }], guard := none }) (v := (.slice (some ⟨bc, oc, none⟩) (n + 1) cap)) rfl (by kernel_rfl) (by kernel_rfl) (by kernel_rfl) (fun _ _ _ h => h) (Or.inl ⟨by rfl, ?_⟩) hH ?_
          · intro w hSw
            (try dsimp only at hSw)
            go_simp
          (try simp only [Act.put, List.setIfInBounds_toArray, List.set_cons_zero, List.set_cons_succ])
          refine wpAnyH_ready (rs := [6, 11]) (by kernel_rfl) (by simp) ?_
          refine AllReadyH.cons rfl (fun K hK => ?_) (AllReadyH.cons rfl (fun K hK => ?_) AllReadyH.nil)
          · skip
            (try dsimp only at hH)
            go_simp
            refine (HRX.out _ ((Below.refl _ W8).drew)).mono ?_
            rintro e w6 ⟨rfl, hb6⟩
            refine hK.out _ _ (HQ.out _ (btrans ((Below.refl _ W8).drew) (Nat.le_refl _) hb6)) (fun hH1 => ?_)
            clear hK K
            (try simp only [Act.put, List.setIfInBounds_toArray, List.set_cons_zero, List.set_cons_succ])
            refine wpAnyH_take (i := 7) (oi := { dst := some 89, op := Go.Op.move (Go.Operand.tmp 96), type := 59, pos := "top11.go:74", after := #[{ on := 6, ground := Go.Ground.data }], guard := none }) (v := (.tuple #[.agg #[.int .i64 s0, .int .i64 s1, .int .i64 s2, .int .i64 s3, .int .i64 s4, .bool s5, .bool s6, .bool s7, .bool s8], .int .i64 rk, .int .i64 0])) rfl (by kernel_rfl) (by kernel_rfl) (by kernel_rfl) (fun _ _ _ h => h) (Or.inl ⟨by rfl, ?_⟩) hH1 ?_
            · intro w hSw
              (try dsimp only at hSw)
              go_simp
            (try simp only [Act.put, List.setIfInBounds_toArray, List.set_cons_zero, List.set_cons_succ])
            refine wpAnyH_take (i := 8) (oi := { dst := some 97, op := Go.Op.extract (Go.Operand.tmp 89) 0, type := 58, pos := "top11.go:74", after := #[{ on := 7, ground := Go.Ground.data }], guard := none }) (v := (.agg #[.int .i64 s0, .int .i64 s1, .int .i64 s2, .int .i64 s3, .int .i64 s4, .bool s5, .bool s6, .bool s7, .bool s8])) rfl (by kernel_rfl) (by kernel_rfl) (by kernel_rfl) (fun _ _ _ h => h) (Or.inl ⟨by rfl, ?_⟩) hH1 ?_
            · intro w hSw
              (try dsimp only at hSw)
              go_simp
            (try simp only [Act.put, List.setIfInBounds_toArray, List.set_cons_zero, List.set_cons_succ])
            refine wpAnyH_take (i := 9) (oi := { dst := some 98, op := Go.Op.extract (Go.Operand.tmp 89) 1, type := 3, pos := "top11.go:74", after := #[{ on := 7, ground := Go.Ground.data }, { on := 12, ground := Go.Ground.gcOnly Go.Departure.lateStores }], guard := none }) (v := (.int .i64 rk)) rfl (by kernel_rfl) (by kernel_rfl) (by kernel_rfl) (fun _ _ _ h => h) (Or.inl ⟨by rfl, ?_⟩) hH1 ?_
            · intro w hSw
              (try dsimp only at hSw)
              go_simp
            (try simp only [Act.put, List.setIfInBounds_toArray, List.set_cons_zero, List.set_cons_succ])
            refine wpAnyH_take (i := 10) (oi := { dst := some 99, op := Go.Op.extract (Go.Operand.tmp 89) 2, type := 33, pos := "top11.go:74", after := #[{ on := 7, ground := Go.Ground.data }, { on := 13, ground := Go.Ground.gcOnly Go.Departure.lateStores }], guard := none }) (v := (.int .i64 0)) rfl (by kernel_rfl) (by kernel_rfl) (by kernel_rfl) (fun _ _ _ h => h) (Or.inl ⟨by rfl, ?_⟩) hH1 ?_
            · intro w hSw
              (try dsimp only at hSw)
              go_simp
            (try simp only [Act.put, List.setIfInBounds_toArray, List.set_cons_zero, List.set_cons_succ])
            refine wpAnyH_ready (rs := [11]) (by kernel_rfl) (by simp) ?_
            refine AllReadyH.cons rfl (fun K hK => ?_) AllReadyH.nil
            (try dsimp only at hH1)
            go_simp
            refine hK.out _ _ (HQ.out _ ((btrans ((Below.refl _ W8).drew) (Nat.le_refl _) hb6).alloc ((btrans ((Below.refl _ W8).drew) (Nat.le_refl _) hb6).size) (.cells #[.int .i64 0, .int .i64 0, .int .i64 0, .int .i64 0, .int .i64 0, .bool false, .bool false, .bool false, .bool false] 58))) (fun hH2 => ?_)
            clear hK K
            (try simp only [Act.put, List.setIfInBounds_toArray, List.set_cons_zero, List.set_cons_succ])
            refine wpAnyH_ready (rs := [12]) (by kernel_rfl) (by simp) ?_
            refine AllReadyH.cons rfl (fun K hK => ?_) AllReadyH.nil
            (try dsimp only at hH2)
            have hN := heap_alloc_new w6 (.cells #[.int .i64 0, .int .i64 0, .int .i64 0, .int .i64 0, .int .i64 0, .bool false, .bool false, .bool false, .bool false] 58)
            obtain ⟨y0, y1, y2, y3, y4, y5, y6, y7, y8, yf⟩ := cells9 hN
            go_simp
            refine hK.out _ _ (HQ.out _ ((btrans ((Below.refl _ W8).drew) (Nat.le_refl _) hb6).alloc ((btrans ((Below.refl _ W8).drew) (Nat.le_refl _) hb6).size) (.cells #[.int .i64 s0, .int .i64 s1, .int .i64 s2, .int .i64 s3, .int .i64 s4, .bool s5, .bool s6, .bool s7, .bool s8] 58))) (fun hH3 => ?_)
            clear hK K
            (try simp only [Act.put, List.setIfInBounds_toArray, List.set_cons_zero, List.set_cons_succ])
            refine wpAnyH_take (i := 13) (oi := { dst := some 19, op := Go.Op.assign (Go.Operand.tmp 98), type := 3, pos := "top11.go:74", after := #[{ on := 9, ground := Go.Ground.data }, { on := 12, ground := Go.Ground.chain }, { on := 0, ground := Go.Ground.phase }, { on := 1, ground := Go.Ground.phase }, { on := 2, ground := Go.Ground.phase }, { on := 3, ground := Go.Ground.phase }, { on := 4, ground := Go.Ground.phase }, { on := 5, ground := Go.Ground.phase }, { on := 6, ground := Go.Ground.phase }, { on := 7, ground := Go.Ground.phase }, { on := 8, ground := Go.Ground.phase }, { on := 9, ground := Go.Ground.phase }, { on := 10, ground := Go.Ground.textOnly Go.Departure.lateStores }, { on := 11, ground := Go.Ground.phase }, { on := 12, ground := Go.Ground.phase }], guard := none }) (v := (.int .i64 rk)) rfl (by kernel_rfl) (by kernel_rfl) (by kernel_rfl) (fun _ _ _ h => h) (Or.inl ⟨by rfl, ?_⟩) hH3 ?_
            · intro w hSw
              (try dsimp only at hSw)
              go_simp
            (try simp only [Act.put, List.setIfInBounds_toArray, List.set_cons_zero, List.set_cons_succ])
            refine wpAnyH_take (i := 14) (oi := { dst := some 20, op := Go.Op.assign (Go.Operand.tmp 99), type := 33, pos := "top11.go:74", after := #[{ on := 10, ground := Go.Ground.data }, { on := 13, ground := Go.Ground.chain }, { on := 0, ground := Go.Ground.phase }, { on := 1, ground := Go.Ground.phase }, { on := 2, ground := Go.Ground.phase }, { on := 3, ground := Go.Ground.phase }, { on := 4, ground := Go.Ground.phase }, { on := 5, ground := Go.Ground.phase }, { on := 6, ground := Go.Ground.phase }, { on := 7, ground := Go.Ground.phase }, { on := 8, ground := Go.Ground.phase }, { on := 9, ground := Go.Ground.phase }, { on := 10, ground := Go.Ground.phase }, { on := 11, ground := Go.Ground.phase }, { on := 12, ground := Go.Ground.phase }, { on := 13, ground := Go.Ground.phase }], guard := none }) (v := (.int .i64 0)) rfl (by kernel_rfl) (by kernel_rfl) (by kernel_rfl) (fun _ _ _ h => h) (Or.inl ⟨by rfl, ?_⟩) hH3 ?_
            · intro w hSw
              (try dsimp only at hSw)
              go_simp
            (try simp only [Act.put, List.setIfInBounds_toArray, List.set_cons_zero, List.set_cons_succ])
            refine wpAnyH_done (by kernel_rfl) ?_ _
            go_wp2_with fail
            go_meet
            exact ⟨w6.heap.size, rfl, rfl, rfl, heap_alloc_new w6 (.cells #[.int .i64 s0, .int .i64 s1, .int .i64 s2, .int .i64 s3, .int .i64 s4, .bool s5, .bool s6, .bool s7, .bool s8] 58), (btrans ((Below.refl _ W8).drew) (Nat.le_refl _) hb6).size, (btrans ((Below.refl _ W8).drew) (Nat.le_refl _) hb6).alloc ((btrans ((Below.refl _ W8).drew) (Nat.le_refl _) hb6).size) (.cells #[.int .i64 s0, .int .i64 s1, .int .i64 s2, .int .i64 s3, .int .i64 s4, .bool s5, .bool s6, .bool s7, .bool s8] 58)⟩
          · skip
            (try dsimp only at hH)
            go_simp
            refine hK.out _ _ (HQ.out _ ((Below.refl _ W8).drew.alloc (Nat.le_refl _) (.cells #[.int .i64 0, .int .i64 0, .int .i64 0, .int .i64 0, .int .i64 0, .bool false, .bool false, .bool false, .bool false] 58))) (fun hH4 => ?_)
            clear hK K
            (try simp only [Act.put, List.setIfInBounds_toArray, List.set_cons_zero, List.set_cons_succ])
            refine wpAnyH_ready (rs := [6]) (by kernel_rfl) (by simp) ?_
            refine AllReadyH.cons rfl (fun K hK => ?_) AllReadyH.nil
            (try dsimp only at hH4)
            go_simp
            refine (HRX.out _ ((Below.refl _ W8).drew.alloc (Nat.le_refl _) (.cells #[.int .i64 0, .int .i64 0, .int .i64 0, .int .i64 0, .int .i64 0, .bool false, .bool false, .bool false, .bool false] 58))).mono ?_
            rintro e w6 ⟨rfl, hb6⟩
            refine hK.out _ _ (HQ.out _ (btrans ((Below.refl _ W8).drew.alloc (Nat.le_refl _) (.cells #[.int .i64 0, .int .i64 0, .int .i64 0, .int .i64 0, .int .i64 0, .bool false, .bool false, .bool false, .bool false] 58)) (Nat.le_refl _) hb6)) (fun hH5 => ?_)
            clear hK K
            (try simp only [Act.put, List.setIfInBounds_toArray, List.set_cons_zero, List.set_cons_succ])
            refine wpAnyH_take (i := 7) (oi := { dst := some 89, op := Go.Op.move (Go.Operand.tmp 96), type := 59, pos := "top11.go:74", after := #[{ on := 6, ground := Go.Ground.data }], guard := none }) (v := (.tuple #[.agg #[.int .i64 s0, .int .i64 s1, .int .i64 s2, .int .i64 s3, .int .i64 s4, .bool s5, .bool s6, .bool s7, .bool s8], .int .i64 rk, .int .i64 0])) rfl (by kernel_rfl) (by kernel_rfl) (by kernel_rfl) (fun _ _ _ h => h) (Or.inl ⟨by rfl, ?_⟩) hH5 ?_
            · intro w hSw
              (try dsimp only at hSw)
              go_simp
            (try simp only [Act.put, List.setIfInBounds_toArray, List.set_cons_zero, List.set_cons_succ])
            refine wpAnyH_take (i := 8) (oi := { dst := some 97, op := Go.Op.extract (Go.Operand.tmp 89) 0, type := 58, pos := "top11.go:74", after := #[{ on := 7, ground := Go.Ground.data }], guard := none }) (v := (.agg #[.int .i64 s0, .int .i64 s1, .int .i64 s2, .int .i64 s3, .int .i64 s4, .bool s5, .bool s6, .bool s7, .bool s8])) rfl (by kernel_rfl) (by kernel_rfl) (by kernel_rfl) (fun _ _ _ h => h) (Or.inl ⟨by rfl, ?_⟩) hH5 ?_
            · intro w hSw
              (try dsimp only at hSw)
              go_simp
            (try simp only [Act.put, List.setIfInBounds_toArray, List.set_cons_zero, List.set_cons_succ])
            refine wpAnyH_take (i := 9) (oi := { dst := some 98, op := Go.Op.extract (Go.Operand.tmp 89) 1, type := 3, pos := "top11.go:74", after := #[{ on := 7, ground := Go.Ground.data }, { on := 12, ground := Go.Ground.gcOnly Go.Departure.lateStores }], guard := none }) (v := (.int .i64 rk)) rfl (by kernel_rfl) (by kernel_rfl) (by kernel_rfl) (fun _ _ _ h => h) (Or.inl ⟨by rfl, ?_⟩) hH5 ?_
            · intro w hSw
              (try dsimp only at hSw)
              go_simp
            (try simp only [Act.put, List.setIfInBounds_toArray, List.set_cons_zero, List.set_cons_succ])
            refine wpAnyH_take (i := 10) (oi := { dst := some 99, op := Go.Op.extract (Go.Operand.tmp 89) 2, type := 33, pos := "top11.go:74", after := #[{ on := 7, ground := Go.Ground.data }, { on := 13, ground := Go.Ground.gcOnly Go.Departure.lateStores }], guard := none }) (v := (.int .i64 0)) rfl (by kernel_rfl) (by kernel_rfl) (by kernel_rfl) (fun _ _ _ h => h) (Or.inl ⟨by rfl, ?_⟩) hH5 ?_
            · intro w hSw
              (try dsimp only at hSw)
              go_simp
            (try simp only [Act.put, List.setIfInBounds_toArray, List.set_cons_zero, List.set_cons_succ])
            refine wpAnyH_ready (rs := [12]) (by kernel_rfl) (by simp) ?_
            refine AllReadyH.cons rfl (fun K hK => ?_) AllReadyH.nil
            (try dsimp only at hH5)
            have hN : w6.heap[W8.heap.size]? = some (.cells #[.int .i64 0, .int .i64 0, .int .i64 0, .int .i64 0, .int .i64 0, .bool false, .bool false, .bool false, .bool false] 58 (0, 0)) := (hb6.block W8.heap.size (by simp)).trans (heap_alloc_new W8.drew (.cells #[.int .i64 0, .int .i64 0, .int .i64 0, .int .i64 0, .int .i64 0, .bool false, .bool false, .bool false, .bool false] 58))
            obtain ⟨y0, y1, y2, y3, y4, y5, y6, y7, y8, yf⟩ := cells9 hN
            go_simp
            refine hK.out _ _ (HQS.out _ _ _ _ _ _ _ _ _ _ _ (Nat.le_refl _) (HQ.out _ (btrans ((Below.refl _ W8).drew.alloc (Nat.le_refl _) (.cells #[.int .i64 0, .int .i64 0, .int .i64 0, .int .i64 0, .int .i64 0, .bool false, .bool false, .bool false, .bool false] 58)) (Nat.le_refl _) hb6))) (fun hH6 => ?_)
            clear hK K
            (try simp only [Act.put, List.setIfInBounds_toArray, List.set_cons_zero, List.set_cons_succ])
            refine wpAnyH_take (i := 13) (oi := { dst := some 19, op := Go.Op.assign (Go.Operand.tmp 98), type := 3, pos := "top11.go:74", after := #[{ on := 9, ground := Go.Ground.data }, { on := 12, ground := Go.Ground.chain }, { on := 0, ground := Go.Ground.phase }, { on := 1, ground := Go.Ground.phase }, { on := 2, ground := Go.Ground.phase }, { on := 3, ground := Go.Ground.phase }, { on := 4, ground := Go.Ground.phase }, { on := 5, ground := Go.Ground.phase }, { on := 6, ground := Go.Ground.phase }, { on := 7, ground := Go.Ground.phase }, { on := 8, ground := Go.Ground.phase }, { on := 9, ground := Go.Ground.phase }, { on := 10, ground := Go.Ground.textOnly Go.Departure.lateStores }, { on := 11, ground := Go.Ground.phase }, { on := 12, ground := Go.Ground.phase }], guard := none }) (v := (.int .i64 rk)) rfl (by kernel_rfl) (by kernel_rfl) (by kernel_rfl) (fun _ _ _ h => h) (Or.inl ⟨by rfl, ?_⟩) hH6 ?_
            · intro w hSw
              (try dsimp only at hSw)
              go_simp
            (try simp only [Act.put, List.setIfInBounds_toArray, List.set_cons_zero, List.set_cons_succ])
            refine wpAnyH_take (i := 14) (oi := { dst := some 20, op := Go.Op.assign (Go.Operand.tmp 99), type := 33, pos := "top11.go:74", after := #[{ on := 10, ground := Go.Ground.data }, { on := 13, ground := Go.Ground.chain }, { on := 0, ground := Go.Ground.phase }, { on := 1, ground := Go.Ground.phase }, { on := 2, ground := Go.Ground.phase }, { on := 3, ground := Go.Ground.phase }, { on := 4, ground := Go.Ground.phase }, { on := 5, ground := Go.Ground.phase }, { on := 6, ground := Go.Ground.phase }, { on := 7, ground := Go.Ground.phase }, { on := 8, ground := Go.Ground.phase }, { on := 9, ground := Go.Ground.phase }, { on := 10, ground := Go.Ground.phase }, { on := 11, ground := Go.Ground.phase }, { on := 12, ground := Go.Ground.phase }, { on := 13, ground := Go.Ground.phase }], guard := none }) (v := (.int .i64 0)) rfl (by kernel_rfl) (by kernel_rfl) (by kernel_rfl) (fun _ _ _ h => h) (Or.inl ⟨by rfl, ?_⟩) hH6 ?_
            · intro w hSw
              (try dsimp only at hSw)
              go_simp
            (try simp only [Act.put, List.setIfInBounds_toArray, List.set_cons_zero, List.set_cons_succ])
            refine wpAnyH_done (by kernel_rfl) ?_ _
            go_wp2_with fail
            go_meet
            exact ⟨_, rfl, rfl, rfl, put9_same (.int .i64 s0) (.int .i64 s1) (.int .i64 s2) (.int .i64 s3) (.int .i64 s4) (.bool s5) (.bool s6) (.bool s7) (.bool s8) hN, Nat.le_refl _, put9_below (.int .i64 s0) (.int .i64 s1) (.int .i64 s2) (.int .i64 s3) (.int .i64 s4) (.bool s5) (.bool s6) (.bool s7) (.bool s8) (btrans ((Below.refl _ W8).drew.alloc (Nat.le_refl _) (.cells #[.int .i64 0, .int .i64 0, .int .i64 0, .int .i64 0, .int .i64 0, .bool false, .bool false, .bool false, .bool false] 58)) (Nat.le_refl _) hb6) (Nat.le_refl _)⟩
        case rest =>
          obtain ⟨P2, rfl, rfl, rfl, hP2, hPs2, hbx2⟩ := hcut
          obtain ⟨wy, rfl⟩ := nameW hbx2
          have HP2 := hid hP2
          have HB9 := hid (HB8.out.trans (hbx2.mono HB8.out.size))
          have hT8l : w3.heap.size < W8.heap.size := (Array.getElem?_eq_some_iff.1 HTW8.out).1
          have hT9 := (hbx2.block w3.heap.size hT8l).trans HTW8.out
          have HT9 := hid hT9
          have hT9l : w3.heap.size < wy.heap.size := (Array.getElem?_eq_some_iff.1 hT9).1
          have HBW9 := hid (HBW3.out.trans (HB9.out.mono HBW3.out.size))
          have t0 : wy.cell? ⟨w3.heap.size, 0, none⟩ = some (.int .i64 (eo - 1)) := by simp [World.cell?, hT9]
          have t1 : wy.cell? ⟨w3.heap.size, 1, none⟩ = some (.int .i64 (s0 - s1)) := by simp [World.cell?, hT9]
          have t2 : wy.cell? ⟨w3.heap.size, 2, none⟩ = some (.int .i64 hq) := by simp [World.cell?, hT9]
          obtain ⟨y0, y1, y2, y3, y4, y5, y6, y7, y8, -⟩ := cells9 (show wy.heap[P2]? = some (.cells #[.int .i64 s0, .int .i64 s1, .int .i64 s2, .int .i64 s3, .int .i64 s4, .bool s5, .bool s6, .bool s7, .bool s8] 58 (0, 0)) from HP2.out)
          clear hbx2 hT9 hP2 hPs2
          have HNEXT := hid (show ∀ hq', hq' = hq → AtInv ⟨me, mm, mr, false, mp⟩ first card (n + 1) (s0 - s1) hq' from fun hq' e => by
            refine ⟨by rw [← HS1.out], fun h => ?_⟩
            rw [← HS1.out] at h ⊢
            rw [e]
            exact (K6.out h).symm)
          have heo1 : (Value.int .i64 (eo - 1)) = .int .i64 (me - ((n + 1 : Nat) : Int)) := by congr 1; have := HEO.out; omega
          have HE1 := hid heo1
          clear heo1
          cases s5 with
          | false =>
            have k8 := K8.out
            have k6 : s3 = hq := K6.out rfl
            subst k6
            by_cases hz0 : eo - 1 = 0
            · have hl0 : s0 - s1 = 0 := by
                rw [decide_eq_true hz0] at k8
                simpa using k8
              clear k8
              go_wp2_with fail
              exact ⟨⟨n + 1, hlt, by go_num, HB9.out, s0 - s1, s3, by rw [HT9.out, HE1.out], HNEXT.out _ rfl⟩, by simp only [intOf]; omega⟩
            · clear k8
              go_wp2_with fail
              exact ⟨⟨n + 1, hlt, by go_num, HB9.out, s0 - s1, s3, by rw [HT9.out, HE1.out], HNEXT.out _ rfl⟩, by simp only [intOf]; omega⟩
          | true =>
            have k8 := K8.out
            have hz0 : eo - 1 = 0 := by
              by_cases h : eo - 1 = 0
              · exact h
              · rw [decide_eq_false h] at k8; simp at k8
            have hl0 : ¬ s0 - s1 = 0 := by
              intro h
              simp [h] at k8
            clear k8
            have t0' : wy.cell? ⟨w3.heap.size, 0, none⟩ = some (.int .i64 0) := by rw [t0, hz0]
            have HZ0 := hid hz0
            have HL0 := hid hl0
            have hP2l : P2 < wy.heap.size := (Array.getElem?_eq_some_iff.1 HP2.out).1
            have hP2n : P2 ≠ wy.heap.size := by omega
            have hbn : (s0 - s1 != 0) = true := by simp [hl0]
            clear t0
            have t0 := t0'
            clear t0' hz0
            have hwin := K9.out rfl
            by_cases hw : s4 = 0
            · subst hw
              have hps : 0 < s0 - s1 := hwin.1 rfl
              have hsv : sureV (decide (0 < s0 - s1)) = .agg #[.int .i64 65536, .int .i64 65536] := by rw [decide_eq_true hps]; rfl
              clear hwin hps
              go_upto_region 28 with fail
              obtain ⟨W9, hW9⟩ : ∃ W, wy.alloc (.cells #[.int .i64 65536, .int .i64 65536] 64) = W := ⟨_, rfl⟩
              have hn9 : W9.heap[wy.heap.size]? = some (.cells #[.int .i64 65536, .int .i64 65536] 64 (0, 0)) := by rw [← hW9]; exact heap_alloc_new wy _
              have hb9 : Below wy.heap.size wy W9 := by rw [← hW9]; exact (Below.refl _ _).alloc (Nat.le_refl _) _
              have hz9 : wy.heap.size < W9.heap.size := by rw [← hW9]; simp
              rw [hW9]
              have HB10 := hid (HB9.out.trans (hb9.mono HB9.out.size))
              have hT10 := (hb9.block w3.heap.size hT9l).trans HT9.out
              have HT10 := hid hT10
              have hT10l : w3.heap.size < W9.heap.size := by omega
              have HN9 := hid hn9
              clear t0 t2 t1 y0 y1 y2 y3 y4 y5 y6 y7 y8 hW9 hn9 hb9
              have t0 : W9.cell? ⟨w3.heap.size, 0, none⟩ = some (.int .i64 0) := by simp [World.cell?, hT10, HZ0.out]
              have t1 : W9.cell? ⟨w3.heap.size, 1, none⟩ = some (.int .i64 (s0 - s1)) := by simp [World.cell?, hT10]
              have t2 : W9.cell? ⟨w3.heap.size, 2, none⟩ = some (.int .i64 hq) := by simp [World.cell?, hT10]
              clear hT10
              obtain ⟨-, q5, q6, q7⟩ := HCE.out W9 (HB3.out.trans (HB10.out.mono HB3.out.size))
              have HV := hid (HVA.out (s0 - s1) hq K5.out HL0.out K7.out W9 (HBW3.out.trans (HB10.out.mono HBW3.out.size)))
              rw [hsv] at HV
              clear hsv
              go_wp2_with fail
              refine HV.out.mono ?_
              rintro e w10 ⟨ho, hb10⟩
              have HB11 := hid (HB10.out.trans (hb10.mono HB10.out.size))
              have hn10 := (hb10.block wy.heap.size hz9).trans HN9.out
              have hT11 := (hb10.block w3.heap.size hT10l).trans HT10.out
              have v0 : w10.cell? ⟨wy.heap.size, 0, none⟩ = some (.int .i64 65536) := by simp [World.cell?, hn10]
              have v1 : w10.cell? ⟨wy.heap.size, 1, none⟩ = some (.int .i64 65536) := by simp [World.cell?, hn10]
              have HT11 := hid hT11
              have hlt10 : wy.heap.size < w10.heap.size := (Array.getElem?_eq_some_iff.1 hn10).1
              have hne10 : wy.heap.size ≠ w10.heap.size := by omega
              have hT11l : w3.heap.size < w10.heap.size := (Array.getElem?_eq_some_iff.1 hT11).1
              clear hb10 hn10 hT11 t0 t1 t2 q5 q6 q7 HV
              rcases ho with rfl | rfl
              · go_wp2_with fail
                exact ⟨⟨n + 1, hlt, by go_num, HB11.out.alloc HB11.out.size _, s0 - s1, hq, by rw [Below.heap_alloc _ _ _ hT11l, HT11.out, HE1.out], HNEXT.out _ rfl⟩, by simp only [intOf]; omega⟩
              · go_wp2_with fail
                exact ⟨⟨n + 1, hlt, by go_num, HB11.out.alloc HB11.out.size _, s0 - s1, hq, by rw [Below.heap_alloc _ _ _ hT11l, HT11.out, HE1.out], HNEXT.out _ rfl⟩, by simp only [intOf]; omega⟩
            · have hps : ¬ 0 < s0 - s1 := fun h => hw (hwin.2 h)
              have hsv : sureV (decide (0 < s0 - s1)) = .agg #[.int .i64 0, .int .i64 0] := by rw [decide_eq_false hps]; rfl
              clear hwin hps
              go_upto_region 28 with fail
              obtain ⟨W9, hW9⟩ : ∃ W, wy.alloc (.cells #[.int .i64 0, .int .i64 0] 64) = W := ⟨_, rfl⟩
              have hn9 : W9.heap[wy.heap.size]? = some (.cells #[.int .i64 0, .int .i64 0] 64 (0, 0)) := by rw [← hW9]; exact heap_alloc_new wy _
              have hb9 : Below wy.heap.size wy W9 := by rw [← hW9]; exact (Below.refl _ _).alloc (Nat.le_refl _) _
              have hz9 : wy.heap.size < W9.heap.size := by rw [← hW9]; simp
              rw [hW9]
              have HB10 := hid (HB9.out.trans (hb9.mono HB9.out.size))
              have hT10 := (hb9.block w3.heap.size hT9l).trans HT9.out
              have HT10 := hid hT10
              have hT10l : w3.heap.size < W9.heap.size := by omega
              have HN9 := hid hn9
              clear t0 t2 t1 y0 y1 y2 y3 y4 y5 y6 y7 y8 hW9 hn9 hb9
              have t0 : W9.cell? ⟨w3.heap.size, 0, none⟩ = some (.int .i64 0) := by simp [World.cell?, hT10, HZ0.out]
              have t1 : W9.cell? ⟨w3.heap.size, 1, none⟩ = some (.int .i64 (s0 - s1)) := by simp [World.cell?, hT10]
              have t2 : W9.cell? ⟨w3.heap.size, 2, none⟩ = some (.int .i64 hq) := by simp [World.cell?, hT10]
              clear hT10
              obtain ⟨-, q5, q6, q7⟩ := HCE.out W9 (HB3.out.trans (HB10.out.mono HB3.out.size))
              have HV := hid (HVA.out (s0 - s1) hq K5.out HL0.out K7.out W9 (HBW3.out.trans (HB10.out.mono HBW3.out.size)))
              rw [hsv] at HV
              clear hsv
              go_wp2_with fail
              refine HV.out.mono ?_
              rintro e w10 ⟨ho, hb10⟩
              have HB11 := hid (HB10.out.trans (hb10.mono HB10.out.size))
              have hn10 := (hb10.block wy.heap.size hz9).trans HN9.out
              have hT11 := (hb10.block w3.heap.size hT10l).trans HT10.out
              have v0 : w10.cell? ⟨wy.heap.size, 0, none⟩ = some (.int .i64 0) := by simp [World.cell?, hn10]
              have v1 : w10.cell? ⟨wy.heap.size, 1, none⟩ = some (.int .i64 0) := by simp [World.cell?, hn10]
              have HT11 := hid hT11
              have hlt10 : wy.heap.size < w10.heap.size := (Array.getElem?_eq_some_iff.1 hn10).1
              have hne10 : wy.heap.size ≠ w10.heap.size := by omega
              have hT11l : w3.heap.size < w10.heap.size := (Array.getElem?_eq_some_iff.1 hT11).1
              clear hb10 hn10 hT11 t0 t1 t2 q5 q6 q7 HV
              rcases ho with rfl | rfl
              · go_wp2_with fail
                exact ⟨⟨n + 1, hlt, by go_num, HB11.out.alloc HB11.out.size _, s0 - s1, hq, by rw [Below.heap_alloc _ _ _ hT11l, HT11.out, HE1.out], HNEXT.out _ rfl⟩, by simp only [intOf]; omega⟩
              · go_wp2_with fail
                exact ⟨⟨n + 1, hlt, by go_num, HB11.out.alloc HB11.out.size _, s0 - s1, hq, by rw [Below.heap_alloc _ _ _ hT11l, HT11.out, HE1.out], HNEXT.out _ rfl⟩, by simp only [intOf]; omega⟩
      case neg =>
        rw [if_neg hxt] at hpc
        subst hpc
        go_wp2_with fail
        refine (HNXC.out _).mono ?_
        rintro e w7 ⟨rfl, hb7⟩
        have HX7 := hid (HX.out.trans (hb7.mono HX.out.size))
        have hT7 := (hb7.block w3.heap.size hTxl).trans HTX.out
        have HB37 := hid (HB3X.out.trans (hb7.mono HB3X.out.size))
        have hT7l : w3.heap.size < w7.heap.size := (Array.getElem?_eq_some_iff.1 hT7).1
        have hTne : w3.heap.size ≠ w7.heap.size := by omega
        have hTne2 : w7.heap.size ≠ w3.heap.size := by omega
        have g0 : w7.cell? ⟨w3.heap.size, 0, none⟩ = some (.int .i64 eo) := by simp [World.cell?, hT7]
        have g1 : w7.cell? ⟨w3.heap.size, 1, none⟩ = some (.int .i64 lead) := by simp [World.cell?, hT7]
        have g2 : w7.cell? ⟨w3.heap.size, 2, none⟩ = some (.int .i64 hm) := by simp [World.cell?, hT7]
        have f0 : w7.frozen? ⟨w3.heap.size, 0, none⟩ = false := by simp [World.frozen?, hT7]
        have f1 : w7.frozen? ⟨w3.heap.size, 1, none⟩ = false := by simp [World.frozen?, hT7]
        have f2 : w7.frozen? ⟨w3.heap.size, 2, none⟩ = false := by simp [World.frozen?, hT7]
        have HT7 := hid hT7
        clear hb7 hT7 t0 t1 t2 m0 m1 m2 m3 m4 l0' l1'
        go_upto_region 19 with fail
        obtain ⟨W8, hW8⟩ : ∃ W, (((w7.setCell ⟨w3.heap.size, 0, none⟩ (.int .i64 (eo - 1))).setCell ⟨w3.heap.size, 1, none⟩ (.int .i64 (s0 - s1))).setCell ⟨w3.heap.size, 2, none⟩ (.int .i64 hq)).alloc (.cells #[.int .i64 (eo - 1), .int .i64 (s0 - s1), .int .i64 hq] 52) = W := ⟨_, rfl⟩
        have HTW8 := hid (show W8.heap[w3.heap.size]? = some (.cells #[.int .i64 (eo - 1), .int .i64 (s0 - s1), .int .i64 hq] 52 (0, 0)) by
          rw [← hW8, Below.heap_alloc _ _ _ (by simp; exact hT7l)]
          exact put3_same (.int .i64 (eo - 1)) (.int .i64 (s0 - s1)) (.int .i64 hq) HT7.out)
        have hb8 : Below w3.heap.size w3 W8 := by
          rw [← hW8]
          exact (((HB37.out.setCell (p := ⟨w3.heap.size, 0, none⟩) (Nat.le_refl _) _).setCell (p := ⟨w3.heap.size, 1, none⟩) (Nat.le_refl _) _).setCell (p := ⟨w3.heap.size, 2, none⟩) (Nat.le_refl _) _).alloc (by have := HB37.out.size; simp; exact this) _
        rw [hW8]
        have HB8 := hid hb8
        clear hW8 hb8 g0 g1 g2 f0 f1 f2 HRX HQ HQS
        have HRX := hid (show ∀ W, Below W8.heap.size W8 W → Calls Tryz.prog 13 #[.agg #[.int .i64 me, .int .i64 mm, .int .i64 mr, .bool false, .bool mp], .int .i64 first, .slice (some ⟨bc, oc, none⟩) (n + 1) cap, .int .i64 (-1)] W fun e w' => e = .returned (.tuple #[.agg #[.int .i64 s0, .int .i64 s1, .int .i64 s2, .int .i64 s3, .int .i64 s4, .bool s5, .bool s6, .bool s7, .bool s8], .int .i64 rk, .int .i64 0]) ∧ Below W.heap.size W w' from fun W hb => HRP3.out W (HBW3.out.trans ((HB8.out.trans (Below.mono hb HB8.out.size)).mono HBW3.out.size)))
        have HQ := hid (fun U (hb : Below W8.heap.size W8 U) => (HCE.out U (HB3.out.trans ((HB8.out.trans (Below.mono hb HB8.out.size)).mono HB3.out.size))).1)
        have HQS := hid (show ∀ (U : World) (P : Nat) (u0 u1 u2 u3 u4 u5 u6 u7 u8 : Value), W8.heap.size ≤ P → (U.cell? ⟨w.heap.size, 0, none⟩ = some (.int .i64 me) ∧ U.cell? ⟨w.heap.size, 1, none⟩ = some (.int .i64 mm) ∧ U.cell? ⟨w.heap.size, 2, none⟩ = some (.int .i64 mr) ∧ U.cell? ⟨w.heap.size, 3, none⟩ = some (.bool false) ∧ U.cell? ⟨w.heap.size, 4, none⟩ = some (.bool mp)) → ((((((((((U.setCell ⟨P, 0, none⟩ u0).setCell ⟨P, 1, none⟩ u1).setCell ⟨P, 2, none⟩ u2).setCell ⟨P, 3, none⟩ u3).setCell ⟨P, 4, none⟩ u4).setCell ⟨P, 5, none⟩ u5).setCell ⟨P, 6, none⟩ u6).setCell ⟨P, 7, none⟩ u7).setCell ⟨P, 8, none⟩ u8).cell? ⟨w.heap.size, 0, none⟩ = some (.int .i64 me) ∧ (((((((((U.setCell ⟨P, 0, none⟩ u0).setCell ⟨P, 1, none⟩ u1).setCell ⟨P, 2, none⟩ u2).setCell ⟨P, 3, none⟩ u3).setCell ⟨P, 4, none⟩ u4).setCell ⟨P, 5, none⟩ u5).setCell ⟨P, 6, none⟩ u6).setCell ⟨P, 7, none⟩ u7).setCell ⟨P, 8, none⟩ u8).cell? ⟨w.heap.size, 1, none⟩ = some (.int .i64 mm) ∧ (((((((((U.setCell ⟨P, 0, none⟩ u0).setCell ⟨P, 1, none⟩ u1).setCell ⟨P, 2, none⟩ u2).setCell ⟨P, 3, none⟩ u3).setCell ⟨P, 4, none⟩ u4).setCell ⟨P, 5, none⟩ u5).setCell ⟨P, 6, none⟩ u6).setCell ⟨P, 7, none⟩ u7).setCell ⟨P, 8, none⟩ u8).cell? ⟨w.heap.size, 2, none⟩ = some (.int .i64 mr) ∧ (((((((((U.setCell ⟨P, 0, none⟩ u0).setCell ⟨P, 1, none⟩ u1).setCell ⟨P, 2, none⟩ u2).setCell ⟨P, 3, none⟩ u3).setCell ⟨P, 4, none⟩ u4).setCell ⟨P, 5, none⟩ u5).setCell ⟨P, 6, none⟩ u6).setCell ⟨P, 7, none⟩ u7).setCell ⟨P, 8, none⟩ u8).cell? ⟨w.heap.size, 3, none⟩ = some (.bool false) ∧ (((((((((U.setCell ⟨P, 0, none⟩ u0).setCell ⟨P, 1, none⟩ u1).setCell ⟨P, 2, none⟩ u2).setCell ⟨P, 3, none⟩ u3).setCell ⟨P, 4, none⟩ u4).setCell ⟨P, 5, none⟩ u5).setCell ⟨P, 6, none⟩ u6).setCell ⟨P, 7, none⟩ u7).setCell ⟨P, 8, none⟩ u8).cell? ⟨w.heap.size, 4, none⟩ = some (.bool mp)) from fun U P u0 u1 u2 u3 u4 u5 u6 u7 u8 hP ⟨g0, g1, g2, g3, g4⟩ => by
          have hne : P ≠ w.heap.size := by have := HB8.out.size; have := HB3.out.size; omega
          have hk : ∀ i, ((((((((((U.setCell ⟨P, 0, none⟩ u0).setCell ⟨P, 1, none⟩ u1).setCell ⟨P, 2, none⟩ u2).setCell ⟨P, 3, none⟩ u3).setCell ⟨P, 4, none⟩ u4).setCell ⟨P, 5, none⟩ u5).setCell ⟨P, 6, none⟩ u6).setCell ⟨P, 7, none⟩ u7).setCell ⟨P, 8, none⟩ u8)).cell? ⟨w.heap.size, i, none⟩ = U.cell? ⟨w.heap.size, i, none⟩ := fun i => World.cell?_of_block (a := ⟨w.heap.size, i, none⟩) (put9_other u0 u1 u2 u3 u4 u5 u6 u7 u8 hne)
          exact ⟨(hk 0).trans g0, (hk 1).trans g1, (hk 2).trans g2, (hk 3).trans g3, (hk 4).trans g4⟩)
        go_cut [18, 19, 20] (fun x y z wx => ∃ P, x = .pointer (some ⟨P, 0, none⟩) ∧ y = .int .i64 rk ∧ z = .int .i64 0 ∧ wx.heap[P]? = some (.cells (StD.mk s0 s1 s2 s3 s4 s5 s6 s7 s8).arr 58 (0, 0)) ∧ W8.heap.size ≤ P ∧ Below W8.heap.size W8 wx)
        case first =>
          refine wp_region_held_drew (S := (fun U => U.cell? ⟨w.heap.size, 0, none⟩ = some (.int .i64 me) ∧ U.cell? ⟨w.heap.size, 1, none⟩ = some (.int .i64 mm) ∧ U.cell? ⟨w.heap.size, 2, none⟩ = some (.int .i64 mr) ∧ U.cell? ⟨w.heap.size, 3, none⟩ = some (.bool false) ∧ U.cell? ⟨w.heap.size, 4, none⟩ = some (.bool mp))) (by kernel_rfl) (HQ.out _ ((Below.refl _ W8).drew)) (fun hH => ?_)
          refine wpAnyH_take (i := 0) (oi := { dst := some 90, op := Go.Op.load 44 (Go.Operand.tmp 4), type := 44, pos := "top11.go:74", after := #[], guard := none }) (v := (.agg #[.int .i64 me, .int .i64 mm, .int .i64 mr, .bool false, .bool mp])) rfl (by kernel_rfl) (by kernel_rfl) (by kernel_rfl) (fun _ _ _ h => h) (Or.inl ⟨by rfl, ?_⟩) hH ?_
          · intro w hSw
            (try dsimp only at hSw)
            go_simp
          (try simp only [Act.put, List.setIfInBounds_toArray, List.set_cons_zero, List.set_cons_succ])
          refine wpAnyH_take (i := 1) (oi := { dst := some 91, op := Go.Op.move (Go.Operand.tmp 1), type := 3, pos := "top11.go:74", after := #[], guard := none }) (v := (.int .i64 first)) rfl (by kernel_rfl) (by kernel_rfl) (by kernel_rfl) (fun _ _ _ h => h) (Or.inl ⟨by rfl, ?_⟩) hH ?_
          · intro w hSw
            (try dsimp only at hSw)
            go_simp
          (try simp only [Act.put, List.setIfInBounds_toArray, List.set_cons_zero, List.set_cons_succ])
          refine wpAnyH_take (i := 2) (oi := { dst := some 92, op := Go.Op.move (Go.Operand.tmp 2), type := 45, pos := "top11.go:74", after := #[], guard := none }) (v := (.slice (some ⟨bc, oc, none⟩) card.length cap)) rfl (by kernel_rfl) (by kernel_rfl) (by kernel_rfl) (fun _ _ _ h => h) (Or.inl ⟨by rfl, ?_⟩) hH ?_
          · intro w hSw
            (try dsimp only at hSw)
            go_simp
          (try simp only [Act.put, List.setIfInBounds_toArray, List.set_cons_zero, List.set_cons_succ])
          refine wpAnyH_take (i := 3) (oi := { dst := some 93, op := Go.Op.move (Go.Operand.tmp 10), type := 3, pos := "top11.go:74", after := #[], guard := none }) (v := (.int .i64 n)) rfl (by kernel_rfl) (by kernel_rfl) (by kernel_rfl) (fun _ _ _ h => h) (Or.inl ⟨by rfl, ?_⟩) hH ?_
          · intro w hSw
            (try dsimp only at hSw)
            go_simp
          (try simp only [Act.put, List.setIfInBounds_toArray, List.set_cons_zero, List.set_cons_succ])
          refine wpAnyH_take (i := 4) (oi := { dst := some 94, op := Go.Op.binOp Go.BinOp.add 3 (Go.Operand.tmp 93) (Go.Operand.const (Go.Value.int Go.IntKind.i64 1)) 3, type := 3, pos := "top11.go:74", after := #[{ on := 3, ground := Go.Ground.data }], guard := none }) (v := (.int .i64 ((n : Int) + 1))) rfl (by kernel_rfl) (by kernel_rfl) (by kernel_rfl) (fun _ _ _ h => h) (Or.inl ⟨by rfl, ?_⟩) hH ?_
          · intro w hSw
            (try dsimp only at hSw)
            go_simp
          (try simp only [Act.put, List.setIfInBounds_toArray, List.set_cons_zero, List.set_cons_succ])
          refine wpAnyH_take (i := 5) (oi := { dst := some 95, op := Go.Op.slice 45 (Go.Operand.tmp 92) none (some (Go.Operand.tmp 94)) none, type := 45, pos := "top11.go:74", after := #[{ on := 2, ground := Go.Ground.data }, { on := 4, ground := Go.Ground.data }], guard := none }) (v := (.slice (some ⟨bc, oc, none⟩) (n + 1) cap)) rfl (by kernel_rfl) (by kernel_rfl) (by kernel_rfl) (fun _ _ _ h => h) (Or.inl ⟨by rfl, ?_⟩) hH ?_
          · intro w hSw
            (try dsimp only at hSw)
            go_simp
          (try simp only [Act.put, List.setIfInBounds_toArray, List.set_cons_zero, List.set_cons_succ])
          refine wpAnyH_ready (rs := [6, 11]) (by kernel_rfl) (by simp) ?_
          refine AllReadyH.cons rfl (fun K hK => ?_) (AllReadyH.cons rfl (fun K hK => ?_) AllReadyH.nil)
          · skip
            (try dsimp only at hH)
            go_simp
            refine (HRX.out _ ((Below.refl _ W8).drew)).mono ?_
            rintro e w6 ⟨rfl, hb6⟩
            refine hK.out _ _ (HQ.out _ (btrans ((Below.refl _ W8).drew) (Nat.le_refl _) hb6)) (fun hH1 => ?_)
            clear hK K
            (try simp only [Act.put, List.setIfInBounds_toArray, List.set_cons_zero, List.set_cons_succ])
            refine wpAnyH_take (i := 7) (oi := { dst := some 89, op := Go.Op.move (Go.Operand.tmp 96), type := 59, pos := "top11.go:74", after := #[{ on := 6, ground := Go.Ground.data }], guard := none }) (v := (.tuple #[.agg #[.int .i64 s0, .int .i64 s1, .int .i64 s2, .int .i64 s3, .int .i64 s4, .bool s5, .bool s6, .bool s7, .bool s8], .int .i64 rk, .int .i64 0])) rfl (by kernel_rfl) (by kernel_rfl) (by kernel_rfl) (fun _ _ _ h => h) (Or.inl ⟨by rfl, ?_⟩) hH1 ?_
            · intro w hSw
              (try dsimp only at hSw)
              go_simp
            (try simp only [Act.put, List.setIfInBounds_toArray, List.set_cons_zero, List.set_cons_succ])
            refine wpAnyH_take (i := 8) (oi := { dst := some 97, op := Go.Op.extract (Go.Operand.tmp 89) 0, type := 58, pos := "top11.go:74", after := #[{ on := 7, ground := Go.Ground.data }], guard := none }) (v := (.agg #[.int .i64 s0, .int .i64 s1, .int .i64 s2, .int .i64 s3, .int .i64 s4, .bool s5, .bool s6, .bool s7, .bool s8])) rfl (by kernel_rfl) (by kernel_rfl) (by kernel_rfl) (fun _ _ _ h => h) (Or.inl ⟨by rfl, ?_⟩) hH1 ?_
            · intro w hSw
              (try dsimp only at hSw)
              go_simp
            (try simp only [Act.put, List.setIfInBounds_toArray, List.set_cons_zero, List.set_cons_succ])
            refine wpAnyH_take (i := 9) (oi := { dst := some 98, op := Go.Op.extract (Go.Operand.tmp 89) 1, type := 3, pos := "top11.go:74", after := #[{ on := 7, ground := Go.Ground.data }, { on := 12, ground := Go.Ground.gcOnly Go.Departure.lateStores }], guard := none }) (v := (.int .i64 rk)) rfl (by kernel_rfl) (by kernel_rfl) (by kernel_rfl) (fun _ _ _ h => h) (Or.inl ⟨by rfl, ?_⟩) hH1 ?_
            · intro w hSw
              (try dsimp only at hSw)
              go_simp
            (try simp only [Act.put, List.setIfInBounds_toArray, List.set_cons_zero, List.set_cons_succ])
            refine wpAnyH_take (i := 10) (oi := { dst := some 99, op := Go.Op.extract (Go.Operand.tmp 89) 2, type := 33, pos := "top11.go:74", after := #[{ on := 7, ground := Go.Ground.data }, { on := 13, ground := Go.Ground.gcOnly Go.Departure.lateStores }], guard := none }) (v := (.int .i64 0)) rfl (by kernel_rfl) (by kernel_rfl) (by kernel_rfl) (fun _ _ _ h => h) (Or.inl ⟨by rfl, ?_⟩) hH1 ?_
            · intro w hSw
              (try dsimp only at hSw)
              go_simp
            (try simp only [Act.put, List.setIfInBounds_toArray, List.set_cons_zero, List.set_cons_succ])
            refine wpAnyH_ready (rs := [11]) (by kernel_rfl) (by simp) ?_
            refine AllReadyH.cons rfl (fun K hK => ?_) AllReadyH.nil
            (try dsimp only at hH1)
            go_simp
            refine hK.out _ _ (HQ.out _ ((btrans ((Below.refl _ W8).drew) (Nat.le_refl _) hb6).alloc ((btrans ((Below.refl _ W8).drew) (Nat.le_refl _) hb6).size) (.cells #[.int .i64 0, .int .i64 0, .int .i64 0, .int .i64 0, .int .i64 0, .bool false, .bool false, .bool false, .bool false] 58))) (fun hH2 => ?_)
            clear hK K
            (try simp only [Act.put, List.setIfInBounds_toArray, List.set_cons_zero, List.set_cons_succ])
            refine wpAnyH_ready (rs := [12]) (by kernel_rfl) (by simp) ?_
            refine AllReadyH.cons rfl (fun K hK => ?_) AllReadyH.nil
            (try dsimp only at hH2)
            have hN := heap_alloc_new w6 (.cells #[.int .i64 0, .int .i64 0, .int .i64 0, .int .i64 0, .int .i64 0, .bool false, .bool false, .bool false, .bool false] 58)
            obtain ⟨y0, y1, y2, y3, y4, y5, y6, y7, y8, yf⟩ := cells9 hN
            go_simp
            refine hK.out _ _ (HQ.out _ ((btrans ((Below.refl _ W8).drew) (Nat.le_refl _) hb6).alloc ((btrans ((Below.refl _ W8).drew) (Nat.le_refl _) hb6).size) (.cells #[.int .i64 s0, .int .i64 s1, .int .i64 s2, .int .i64 s3, .int .i64 s4, .bool s5, .bool s6, .bool s7, .bool s8] 58))) (fun hH3 => ?_)
            clear hK K
            (try simp only [Act.put, List.setIfInBounds_toArray, List.set_cons_zero, List.set_cons_succ])
            refine wpAnyH_take (i := 13) (oi := { dst := some 19, op := Go.Op.assign (Go.Operand.tmp 98), type := 3, pos := "top11.go:74", after := #[{ on := 9, ground := Go.Ground.data }, { on := 12, ground := Go.Ground.chain }, { on := 0, ground := Go.Ground.phase }, { on := 1, ground := Go.Ground.phase }, { on := 2, ground := Go.Ground.phase }, { on := 3, ground := Go.Ground.phase }, { on := 4, ground := Go.Ground.phase }, { on := 5, ground := Go.Ground.phase }, { on := 6, ground := Go.Ground.phase }, { on := 7, ground := Go.Ground.phase }, { on := 8, ground := Go.Ground.phase }, { on := 9, ground := Go.Ground.phase }, { on := 10, ground := Go.Ground.textOnly Go.Departure.lateStores }, { on := 11, ground := Go.Ground.phase }, { on := 12, ground := Go.Ground.phase }], guard := none }) (v := (.int .i64 rk)) rfl (by kernel_rfl) (by kernel_rfl) (by kernel_rfl) (fun _ _ _ h => h) (Or.inl ⟨by rfl, ?_⟩) hH3 ?_
            · intro w hSw
              (try dsimp only at hSw)
              go_simp
            (try simp only [Act.put, List.setIfInBounds_toArray, List.set_cons_zero, List.set_cons_succ])
            refine wpAnyH_take (i := 14) (oi := { dst := some 20, op := Go.Op.assign (Go.Operand.tmp 99), type := 33, pos := "top11.go:74", after := #[{ on := 10, ground := Go.Ground.data }, { on := 13, ground := Go.Ground.chain }, { on := 0, ground := Go.Ground.phase }, { on := 1, ground := Go.Ground.phase }, { on := 2, ground := Go.Ground.phase }, { on := 3, ground := Go.Ground.phase }, { on := 4, ground := Go.Ground.phase }, { on := 5, ground := Go.Ground.phase }, { on := 6, ground := Go.Ground.phase }, { on := 7, ground := Go.Ground.phase }, { on := 8, ground := Go.Ground.phase }, { on := 9, ground := Go.Ground.phase }, { on := 10, ground := Go.Ground.phase }, { on := 11, ground := Go.Ground.phase }, { on := 12, ground := Go.Ground.phase }, { on := 13, ground := Go.Ground.phase }], guard := none }) (v := (.int .i64 0)) rfl (by kernel_rfl) (by kernel_rfl) (by kernel_rfl) (fun _ _ _ h => h) (Or.inl ⟨by rfl, ?_⟩) hH3 ?_
            · intro w hSw
              (try dsimp only at hSw)
              go_simp
            (try simp only [Act.put, List.setIfInBounds_toArray, List.set_cons_zero, List.set_cons_succ])
            refine wpAnyH_done (by kernel_rfl) ?_ _
            go_wp2_with fail
            go_meet
            exact ⟨w6.heap.size, rfl, rfl, rfl, heap_alloc_new w6 (.cells #[.int .i64 s0, .int .i64 s1, .int .i64 s2, .int .i64 s3, .int .i64 s4, .bool s5, .bool s6, .bool s7, .bool s8] 58), (btrans ((Below.refl _ W8).drew) (Nat.le_refl _) hb6).size, (btrans ((Below.refl _ W8).drew) (Nat.le_refl _) hb6).alloc ((btrans ((Below.refl _ W8).drew) (Nat.le_refl _) hb6).size) (.cells #[.int .i64 s0, .int .i64 s1, .int .i64 s2, .int .i64 s3, .int .i64 s4, .bool s5, .bool s6, .bool s7, .bool s8] 58)⟩
          · skip
            (try dsimp only at hH)
            go_simp
            refine hK.out _ _ (HQ.out _ ((Below.refl _ W8).drew.alloc (Nat.le_refl _) (.cells #[.int .i64 0, .int .i64 0, .int .i64 0, .int .i64 0, .int .i64 0, .bool false, .bool false, .bool false, .bool false] 58))) (fun hH4 => ?_)
            clear hK K
            (try simp only [Act.put, List.setIfInBounds_toArray, List.set_cons_zero, List.set_cons_succ])
            refine wpAnyH_ready (rs := [6]) (by kernel_rfl) (by simp) ?_
            refine AllReadyH.cons rfl (fun K hK => ?_) AllReadyH.nil
            (try dsimp only at hH4)
            go_simp
            refine (HRX.out _ ((Below.refl _ W8).drew.alloc (Nat.le_refl _) (.cells #[.int .i64 0, .int .i64 0, .int .i64 0, .int .i64 0, .int .i64 0, .bool false, .bool false, .bool false, .bool false] 58))).mono ?_
            rintro e w6 ⟨rfl, hb6⟩
            refine hK.out _ _ (HQ.out _ (btrans ((Below.refl _ W8).drew.alloc (Nat.le_refl _) (.cells #[.int .i64 0, .int .i64 0, .int .i64 0, .int .i64 0, .int .i64 0, .bool false, .bool false, .bool false, .bool false] 58)) (Nat.le_refl _) hb6)) (fun hH5 => ?_)
            clear hK K
            (try simp only [Act.put, List.setIfInBounds_toArray, List.set_cons_zero, List.set_cons_succ])
            refine wpAnyH_take (i := 7) (oi := { dst := some 89, op := Go.Op.move (Go.Operand.tmp 96), type := 59, pos := "top11.go:74", after := #[{ on := 6, ground := Go.Ground.data }], guard := none }) (v := (.tuple #[.agg #[.int .i64 s0, .int .i64 s1, .int .i64 s2, .int .i64 s3, .int .i64 s4, .bool s5, .bool s6, .bool s7, .bool s8], .int .i64 rk, .int .i64 0])) rfl (by kernel_rfl) (by kernel_rfl) (by kernel_rfl) (fun _ _ _ h => h) (Or.inl ⟨by rfl, ?_⟩) hH5 ?_
            · intro w hSw
              (try dsimp only at hSw)
              go_simp
            (try simp only [Act.put, List.setIfInBounds_toArray, List.set_cons_zero, List.set_cons_succ])
            refine wpAnyH_take (i := 8) (oi := { dst := some 97, op := Go.Op.extract (Go.Operand.tmp 89) 0, type := 58, pos := "top11.go:74", after := #[{ on := 7, ground := Go.Ground.data }], guard := none }) (v := (.agg #[.int .i64 s0, .int .i64 s1, .int .i64 s2, .int .i64 s3, .int .i64 s4, .bool s5, .bool s6, .bool s7, .bool s8])) rfl (by kernel_rfl) (by kernel_rfl) (by kernel_rfl) (fun _ _ _ h => h) (Or.inl ⟨by rfl, ?_⟩) hH5 ?_
            · intro w hSw
              (try dsimp only at hSw)
              go_simp
            (try simp only [Act.put, List.setIfInBounds_toArray, List.set_cons_zero, List.set_cons_succ])
            refine wpAnyH_take (i := 9) (oi := { dst := some 98, op := Go.Op.extract (Go.Operand.tmp 89) 1, type := 3, pos := "top11.go:74", after := #[{ on := 7, ground := Go.Ground.data }, { on := 12, ground := Go.Ground.gcOnly Go.Departure.lateStores }], guard := none }) (v := (.int .i64 rk)) rfl (by kernel_rfl) (by kernel_rfl) (by kernel_rfl) (fun _ _ _ h => h) (Or.inl ⟨by rfl, ?_⟩) hH5 ?_
            · intro w hSw
              (try dsimp only at hSw)
              go_simp
            (try simp only [Act.put, List.setIfInBounds_toArray, List.set_cons_zero, List.set_cons_succ])
            refine wpAnyH_take (i := 10) (oi := { dst := some 99, op := Go.Op.extract (Go.Operand.tmp 89) 2, type := 33, pos := "top11.go:74", after := #[{ on := 7, ground := Go.Ground.data }, { on := 13, ground := Go.Ground.gcOnly Go.Departure.lateStores }], guard := none }) (v := (.int .i64 0)) rfl (by kernel_rfl) (by kernel_rfl) (by kernel_rfl) (fun _ _ _ h => h) (Or.inl ⟨by rfl, ?_⟩) hH5 ?_
            · intro w hSw
              (try dsimp only at hSw)
              go_simp
            (try simp only [Act.put, List.setIfInBounds_toArray, List.set_cons_zero, List.set_cons_succ])
            refine wpAnyH_ready (rs := [12]) (by kernel_rfl) (by simp) ?_
            refine AllReadyH.cons rfl (fun K hK => ?_) AllReadyH.nil
            (try dsimp only at hH5)
            have hN : w6.heap[W8.heap.size]? = some (.cells #[.int .i64 0, .int .i64 0, .int .i64 0, .int .i64 0, .int .i64 0, .bool false, .bool false, .bool false, .bool false] 58 (0, 0)) := (hb6.block W8.heap.size (by simp)).trans (heap_alloc_new W8.drew (.cells #[.int .i64 0, .int .i64 0, .int .i64 0, .int .i64 0, .int .i64 0, .bool false, .bool false, .bool false, .bool false] 58))
            obtain ⟨y0, y1, y2, y3, y4, y5, y6, y7, y8, yf⟩ := cells9 hN
            go_simp
            refine hK.out _ _ (HQS.out _ _ _ _ _ _ _ _ _ _ _ (Nat.le_refl _) (HQ.out _ (btrans ((Below.refl _ W8).drew.alloc (Nat.le_refl _) (.cells #[.int .i64 0, .int .i64 0, .int .i64 0, .int .i64 0, .int .i64 0, .bool false, .bool false, .bool false, .bool false] 58)) (Nat.le_refl _) hb6))) (fun hH6 => ?_)
            clear hK K
            (try simp only [Act.put, List.setIfInBounds_toArray, List.set_cons_zero, List.set_cons_succ])
            refine wpAnyH_take (i := 13) (oi := { dst := some 19, op := Go.Op.assign (Go.Operand.tmp 98), type := 3, pos := "top11.go:74", after := #[{ on := 9, ground := Go.Ground.data }, { on := 12, ground := Go.Ground.chain }, { on := 0, ground := Go.Ground.phase }, { on := 1, ground := Go.Ground.phase }, { on := 2, ground := Go.Ground.phase }, { on := 3, ground := Go.Ground.phase }, { on := 4, ground := Go.Ground.phase }, { on := 5, ground := Go.Ground.phase }, { on := 6, ground := Go.Ground.phase }, { on := 7, ground := Go.Ground.phase }, { on := 8, ground := Go.Ground.phase }, { on := 9, ground := Go.Ground.phase }, { on := 10, ground := Go.Ground.textOnly Go.Departure.lateStores }, { on := 11, ground := Go.Ground.phase }, { on := 12, ground := Go.Ground.phase }], guard := none }) (v := (.int .i64 rk)) rfl (by kernel_rfl) (by kernel_rfl) (by kernel_rfl) (fun _ _ _ h => h) (Or.inl ⟨by rfl, ?_⟩) hH6 ?_
            · intro w hSw
              (try dsimp only at hSw)
              go_simp
            (try simp only [Act.put, List.setIfInBounds_toArray, List.set_cons_zero, List.set_cons_succ])
            refine wpAnyH_take (i := 14) (oi := { dst := some 20, op := Go.Op.assign (Go.Operand.tmp 99), type := 33, pos := "top11.go:74", after := #[{ on := 10, ground := Go.Ground.data }, { on := 13, ground := Go.Ground.chain }, { on := 0, ground := Go.Ground.phase }, { on := 1, ground := Go.Ground.phase }, { on := 2, ground := Go.Ground.phase }, { on := 3, ground := Go.Ground.phase }, { on := 4, ground := Go.Ground.phase }, { on := 5, ground := Go.Ground.phase }, { on := 6, ground := Go.Ground.phase }, { on := 7, ground := Go.Ground.phase }, { on := 8, ground := Go.Ground.phase }, { on := 9, ground := Go.Ground.phase }, { on := 10, ground := Go.Ground.phase }, { on := 11, ground := Go.Ground.phase }, { on := 12, ground := Go.Ground.phase }, { on := 13, ground := Go.Ground.phase }], guard := none }) (v := (.int .i64 0)) rfl (by kernel_rfl) (by kernel_rfl) (by kernel_rfl) (fun _ _ _ h => h) (Or.inl ⟨by rfl, ?_⟩) hH6 ?_
            · intro w hSw
              (try dsimp only at hSw)
              go_simp
            (try simp only [Act.put, List.setIfInBounds_toArray, List.set_cons_zero, List.set_cons_succ])
            refine wpAnyH_done (by kernel_rfl) ?_ _
            go_wp2_with fail
            go_meet
            exact ⟨_, rfl, rfl, rfl, put9_same (.int .i64 s0) (.int .i64 s1) (.int .i64 s2) (.int .i64 s3) (.int .i64 s4) (.bool s5) (.bool s6) (.bool s7) (.bool s8) hN, Nat.le_refl _, put9_below (.int .i64 s0) (.int .i64 s1) (.int .i64 s2) (.int .i64 s3) (.int .i64 s4) (.bool s5) (.bool s6) (.bool s7) (.bool s8) (btrans ((Below.refl _ W8).drew.alloc (Nat.le_refl _) (.cells #[.int .i64 0, .int .i64 0, .int .i64 0, .int .i64 0, .int .i64 0, .bool false, .bool false, .bool false, .bool false] 58)) (Nat.le_refl _) hb6) (Nat.le_refl _)⟩
        case rest =>
          obtain ⟨P2, rfl, rfl, rfl, hP2, hPs2, hbx2⟩ := hcut
          obtain ⟨wy, rfl⟩ := nameW hbx2
          have HP2 := hid hP2
          have HB9 := hid (HB8.out.trans (hbx2.mono HB8.out.size))
          have hT8l : w3.heap.size < W8.heap.size := (Array.getElem?_eq_some_iff.1 HTW8.out).1
          have hT9 := (hbx2.block w3.heap.size hT8l).trans HTW8.out
          have HT9 := hid hT9
          have hT9l : w3.heap.size < wy.heap.size := (Array.getElem?_eq_some_iff.1 hT9).1
          have HBW9 := hid (HBW3.out.trans (HB9.out.mono HBW3.out.size))
          have t0 : wy.cell? ⟨w3.heap.size, 0, none⟩ = some (.int .i64 (eo - 1)) := by simp [World.cell?, hT9]
          have t1 : wy.cell? ⟨w3.heap.size, 1, none⟩ = some (.int .i64 (s0 - s1)) := by simp [World.cell?, hT9]
          have t2 : wy.cell? ⟨w3.heap.size, 2, none⟩ = some (.int .i64 hq) := by simp [World.cell?, hT9]
          obtain ⟨y0, y1, y2, y3, y4, y5, y6, y7, y8, -⟩ := cells9 (show wy.heap[P2]? = some (.cells #[.int .i64 s0, .int .i64 s1, .int .i64 s2, .int .i64 s3, .int .i64 s4, .bool s5, .bool s6, .bool s7, .bool s8] 58 (0, 0)) from HP2.out)
          clear hbx2 hT9 hP2 hPs2
          have HNEXT := hid (show ∀ hq', hq' = hq → AtInv ⟨me, mm, mr, false, mp⟩ first card (n + 1) (s0 - s1) hq' from fun hq' e => by
            refine ⟨by rw [← HS1.out], fun h => ?_⟩
            rw [← HS1.out] at h ⊢
            rw [e]
            exact (K6.out h).symm)
          have heo1 : (Value.int .i64 (eo - 1)) = .int .i64 (me - ((n + 1 : Nat) : Int)) := by congr 1; have := HEO.out; omega
          have HE1 := hid heo1
          clear heo1
          cases s5 with
          | false =>
            have k8 := K8.out
            have k6 : s3 = hq := K6.out rfl
            subst k6
            by_cases hz0 : eo - 1 = 0
            · have hl0 : s0 - s1 = 0 := by
                rw [decide_eq_true hz0] at k8
                simpa using k8
              clear k8
              go_wp2_with fail
              exact ⟨⟨n + 1, hlt, by go_num, HB9.out, s0 - s1, s3, by rw [HT9.out, HE1.out], HNEXT.out _ rfl⟩, by simp only [intOf]; omega⟩
            · clear k8
              go_wp2_with fail
              exact ⟨⟨n + 1, hlt, by go_num, HB9.out, s0 - s1, s3, by rw [HT9.out, HE1.out], HNEXT.out _ rfl⟩, by simp only [intOf]; omega⟩
          | true =>
            have k8 := K8.out
            have hz0 : eo - 1 = 0 := by
              by_cases h : eo - 1 = 0
              · exact h
              · rw [decide_eq_false h] at k8; simp at k8
            have hl0 : ¬ s0 - s1 = 0 := by
              intro h
              simp [h] at k8
            clear k8
            have t0' : wy.cell? ⟨w3.heap.size, 0, none⟩ = some (.int .i64 0) := by rw [t0, hz0]
            have HZ0 := hid hz0
            have HL0 := hid hl0
            have hP2l : P2 < wy.heap.size := (Array.getElem?_eq_some_iff.1 HP2.out).1
            have hP2n : P2 ≠ wy.heap.size := by omega
            have hbn : (s0 - s1 != 0) = true := by simp [hl0]
            clear t0
            have t0 := t0'
            clear t0' hz0
            have hwin := K9.out rfl
            by_cases hw : s4 = 0
            · subst hw
              have hps : 0 < s0 - s1 := hwin.1 rfl
              have hsv : sureV (decide (0 < s0 - s1)) = .agg #[.int .i64 65536, .int .i64 65536] := by rw [decide_eq_true hps]; rfl
              clear hwin hps
              go_upto_region 28 with fail
              obtain ⟨W9, hW9⟩ : ∃ W, wy.alloc (.cells #[.int .i64 65536, .int .i64 65536] 64) = W := ⟨_, rfl⟩
              have hn9 : W9.heap[wy.heap.size]? = some (.cells #[.int .i64 65536, .int .i64 65536] 64 (0, 0)) := by rw [← hW9]; exact heap_alloc_new wy _
              have hb9 : Below wy.heap.size wy W9 := by rw [← hW9]; exact (Below.refl _ _).alloc (Nat.le_refl _) _
              have hz9 : wy.heap.size < W9.heap.size := by rw [← hW9]; simp
              rw [hW9]
              have HB10 := hid (HB9.out.trans (hb9.mono HB9.out.size))
              have hT10 := (hb9.block w3.heap.size hT9l).trans HT9.out
              have HT10 := hid hT10
              have hT10l : w3.heap.size < W9.heap.size := by omega
              have HN9 := hid hn9
              clear t0 t2 t1 y0 y1 y2 y3 y4 y5 y6 y7 y8 hW9 hn9 hb9
              have t0 : W9.cell? ⟨w3.heap.size, 0, none⟩ = some (.int .i64 0) := by simp [World.cell?, hT10, HZ0.out]
              have t1 : W9.cell? ⟨w3.heap.size, 1, none⟩ = some (.int .i64 (s0 - s1)) := by simp [World.cell?, hT10]
              have t2 : W9.cell? ⟨w3.heap.size, 2, none⟩ = some (.int .i64 hq) := by simp [World.cell?, hT10]
              clear hT10
              obtain ⟨-, q5, q6, q7⟩ := HCE.out W9 (HB3.out.trans (HB10.out.mono HB3.out.size))
              have HV := hid (HVA.out (s0 - s1) hq K5.out HL0.out K7.out W9 (HBW3.out.trans (HB10.out.mono HBW3.out.size)))
              rw [hsv] at HV
              clear hsv
              go_wp2_with fail
              refine HV.out.mono ?_
              rintro e w10 ⟨ho, hb10⟩
              have HB11 := hid (HB10.out.trans (hb10.mono HB10.out.size))
              have hn10 := (hb10.block wy.heap.size hz9).trans HN9.out
              have hT11 := (hb10.block w3.heap.size hT10l).trans HT10.out
              have v0 : w10.cell? ⟨wy.heap.size, 0, none⟩ = some (.int .i64 65536) := by simp [World.cell?, hn10]
              have v1 : w10.cell? ⟨wy.heap.size, 1, none⟩ = some (.int .i64 65536) := by simp [World.cell?, hn10]
              have HT11 := hid hT11
              have hlt10 : wy.heap.size < w10.heap.size := (Array.getElem?_eq_some_iff.1 hn10).1
              have hne10 : wy.heap.size ≠ w10.heap.size := by omega
              have hT11l : w3.heap.size < w10.heap.size := (Array.getElem?_eq_some_iff.1 hT11).1
              clear hb10 hn10 hT11 t0 t1 t2 q5 q6 q7 HV
              rcases ho with rfl | rfl
              · go_wp2_with fail
                exact ⟨⟨n + 1, hlt, by go_num, HB11.out.alloc HB11.out.size _, s0 - s1, hq, by rw [Below.heap_alloc _ _ _ hT11l, HT11.out, HE1.out], HNEXT.out _ rfl⟩, by simp only [intOf]; omega⟩
              · go_wp2_with fail
                exact ⟨⟨n + 1, hlt, by go_num, HB11.out.alloc HB11.out.size _, s0 - s1, hq, by rw [Below.heap_alloc _ _ _ hT11l, HT11.out, HE1.out], HNEXT.out _ rfl⟩, by simp only [intOf]; omega⟩
            · have hps : ¬ 0 < s0 - s1 := fun h => hw (hwin.2 h)
              have hsv : sureV (decide (0 < s0 - s1)) = .agg #[.int .i64 0, .int .i64 0] := by rw [decide_eq_false hps]; rfl
              clear hwin hps
              go_upto_region 28 with fail
              obtain ⟨W9, hW9⟩ : ∃ W, wy.alloc (.cells #[.int .i64 0, .int .i64 0] 64) = W := ⟨_, rfl⟩
              have hn9 : W9.heap[wy.heap.size]? = some (.cells #[.int .i64 0, .int .i64 0] 64 (0, 0)) := by rw [← hW9]; exact heap_alloc_new wy _
              have hb9 : Below wy.heap.size wy W9 := by rw [← hW9]; exact (Below.refl _ _).alloc (Nat.le_refl _) _
              have hz9 : wy.heap.size < W9.heap.size := by rw [← hW9]; simp
              rw [hW9]
              have HB10 := hid (HB9.out.trans (hb9.mono HB9.out.size))
              have hT10 := (hb9.block w3.heap.size hT9l).trans HT9.out
              have HT10 := hid hT10
              have hT10l : w3.heap.size < W9.heap.size := by omega
              have HN9 := hid hn9
              clear t0 t2 t1 y0 y1 y2 y3 y4 y5 y6 y7 y8 hW9 hn9 hb9
              have t0 : W9.cell? ⟨w3.heap.size, 0, none⟩ = some (.int .i64 0) := by simp [World.cell?, hT10, HZ0.out]
              have t1 : W9.cell? ⟨w3.heap.size, 1, none⟩ = some (.int .i64 (s0 - s1)) := by simp [World.cell?, hT10]
              have t2 : W9.cell? ⟨w3.heap.size, 2, none⟩ = some (.int .i64 hq) := by simp [World.cell?, hT10]
              clear hT10
              obtain ⟨-, q5, q6, q7⟩ := HCE.out W9 (HB3.out.trans (HB10.out.mono HB3.out.size))
              have HV := hid (HVA.out (s0 - s1) hq K5.out HL0.out K7.out W9 (HBW3.out.trans (HB10.out.mono HBW3.out.size)))
              rw [hsv] at HV
              clear hsv
              go_wp2_with fail
              refine HV.out.mono ?_
              rintro e w10 ⟨ho, hb10⟩
              have HB11 := hid (HB10.out.trans (hb10.mono HB10.out.size))
              have hn10 := (hb10.block wy.heap.size hz9).trans HN9.out
              have hT11 := (hb10.block w3.heap.size hT10l).trans HT10.out
              have v0 : w10.cell? ⟨wy.heap.size, 0, none⟩ = some (.int .i64 0) := by simp [World.cell?, hn10]
              have v1 : w10.cell? ⟨wy.heap.size, 1, none⟩ = some (.int .i64 0) := by simp [World.cell?, hn10]
              have HT11 := hid hT11
              have hlt10 : wy.heap.size < w10.heap.size := (Array.getElem?_eq_some_iff.1 hn10).1
              have hne10 : wy.heap.size ≠ w10.heap.size := by omega
              have hT11l : w3.heap.size < w10.heap.size := (Array.getElem?_eq_some_iff.1 hT11).1
              clear hb10 hn10 hT11 t0 t1 t2 q5 q6 q7 HV
              rcases ho with rfl | rfl
              · go_wp2_with fail
                exact ⟨⟨n + 1, hlt, by go_num, HB11.out.alloc HB11.out.size _, s0 - s1, hq, by rw [Below.heap_alloc _ _ _ hT11l, HT11.out, HE1.out], HNEXT.out _ rfl⟩, by simp only [intOf]; omega⟩
              · go_wp2_with fail
                exact ⟨⟨n + 1, hlt, by go_num, HB11.out.alloc HB11.out.size _, s0 - s1, hq, by rw [Below.heap_alloc _ _ _ hT11l, HT11.out, HE1.out], HNEXT.out _ rfl⟩, by simp only [intOf]; omega⟩
end Go.Proofs.YtolnhicngepnnaaGreat
