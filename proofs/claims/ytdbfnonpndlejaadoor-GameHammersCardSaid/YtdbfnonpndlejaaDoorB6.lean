/- awake: the opening example of layer 8. -/
import Derived.Test.YtdbfnonpndlejaaDoorB4
import Derived.Test.YtdbfnonpndlejaaDoorL2
import Derived.ChangeKeysEq
namespace Go.Proofs.YtdbfnonpndlejaaDoor
open Go.RowKit Go.Shelf

theorem eq26n (a b c d : Int) (n : Nat) (w : World) : (Op.equalIn (n + 2) 26 (.agg #[.int .i64 a, .int .i64 b]) (.agg #[.int .i64 c, .int .i64 d])).run Tryd.prog w = .ok (decide (a = c ∧ b = d)) w := by
  obtain ⟨i0, hi, hz0, hz1, hz2⟩ := info_parts info3
  have hc : Tryd.prog.cellsOf 3 = 1 := by kernel_rfl
  rw [run_equalIn_array (P := Tryd.prog) (w := w) (n + 1) (xs := #[.int .i64 a, .int .i64 b]) (ys := #[.int .i64 c, .int .i64 d]) (hu := Tryd.underlying26) (hi := hi), hc]
  simp only [show List.range 2 = [0, 1] from rfl, Op.eqItems]
  by_cases h1 : a = c <;> by_cases h2 : b = d <;> simp [go_sem, h1, h2]
theorem eq26 (a b c d : Int) (w : World) : (Op.equalIn 10000 26 (.agg #[.int .i64 a, .int .i64 b]) (.agg #[.int .i64 c, .int .i64 d])).run Tryd.prog w = .ok (decide (a = c ∧ b = d)) w := eq26n a b c d 9998 w
/-- A row of three ints that was just laid. -/
theorem lit3 (w : World) (a b c : Int) : SlI (w.alloc (.cells #[.int .i64 a, .int .i64 b, .int .i64 c] 3)) (.slice (some ⟨w.heap.size, 0, none⟩) 3 3) [a, b, c] :=
  own_SlI (World.ownsRow_lit (base := w.heap.size) (e := 3) (size := 1) w #[.int .i64 a, .int .i64 b, .int .i64 c] 3 (Nat.le_refl _) (by decide) rfl) (by simp)
theorem B11 (W : World) (n : Nat) (o : Obj) : Below W.heap.size W ((W.drewN n).alloc o) := (drewNB (Below.refl _ _) n).alloc (Nat.le_refl _) o
def mA : MatchD := ⟨3, 8, 2, false, true⟩
def cardA : List LineD := [⟨0, 2, true⟩, ⟨-1, 0, false⟩, ⟨1, 1, false⟩]
def sA : StD := ⟨2, 1, 3, -1, 0, true, false, true, false⟩
theorem repA : replayR mA 0 cardA (-1) = (sA, -1, 0) := by kernel_rfl
theorem repA1 : replayR mA 0 (cardA.take 1) 1 = (zeroS, 1, 9) := by kernel_rfl
theorem hamA : hamsR mA 0 cardA = ([0, 1, 1], 0) := by kernel_rfl
theorem hamA4 : hamL mA 0 cardA (cardA.length + 1) = [0, 1, 1] := by kernel_rfl
def textA : List UInt8 := [114, 42, 32, 50, 112, 32, 48, 32, 48, 32, 61, 32, 50, 10, 121, 32, 32, 48, 32, 48, 32, 49, 32, 61, 32, 49, 10]
theorem itoa1 : Lib.itoa 1 = [49] := by
  unfold Lib.itoa
  rw [if_neg (by omega)]
  exact dec_small 1 (by omega)
theorem itoa2 : Lib.itoa 2 = [50] := by
  unfold Lib.itoa
  rw [if_neg (by omega)]
  exact dec_small 2 (by omega)
theorem boardA : boardR mA 0 cardA (-1) = (textA, 0) := by
  unfold boardR
  rw [repA, if_pos rfl, hamA4]
  have e0 : rowL 0 0 (-1) cardA [0, 1, 1] sA = [114, 42, 32, 50, 112, 32, 48, 32, 48, 32, 61, 32, 50, 10] := by
    have h : rowParts 0 0 (-1) cardA [0, 1, 1] sA = [[114, 42], [50, 112], [48], [48], [61], [50]] := by
      simp [rowParts, rowHead, colsL, colL, cardA, List.range_succ, itoa_zero, itoa2, ptsOf, sA]
    unfold rowL
    rw [h]; rfl
  have e1 : rowL 1 0 (-1) cardA [0, 1, 1] sA = [121, 32, 32, 48, 32, 48, 32, 49, 32, 61, 32, 49, 10] := by
    have h : rowParts 1 0 (-1) cardA [0, 1, 1] sA = [[121, 32], [48], [48], [49], [61], [49]] := by
      simp [rowParts, rowHead, colsL, colL, cardA, List.range_succ, itoa_zero, itoa1, ptsOf, sA]
    unfold rowL
    rw [h]; rfl
  unfold boardL
  rw [e0, e1]; rfl
def clkA0 : ClkD := ⟨⟨100, 10, 1, 20⟩, 100, 100, 1, 1, -1, 0, 0⟩
theorem clkA1 : (clkA0.start 0 5).2 = 0 := by kernel_rfl
theorem clkA2 : ((clkA0.start 0 5).1.out 0 15).2 = 0 := by kernel_rfl
theorem clkA3 : (((clkA0.start 0 5).1.out 0 15).1).leftR 0 40 = 85 ∧ (((clkA0.start 0 5).1.out 0 15).1).wrong 0 40 = 0 := by constructor <;> kernel_rfl
/-- The card of the example, as the call lays it. -/
theorem cardA_SlL (w : World) : SlL (w.alloc (.cells #[.int .i64 0, .int .i64 2, .bool true, .int .i64 (-1), .int .i64 0, .bool false, .int .i64 1, .int .i64 1, .bool false] 42)) (.slice (some ⟨w.heap.size, 0, none⟩) 3 3) cardA := by
  refine ⟨_, 3, rfl, by decide, .inr ⟨w.heap.size, 0, rfl, by simp, fun i hi => ?_⟩⟩
  have h := heap_alloc_new w (.cells #[.int .i64 0, .int .i64 2, .bool true, .int .i64 (-1), .int .i64 0, .bool false, .int .i64 1, .int .i64 1, .bool false] 42)
  rw [Nat.zero_add, cellB h i]
  have hi9 : i < 9 := hi
  have : ∀ j : Fin 9, (#[Value.int .i64 0, .int .i64 2, .bool true, .int .i64 (-1), .int .i64 0, .bool false, .int .i64 1, .int .i64 1, .bool false] : Array Value)[j.1]? = (cardA.flatMap LineD.cells)[j.1]? := by
    intro j
    match j with
    | 0 | 1 | 2 | 3 | 4 | 5 | 6 | 7 | 8 => rfl
  rw [this ⟨i, hi9⟩, List.getElem?_eq_getElem]
theorem newA (w : World) : Calls Tryd.prog 21 #[.agg #[.int .i64 100, .int .i64 10, .int .i64 1, .int .i64 20]] w fun e w' => ∃ B, w.heap.size ≤ B ∧ e = .returned (.tuple #[.pointer (some ⟨B, 0, none⟩), .int .i64 0]) ∧ Below w.heap.size w w' ∧ CObj w' B clkA0 :=
  (newClock_any ⟨100, 10, 1, 20⟩ w).mono fun _ _ h => h.2 (by kernel_rfl)
theorem replayA (C : Nat) (W : World) (h : SlL W (.slice (some ⟨C, 0, none⟩) 3 3) cardA) : Calls Tryd.prog 11 #[.agg #[.int .i64 3, .int .i64 8, .int .i64 2, .bool false, .bool true], .int .i64 0, .slice (some ⟨C, 0, none⟩) 3 3, .int .i64 (-1)] W fun e w' =>
    e = .returned (.tuple #[.agg #[.int .i64 2, .int .i64 1, .int .i64 3, .int .i64 (-1), .int .i64 0, .bool true, .bool false, .bool true, .bool false], .int .i64 (-1), .int .i64 0]) ∧ Below W.heap.size W w' := by
  have q := replay_any mA 0 cardA _ (-1) W h
  rw [repA] at q
  exact q
theorem replayA1 (C : Nat) (W : World) (h : SlL W (.slice (some ⟨C, 0, none⟩) 3 3) cardA) : Calls Tryd.prog 11 #[.agg #[.int .i64 3, .int .i64 8, .int .i64 2, .bool false, .bool true], .int .i64 0, .slice (some ⟨C, 0, none⟩) 1 3, .int .i64 1] W fun e w' =>
    e = .returned (.tuple #[.agg #[.int .i64 0, .int .i64 0, .int .i64 0, .int .i64 0, .int .i64 0, .bool false, .bool false, .bool false, .bool false], .int .i64 1, .int .i64 9]) ∧ Below W.heap.size W w' := by
  have q := replay_any mA 0 (cardA.take 1) _ 1 W (h.take 1 (by decide))
  rw [repA1] at q
  exact q
theorem hammersA (C : Nat) (W : World) (h : SlL W (.slice (some ⟨C, 0, none⟩) 3 3) cardA) : Calls Tryd.prog 13 #[.agg #[.int .i64 3, .int .i64 8, .int .i64 2, .bool false, .bool true], .int .i64 0, .slice (some ⟨C, 0, none⟩) 3 3] W fun e w' =>
    (∃ v, e = .returned (.tuple #[v, .int .i64 0]) ∧ SlI w' v [0, 1, 1]) ∧ Below W.heap.size W w' := by
  have q := hammers_any mA 0 cardA _ W h
  rw [hamA] at q
  exact q
theorem boardA_any (C : Nat) (W : World) (h : SlL W (.slice (some ⟨C, 0, none⟩) 3 3) cardA) (hT : TabW W) : Calls Tryd.prog 15 #[.agg #[.int .i64 3, .int .i64 8, .int .i64 2, .bool false, .bool true], .int .i64 0, .slice (some ⟨C, 0, none⟩) 3 3, .int .i64 (-1)] W fun e w' =>
    e = .returned (.tuple #[.string ⟨#[114, 42, 32, 50, 112, 32, 48, 32, 48, 32, 61, 32, 50, 10, 121, 32, 32, 48, 32, 48, 32, 49, 32, 61, 32, 49, 10]⟩, .int .i64 0]) ∧ Below W.heap.size W w' := by
  have q := board_any mA 0 cardA _ (-1) W h hT
  rw [boardA] at q
  exact q
/-- The match of the example lies in its box. -/
def BoxA (W : World) (M : Nat) : Prop := W.heap[M]? = some (.cells #[.int .i64 3, .int .i64 8, .int .i64 2, .bool false, .bool true] 23 (0, 0))
theorem BoxA.below {w w' : World} {M : Nat} (h : BoxA w M) (hb : Below w.heap.size w w') : BoxA w' M := (hb.block _ (Array.getElem?_eq_some_iff.1 h).1).trans h
set_option maxRecDepth 100000 in
set_option maxHeartbeats 2000000 in
theorem awake_any (w : World) (hW : TabW w) : Calls Tryd.prog 10 #[] w fun e w' => e = .returned (.bool true) ∧ Below w.heap.size w w' := by
  have HW := hid hW
  clear hW
  go_enter Tryd.func10, Tryd.ntmps10
  go_upto_region 3 with fail
  obtain ⟨W2, hW2⟩ : ∃ W2, (w.alloc (.cells #[.int .i64 3, .int .i64 8, .int .i64 2, .bool false, .bool true] 23)).alloc (.cells #[.int .i64 0, .int .i64 2, .bool true, .int .i64 (-1), .int .i64 0, .bool false, .int .i64 1, .int .i64 1, .bool false] 42) = W2 := ⟨_, rfl⟩
  have hsl2 := cardA_SlL (w.alloc (.cells #[.int .i64 3, .int .i64 8, .int .i64 2, .bool false, .bool true] 23))
  rw [hW2, World.size_alloc] at hsl2
  have hm2 : BoxA W2 w.heap.size := by rw [← hW2]; exact heap_alloc2_old w _ _
  have hb2 : Below w.heap.size w W2 := by rw [← hW2]; exact ((Below.refl _ _).alloc (Nat.le_refl _) _).alloc (by simp) _
  have HSL2 := hid hsl2
  have HM2 := hid hm2
  have HB2 := hid hb2
  obtain ⟨m0, m1, m2, m3, m4⟩ := cells5 hm2
  rw [hW2]
  clear hsl2 hm2 hb2 hW2
  go_upto_region 4 with (go_at_call 11; refine (replayA _ _ HSL2.out).mono ?_; rintro e W3 ⟨rfl, hb3⟩)
  obtain ⟨W4, hW4⟩ : ∃ W4, W3.alloc (.cells #[.int .i64 2, .int .i64 1, .int .i64 3, .int .i64 (-1), .int .i64 0, .bool true, .bool false, .bool true, .bool false] 29) = W4 := ⟨_, rfl⟩
  have hs4 : W4.heap[W3.heap.size]? = some (.cells #[.int .i64 2, .int .i64 1, .int .i64 3, .int .i64 (-1), .int .i64 0, .bool true, .bool false, .bool true, .bool false] 29 (0, 0)) := by rw [← hW4]; exact heap_alloc_new W3 _
  have hb4 : Below W2.heap.size W2 W4 := by rw [← hW4]; exact hb3.alloc hb3.size _
  have HB4 := hid (HB2.out.trans (hb4.mono HB2.out.size))
  have HS4 := hid hs4
  have HSL4 := hid (HSL2.out.below hb4)
  have HM4 := hid (HM2.out.below hb4)
  rw [hW4]
  clear hW4 hb3 hb4 hs4 m0 m1 m2 m3 m4
  obtain ⟨m0, m1, m2, m3, m4⟩ := cells5 HM4.out
  go_upto_region 5 with (go_at_call 13; refine (hammersA _ _ HSL4.out).mono ?_; rintro e W5 ⟨⟨v6, rfl, hv5⟩, hb5⟩)
  have HB5 := hid (HB4.out.trans (hb5.mono HB4.out.size))
  have HS5 := hid ((hb5.block _ (Array.getElem?_eq_some_iff.1 HS4.out).1).trans HS4.out)
  have HSL5 := hid (HSL4.out.below hb5)
  have HM5 := hid (HM4.out.below hb5)
  obtain ⟨a6, c6, rfl, -, -⟩ := hv5.open
  have HV5 := hid hv5
  clear hb5 m0 m1 m2 m3 m4 hv5
  obtain ⟨m0, m1, m2, m3, m4⟩ := cells5 HM5.out
  go_upto_region 6 with (go_at_call 15; refine (boardA_any _ _ HSL5.out (HW.out.below HB5.out)).mono ?_; rintro e W6 ⟨rfl, hb6⟩)
  have HB6 := hid (HB5.out.trans (hb6.mono HB5.out.size))
  have HS6 := hid ((hb6.block _ (Array.getElem?_eq_some_iff.1 HS5.out).1).trans HS5.out)
  have HSL6 := hid (HSL5.out.below hb6)
  have HM6 := hid (HM5.out.below hb6)
  have HV6 := hid (HV5.out.below hb6)
  have hzw : w.heap.size < W6.heap.size := (Array.getElem?_eq_some_iff.1 HM6.out).1
  clear hb6 m0 m1 m2 m3 m4
  obtain ⟨m0, m1, m2, m3, m4⟩ := cells5 HM6.out
  go_cut [11, 12] (fun x11 x12 wx => x11 = .int .i64 1 ∧ x12 = .int .i64 9 ∧ Below W6.heap.size W6 wx)
  case first =>
    go_wp2_with fail
    go_region_with (go_at_call 11; refine (replayA1 _ _ (SlL.below (by exact HSL6.out) (by first | exact Below.refl _ _ | exact (Below.refl _ _).drew | exact (Below.refl _ _).alloc (Nat.le_refl _) _ | exact ((Below.refl _ _).drew).alloc (Nat.le_refl _) _ | exact ((Below.refl _ _).alloc (Nat.le_refl _) _).drew))).mono ?_; rintro e w4 ⟨rfl, hb4⟩; first | (have hz4 := (hb4.block W6.heap.size (by simp)).trans (heap_alloc_new W6 (.cells #[.int .i64 0, .int .i64 0, .int .i64 0, .int .i64 0, .int .i64 0, .bool false, .bool false, .bool false, .bool false] 29)); obtain ⟨z0, z1, z2, z3, z4, z5, z6, z7, z8, zf⟩ := cells9 hz4) | skip)
    all_goals
      go_wp2_with fail
    all_goals
      go_meet
    · have hb5 : Below W6.heap.size W6 w4 := ((Below.refl _ _).drew).trans hb4
      exact ⟨rfl, rfl, hb5.alloc hb5.size _⟩
    all_goals
      have hb5 : Below W6.heap.size W6 w4 := Below.trans (by first | exact ((Below.refl _ _).drew).alloc (Nat.le_refl _) _ | exact ((Below.refl _ _).alloc (Nat.le_refl _) _).drew | exact (Below.refl _ _).alloc (Nat.le_refl _) _) (hb4.mono (by simp))
      exact ⟨rfl, rfl, put9_below _ _ _ _ _ _ _ _ _ hb5 (Nat.le_refl _)⟩
  case rest =>
    obtain ⟨rfl, rfl, hb7⟩ := hcut
    obtain ⟨W7, rfl⟩ : ∃ W7, W7 = wc := ⟨_, rfl⟩
    have HB7 := hid (HB6.out.trans (hb7.mono HB6.out.size))
    have HS7 := hid ((hb7.block _ (Array.getElem?_eq_some_iff.1 HS6.out).1).trans HS6.out)
    have HV7 := hid (HV6.out.below hb7)
    clear hb7 m0 m1 m2 m3 m4 hzw
    go_upto_region 10 with (go_at_call 21; refine (newA _).mono ?_; rintro e W8 ⟨B, hB, rfl, hb8, hc8⟩)
    have HB8 := hid (HB7.out.trans (hb8.mono HB7.out.size))
    have HS8 := hid ((hb8.block _ (Array.getElem?_eq_some_iff.1 HS7.out).1).trans HS7.out)
    have HV8 := hid (HV7.out.below hb8)
    have HBM8 := hid hb8
    have HBB := hid (show W3.heap.size < B by have := (Array.getElem?_eq_some_iff.1 HS7.out).1; omega)
    have HBW := hid (show W7.heap.size ≤ B from hB)
    have HC8 := hid hc8
    have ho0 : ClkOk 0 clkA0 := new_ok (t := ⟨100, 10, 1, 20⟩) (by kernel_rfl)
    have ho1 := start_ok 0 5 ho0
    have ho2 := out_ok 0 15 ho1
    have HST := hid (start_any B clkA0 0 5 W8 hc8 0 (by decide) ho0)
    have HOU := hid (fun W h => out_any B (clkA0.start 0 5).1 0 15 W h 1 (by decide) ho1)
    have HLE := hid (fun W h => left_any B ((clkA0.start 0 5).1.out 0 15).1 0 40 W h 2 (by decide) ho2)
    rw [clkA1] at HST
    rw [clkA2] at HOU
    rw [clkA3.1, clkA3.2] at HLE
    clear hb8 hc8 hB ho0 ho1 ho2
    go_wp2_with fail
    refine HST.out.mono ?_
    rintro e W9 ⟨rfl, hc9, ho9⟩
    go_wp2_with fail
    refine (HOU.out _ hc9).mono ?_
    rintro e W10 ⟨rfl, hc10, ho10⟩
    have hlt8 : W3.heap.size < W8.heap.size := (Array.getElem?_eq_some_iff.1 HS8.out).1
    have HO10 := hid (ho9.trans ho10)
    have HS10 := hid ((HO10.out.bel.block _ HBB.out).trans HS8.out)
    have HB10 := hid (HB8.out.trans (HO10.out.bel.mono (by have := HBW.out; have := HB7.out.size; omega)))
    have hv10 : SlI W10 (.slice a6 3 c6) [0, 1, 1] := HV7.out.below (HBM8.out.trans (HO10.out.bel.mono HBW.out))
    have HV10 := hid hv10
    clear ho9 ho10 hc9 hlt8 hv10
    go_wp2_with fail
    refine (HLE.out _ hc10).mono ?_
    rintro e W11 ⟨rfl, n, rfl⟩
    obtain ⟨c0, c1, c2, c3, c4, c5, c6', c7, c8, cf⟩ := cells9 HS10.out
    have heq : ∀ w, (Op.equalIn 10000 26 (.agg #[.int .i64 2, .int .i64 1]) (.agg #[.int .i64 2, .int .i64 1])).run Tryd.prog w = .ok true w := fun w => eq26 2 1 2 1 w
    clear hc10
    go_wp2_with fail
    refine (ints_any (.slice a6 3 c6) _ [0, 1, 1] [0, 1, 1] _ (HV10.out.below (B11 W10 n _)) (lit3 (W10.drewN n) 0 1 1)).mono ?_
    rintro e W12 ⟨rfl, hb12⟩
    have hbw : Below w.heap.size w W12 := HB10.out.trans (((B11 W10 n _).mono HB10.out.size).trans (hb12.mono (by have := HB10.out.size; simp [World.drewN]; omega)))
    have hsi : sameI [0, 1, 1] [0, 1, 1] = true := by kernel_rfl
    rw [hsi]
    clear hb12 hsi
    go_wp2_with fail
    go_ret
    exact ⟨rfl, hbw⟩
end Go.Proofs.YtdbfnonpndlejaaDoor
