/- Stones that overlap. -/
import Derived.Test.YtolnhicngepnnaaS1
import Derived.Deep.QuietTactic
import Derived.BigQuiet
import Derived.BigRegion
namespace Go.Proofs.Ytolnhicngepnnaa
open Go.RowKit

/-- A stone: its team, its number, its place. -/
structure StoneD where
  team : Int
  n : Int
  x : Int
  y : Int
def StoneD.cells (s : StoneD) : List Value := [.int .i64 s.team, .int .i64 s.n, .int .i64 s.x, .int .i64 s.y]
abbrev StoneD.agg (s : StoneD) : Value := .agg #[.int .i64 s.team, .int .i64 s.n, .int .i64 s.x, .int .i64 s.y]
def StoneD.ok (s : StoneD) : Bool := spotOk s.x s.y
/-- Do stones at valid places overlap (-1), touch (0), or neither (1)? -/
def contR (x y : Int) : Int := if 19005440 < max (sz x) (sz y) then 1 else if x * x + y * y < 361206749593600 then -1 else if 361206749593600 < x * x + y * y then 1 else 0
set_option maxHeartbeats 1000000 in
theorem contact_any (a b c d : Int) (h1 : spotOk a b = true) (h2 : spotOk c d = true) (w : World) :
    Calls Try.prog 47 #[.agg #[.int .i64 a, .int .i64 b], .agg #[.int .i64 c, .int .i64 d]] w fun e w' => e = .returned (.int .i64 (contR (a - c) (b - d))) ∧ Below w.heap.size w w' := by
  obtain ⟨⟨a1, a2⟩, b1, b2⟩ := spotOk_b h1
  obtain ⟨⟨c1, c2⟩, d1, d2⟩ := spotOk_b h2
  have hw1 : IntKind.i64.wrap (a - c) = a - c := IntWalk.i64_in _ (by omega)
  have hw2 : IntKind.i64.wrap (b - d) = b - d := IntWalk.i64_in _ (by omega)
  have hb0 : Below w.heap.size w ((w.alloc (.cells #[.int .i64 a, .int .i64 b] 47)).alloc (.cells #[.int .i64 c, .int .i64 d] 47)) := ((Below.refl _ w).alloc (Nat.le_refl _) _).alloc (by simp) _
  have HB0 := hid hb0
  clear hb0 h1 h2
  have hx : -13107200000 ≤ a - c ∧ a - c ≤ 13107200000 := by omega
  have hy : -13107200000 ≤ b - d ∧ b - d ≤ 13107200000 := by omega
  obtain ⟨x, hX⟩ : ∃ x, a - c = x := ⟨_, rfl⟩
  obtain ⟨y, hY⟩ : ∃ y, b - d = y := ⟨_, rfl⟩
  rw [hX] at hx
  rw [hY] at hy
  rw [hX, hY]
  have HX := hid hX
  have HY := hid hY
  clear hX hY
  go_enter Try.func47, Try.ntmps47
  go_upto_region 1 with fail
  go_quiet (fail)
  clear hw1 hw2
  rw [HX.out, HY.out]
  obtain ⟨hx1, hx2⟩ := hx
  obtain ⟨hy1, hy2⟩ := hy
  have H1 := hid (fun W => sizeS_any x (by omega) W)
  have H2 := hid (fun W => sizeS_any y (by omega) W)
  have HC := hid (show contR x y = if 19005440 < max (sz x) (sz y) then 1 else if x * x + y * y < 361206749593600 then -1 else if 361206749593600 < x * x + y * y then 1 else 0 from rfl)
  have hsx : x ≤ sz x ∧ -x ≤ sz x := by unfold sz; omega
  have hsy : y ≤ sz y ∧ -y ≤ sz y := by unfold sz; omega
  have hqx : sz x ≤ 19005440 → 0 ≤ x * x ∧ x * x ≤ 250000000000000000 := fun h => sq_b (by omega)
  have hqy : sz y ≤ 19005440 → 0 ≤ y * y ∧ y * y ≤ 250000000000000000 := fun h => sq_b (by omega)
  have HQX := hid hqx
  have HQY := hid hqy
  have HB1 := hid (drewNB HB0.out nq)
  clear hqx hqy
  generalize sz x = s at *
  generalize sz y = u at *
  clear hsx hsy
  go_wp2_with fail
  refine (H1.out _).mono ?_
  rintro e w' ⟨rfl, rfl⟩
  go_wp2_with fail
  refine (H2.out _).mono ?_
  rintro e w' ⟨rfl, rfl⟩
  by_cases hm : 19005440 < max s u
  · rw [if_pos hm] at HC
    go_wp2_with fail
    all_goals
      go_ret
      exact ⟨by rw [HC.out]; rfl, HB1.out⟩
  · rw [if_neg hm] at HC
    obtain ⟨p1, p2⟩ := HQX.out (by omega)
    obtain ⟨p3, p4⟩ := HQY.out (by omega)
    by_cases hd : x * x + y * y < 361206749593600
    · rw [if_pos hd] at HC
      go_wp2_with fail
      all_goals
        go_ret
        exact ⟨by rw [HC.out]; rfl, HB1.out⟩
    · rw [if_neg hd] at HC
      by_cases he : 361206749593600 < x * x + y * y
      · rw [if_pos he] at HC
        go_wp2_with fail
        all_goals
          go_ret
          exact ⟨by rw [HC.out]; rfl, HB1.out⟩
      · rw [if_neg he] at HC
        go_wp2_with fail
        all_goals
          go_ret
          exact ⟨by rw [HC.out]; rfl, HB1.out⟩
/-- Do two stones overlap? -/
def ovl (a b : StoneD) : Bool := a.ok && b.ok && contR (a.x - b.x) (a.y - b.y) == -1
set_option maxHeartbeats 1000000 in
theorem overlap1_any (a b : StoneD) (w : World) : Calls Try.prog 46 #[a.agg, b.agg] w fun e w' => e = .returned (.bool (ovl a b)) ∧ Below w.heap.size w w' := by
  have HO := hid (show ovl a b = (a.ok && b.ok && contR (a.x - b.x) (a.y - b.y) == -1) from rfl)
  obtain ⟨ta, na, xa, ya⟩ := a
  obtain ⟨tb, nb, xb, yb⟩ := b
  simp only [StoneD.ok] at HO
  have H1 := hid (fun W => checkSpot_any xa ya W)
  have H2 := hid (fun W => checkSpot_any xb yb W)
  have H3 := hid (fun (h1 : spotOk xa ya = true) (h2 : spotOk xb yb = true) W => contact_any xa ya xb yb h1 h2 W)
  generalize spotOk xa ya = b1 at *
  generalize spotOk xb yb = b2 at *
  generalize contR (xa - xb) (ya - yb) = c at *
  have hb0 : Below w.heap.size w ((w.alloc (.cells #[.int .i64 ta, .int .i64 na, .int .i64 xa, .int .i64 ya] 49)).alloc (.cells #[.int .i64 tb, .int .i64 nb, .int .i64 xb, .int .i64 yb] 49)) := ((Below.refl _ w).alloc (Nat.le_refl _) _).alloc (by simp) _
  have g2 : ((w.alloc (.cells #[.int .i64 ta, .int .i64 na, .int .i64 xa, .int .i64 ya] 49)).alloc (.cells #[.int .i64 tb, .int .i64 nb, .int .i64 xb, .int .i64 yb] 49)).cell? ⟨w.heap.size, 2, none⟩ = some (.int .i64 xa) := by simp [go_sem]
  have g3 : ((w.alloc (.cells #[.int .i64 ta, .int .i64 na, .int .i64 xa, .int .i64 ya] 49)).alloc (.cells #[.int .i64 tb, .int .i64 nb, .int .i64 xb, .int .i64 yb] 49)).cell? ⟨w.heap.size, 3, none⟩ = some (.int .i64 ya) := by simp [go_sem]
  have k2 : ((w.alloc (.cells #[.int .i64 ta, .int .i64 na, .int .i64 xa, .int .i64 ya] 49)).alloc (.cells #[.int .i64 tb, .int .i64 nb, .int .i64 xb, .int .i64 yb] 49)).cell? ⟨w.heap.size + 1, 2, none⟩ = some (.int .i64 xb) := by simp [go_sem]
  have k3 : ((w.alloc (.cells #[.int .i64 ta, .int .i64 na, .int .i64 xa, .int .i64 ya] 49)).alloc (.cells #[.int .i64 tb, .int .i64 nb, .int .i64 xb, .int .i64 yb] 49)).cell? ⟨w.heap.size + 1, 3, none⟩ = some (.int .i64 yb) := by simp [go_sem]
  go_enter Try.func46, Try.ntmps46
  go_upto_region 1 with fail
  generalize (w.alloc (.cells #[.int .i64 ta, .int .i64 na, .int .i64 xa, .int .i64 ya] 49)).alloc (.cells #[.int .i64 tb, .int .i64 nb, .int .i64 xb, .int .i64 yb] 49) = W at *
  have HB := hid hb0
  clear hb0
  have HG := hid (And.intro g2 (And.intro g3 (And.intro k2 k3)))
  cases b1
  · go_wp2_with fail
    refine (H1.out _).mono ?_
    rintro e w1 ⟨rfl, hb1⟩
    have HB1 := hid (HB.out.trans (hb1.mono HB.out.size))
    clear g2 g3 k2 k3 hb1
    go_wp2_with fail
    go_ret
    exact ⟨by rw [HO.out]; rfl, HB1.out⟩
  · cases b2
    · go_wp2_with fail
      refine (H1.out _).mono ?_
      rintro e w1 ⟨rfl, hb1⟩
      have HB1 := hid (HB.out.trans (hb1.mono HB.out.size))
      clear g2 g3 k2 k3
      have k2 := bcs hb1 HG.out.2.2.1
      have k3 := bcs hb1 HG.out.2.2.2
      clear hb1
      go_wp2_with fail
      refine (H2.out _).mono ?_
      rintro e w2 ⟨rfl, hb2⟩
      have HB2 := hid (HB1.out.trans (hb2.mono HB1.out.size))
      clear k2 k3 hb2
      go_wp2_with fail
      go_ret
      exact ⟨by rw [HO.out]; rfl, HB2.out⟩
    · go_wp2_with fail
      refine (H1.out _).mono ?_
      rintro e w1 ⟨rfl, hb1⟩
      have HB1 := hid (HB.out.trans (hb1.mono HB.out.size))
      clear g2 g3 k2 k3
      have k2 := bcs hb1 HG.out.2.2.1
      have k3 := bcs hb1 HG.out.2.2.2
      go_wp2_with fail
      refine (H2.out _).mono ?_
      rintro e w2 ⟨rfl, hb2⟩
      have HB2 := hid (HB1.out.trans (hb2.mono HB1.out.size))
      have q2 := bcs hb2 (bcs hb1 HG.out.1)
      have q3 := bcs hb2 (bcs hb1 HG.out.2.1)
      have l2 := bcs hb2 k2
      have l3 := bcs hb2 k3
      clear k2 k3 hb1 hb2
      go_wp2_with fail
      refine (H3.out (by first | rfl | trivial) (by first | rfl | trivial) _).mono ?_
      rintro e w3 ⟨rfl, hb3⟩
      have HB3 := hid (HB2.out.trans (hb3.mono HB2.out.size))
      clear q2 q3 l2 l3 hb3
      go_wp2_with fail
      go_ret
      exact ⟨by rw [HO.out]; rfl, HB3.out⟩
end Go.Proofs.Ytolnhicngepnnaa
