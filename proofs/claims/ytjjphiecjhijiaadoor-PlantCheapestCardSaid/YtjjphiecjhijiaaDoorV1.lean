import Derived.Test.YtjjphiecjhijiaaDoorW2
import Derived.Test.YtjjphiecjhijiaaDoorG1
import Derived.Test.YtjjphiecjhijiaaDoorL4
namespace Go.Proofs.YtjjphiecjhijiaaDoor
open Go.RowKit Go.Maps

/-- A plant in a box. -/
def BoxP (w : World) (B : Nat) (h l g : Int) (v1 v2 v3 : Value) : Prop :=
  w.cell? ⟨B, 0, none⟩ = some (.int .i64 h) ∧ w.cell? ⟨B, 1, none⟩ = some (.int .i64 l) ∧ w.cell? ⟨B, 2, none⟩ = some (.int .i64 g) ∧ w.cell? ⟨B, 3, none⟩ = some v1 ∧ w.cell? ⟨B, 4, none⟩ = some v2 ∧ w.cell? ⟨B, 5, none⟩ = some v3
theorem BoxP.below {w w' : World} {B : Nat} {h l g : Int} {v1 v2 v3 : Value} (hb : BoxP w B h l g v1 v2 v3) (k : Below w.heap.size w w') : BoxP w' B h l g v1 v2 v3 :=
  ⟨bcs k hb.1, bcs k hb.2.1, bcs k hb.2.2.1, bcs k hb.2.2.2.1, bcs k hb.2.2.2.2.1, bcs k hb.2.2.2.2.2⟩
theorem box_plant (w : World) (h l g : Int) (v1 v2 v3 : Value) : ∃ W0, w.alloc (.cells #[.int .i64 h, .int .i64 l, .int .i64 g, v1, v2, v3] 25) = W0 ∧ Below w.heap.size w W0 ∧ BoxP W0 w.heap.size h l g v1 v2 v3 := by
  refine ⟨_, rfl, (Below.refl _ _).alloc (Nat.le_refl _) _, cell_new w _ _ 0 _ rfl, cell_new w _ _ 1 _ rfl, cell_new w _ _ 2 _ rfl, cell_new w _ _ 3 _ rfl, cell_new w _ _ 4 _ rfl, cell_new w _ _ 5 _ rfl⟩
def True1 (w : World) (e : Ending) (w' : World) : Prop := e = .returned (.bool true) ∧ Below w.heap.size w w'

set_option maxRecDepth 100000 in
set_option maxHeartbeats 1000000 in
/-- besomlaw12.PlantCools returns true. -/
theorem cools_any (v : Value) (p : PlantD) (w : World) (hp : PlantV w v p) (hT : TabW w) : Calls Tryd.prog 3 #[v] w (True1 w) := by
  have HP := hid hp
  have HT := hid hT
  obtain ⟨vl, vp, vm, rfl, hL, hP, hM⟩ := hp
  obtain ⟨al, cl, rfl, hll, _⟩ := hL.open
  clear hL hP hM hT
  go_enter Tryd.func3, Tryd.ntmps3
  go_upto_region 1 with fail
  obtain ⟨W0, e0, hb0, hbox⟩ := box_plant w p.heat p.low p.high (.slice al p.loads.length cl) vp vm
  rw [e0]
  clear e0
  obtain ⟨c0, c1, c2, c3, c4, c5⟩ := hbox
  have HBX := hid (show BoxP W0 w.heap.size p.heat p.low p.high (.slice al p.loads.length cl) vp vm from ⟨c0, c1, c2, c3, c4, c5⟩)
  have HB0 := hid hb0
  have HG := hid (great_any _ p W0 (HP.out.below hb0))
  generalize hgr : p.great = gr at *
  clear hb0 hgr
  go_wp2_with fail
  refine HG.out.mono ?_
  rintro e W1 ⟨rfl, hb1⟩
  have HB1 := hid (HB0.out.trans (hb1.mono HB0.out.size))
  have HBX1 := hid (HBX.out.below hb1)
  clear hb1 c0 c1 c2 c3 c4 c5 HG
  cases gr with
  | true =>
    go_wp2_with fail
    refine (awake_any W1 (HT.out.below' HB1.out)).mono ?_
    rintro e W2 ⟨rfl, hb2⟩
    have HB2 := hid (HB1.out.trans (hb2.mono HB1.out.size))
    clear hb2
    go_wp2_with fail
    go_ret
    exact ⟨rfl, HB2.out⟩
  | false =>
    obtain ⟨c0, c1, c2, c3, c4, c5⟩ := HBX1.out
    go_wp2_with fail
    refine (cool_any _ p W1 (HP.out.below HB1.out) (HT.out.below' HB1.out)).mono ?_
    rintro e W2 ⟨l1, rfl, hl1, hb2⟩
    have HL1 := hid hl1
    have HBX2 := hid (HBX1.out.below hb2)
    have HB2 := hid (HB1.out.trans (hb2.mono HB1.out.size))
    clear hl1 hb2 c0 c1 c2 c3 c4 c5
    obtain ⟨c0, c1, c2, c3, c4, c5⟩ := HBX2.out
    go_wp2_with fail
    refine (refCool_any _ p W2 (HP.out.below HB2.out)).mono ?_
    rintro e W3 ⟨l2, rfl, hl2, hb3⟩
    have HL2 := hid hl2
    have HL1 := hid (HL1.out.below hb3)
    have HB3 := hid (HB2.out.trans (hb3.mono HB2.out.size))
    clear hl2 hb3 c0 c1 c2 c3 c4 c5
    have hcc : (p.coolC == p.coolC) = true := by simp
    have hee : (p.coolE == p.coolE) = true := by simp
    generalize p.coolC = C at *
    generalize p.coolE = E at *
    go_wp2_with fail
    refine (ints_any _ _ _ _ W3 HL1.out HL2.out).mono ?_
    rintro e W4 ⟨rfl, hb4⟩
    rw [same_refl]
    have HB4 := hid (HB3.out.trans (hb4.mono HB3.out.size))
    clear hb4
    go_wp2_with fail
    refine (awake_any W4 (HT.out.below' HB4.out)).mono ?_
    rintro e W5 ⟨rfl, hb5⟩
    have HB5 := hid (HB4.out.trans (hb5.mono HB4.out.size))
    clear hb5
    go_wp2_with fail
    go_ret
    exact ⟨rfl, HB5.out⟩
end Go.Proofs.YtjjphiecjhijiaaDoor
