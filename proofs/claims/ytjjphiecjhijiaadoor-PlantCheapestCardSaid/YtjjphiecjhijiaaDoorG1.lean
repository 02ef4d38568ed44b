import Derived.Test.YtjjphiecjhijiaaDoorL4
namespace Go.Proofs.YtjjphiecjhijiaaDoor
open Go.RowKit Go.Maps

/-- Is the plant too great for the law? -/
def PlantD.great (p : PlantD) : Bool :=
  (decide (p.loads.length > 12) && decide (p.loads.length ≤ 48)) || decide (p.loads.length > 60) || decide (p.prices.length > 60) || (decide (p.machines.length > 3) && decide (p.machines.length ≤ 4)) || decide (p.machines.length > 6)

set_option maxRecDepth 100000 in
set_option maxHeartbeats 1000000 in
/-- besomlaw12.great -/
theorem great_any (v : Value) (p : PlantD) (w : World) (hp : PlantV w v p) :
    Calls Tryd.prog 10 #[v] w fun e w' => e = .returned (.bool p.great) ∧ Below w.heap.size w w' := by
  obtain ⟨vl, vp, vm, rfl, hL, hP, hM⟩ := hp
  obtain ⟨al, cl, rfl, hll, _⟩ := hL.open
  obtain ⟨ap, cp, rfl, hpl, _⟩ := hP.open
  obtain ⟨am, cm, rfl, hml, _⟩ := hM.open
  clear hL hP hM
  go_enter Tryd.func10, Tryd.ntmps10
  go_upto_region 1 with fail
  obtain ⟨W0, e0, hz0', hb0, hc0, hf0⟩ := box_new w #[.int .i64 p.heat, .int .i64 p.low, .int .i64 p.high, .slice al p.loads.length cl, .slice ap p.prices.length cp, .slice am p.machines.length cm] 25
  rw [e0]
  clear e0
  have x3 : W0.cell? ⟨w.heap.size, 3, none⟩ = some (.slice al p.loads.length cl) := hc0 3
  have x4 : W0.cell? ⟨w.heap.size, 4, none⟩ = some (.slice ap p.prices.length cp) := hc0 4
  have x5 : W0.cell? ⟨w.heap.size, 5, none⟩ = some (.slice am p.machines.length cm) := hc0 5
  have HB := hid hb0
  clear hc0 hf0 hb0 hz0'
  have HG := hid (show p.great = ((decide ((p.loads.length : Int) > 12) && decide ((p.loads.length : Int) ≤ 48)) || decide ((p.loads.length : Int) > 60) || decide ((p.prices.length : Int) > 60) || (decide ((p.machines.length : Int) > 3) && decide ((p.machines.length : Int) ≤ 4)) || decide ((p.machines.length : Int) > 6)) by
    unfold PlantD.great
    have e1 : decide ((p.loads.length : Int) > 12) = decide (p.loads.length > 12) := decide_eq_decide.2 (by omega)
    have e2 : decide ((p.loads.length : Int) ≤ 48) = decide (p.loads.length ≤ 48) := decide_eq_decide.2 (by omega)
    have e3 : decide ((p.loads.length : Int) > 60) = decide (p.loads.length > 60) := decide_eq_decide.2 (by omega)
    have e4 : decide ((p.prices.length : Int) > 60) = decide (p.prices.length > 60) := decide_eq_decide.2 (by omega)
    have e5 : decide ((p.machines.length : Int) > 3) = decide (p.machines.length > 3) := decide_eq_decide.2 (by omega)
    have e6 : decide ((p.machines.length : Int) ≤ 4) = decide (p.machines.length ≤ 4) := decide_eq_decide.2 (by omega)
    have e7 : decide ((p.machines.length : Int) > 6) = decide (p.machines.length > 6) := decide_eq_decide.2 (by omega)
    rw [e1, e2, e3, e4, e5, e6, e7])
  generalize hb1 : decide ((p.loads.length : Int) > 12) = b1 at *
  generalize hb2 : decide ((p.loads.length : Int) ≤ 48) = b2 at *
  generalize hb3 : decide ((p.loads.length : Int) > 60) = b3 at *
  generalize hb4 : decide ((p.prices.length : Int) > 60) = b4 at *
  generalize hb5 : decide ((p.machines.length : Int) > 3) = b5 at *
  generalize hb6 : decide ((p.machines.length : Int) ≤ 4) = b6 at *
  generalize hb7 : decide ((p.machines.length : Int) > 6) = b7 at *
  cases b1 <;> cases b2 <;> cases b3 <;> cases b4 <;> cases b5 <;> cases b6 <;> cases b7
  all_goals
    go_wp2_with fail
    go_ret
    exact ⟨by rw [HG.out]; rfl, HB.out⟩
end Go.Proofs.YtjjphiecjhijiaaDoor
