import Derived.Test.YtjjphiecjhijiaaDoorA7
import Derived.Test.YtjjphiecjhijiaaDoorO2
namespace Go.Proofs.YtjjphiecjhijiaaDoor
open Go.RowKit Go.Maps

/-- plant.laid of a plant that is not valid. -/
theorem laid_bad (v : Value) (p : PlantD) (w : World) (hp : PlantV w v p) (hok : p.ok = false) :
    Calls Tryd.prog 36 #[v] w fun e w' => e = .returned (.tuple #[.pointer none, .bool false]) ∧ Below w.heap.size w w' := by
  have HP := hid hp
  have HO := hid hok
  obtain ⟨vl, vp, vm, rfl, hL, hP, hM⟩ := hp
  clear hL hP hM hok
  go_enter Tryd.func36, Tryd.ntmps36
  go_upto_region 1 with fail
  obtain ⟨W0, e0, hz0', hb0, hc0, hf0⟩ := box_new w #[.int .i64 p.heat, .int .i64 p.low, .int .i64 p.high, vl, vp, vm] 25
  rw [e0]
  clear e0
  go_wp2_with fail
  refine (checkPlant_any _ p _ (HP.out.below hb0)).mono ?_
  rw [HO.out]
  rintro e w1 ⟨rfl, hb1⟩
  have hbw1 : Below w.heap.size w w1 := hb0.trans (hb1.mono (by omega))
  go_wp2_with fail
  go_ret2
  exact ⟨rfl, hbw1⟩

def badS (q : Nat) (n : Int) : Bool := !inB n 0 ((q : Int) - 1)
/-- The closure in scheduled: its variable holds the plant. -/
theorem scheduled1_any (n : Int) (bx b : Nat) (p : PlantD) (w : World) (hx : w.cell? ⟨bx, 0, none⟩ = some (.pointer (some ⟨b, 0, none⟩))) (hp : PObj w b p) (hfew : p.machines.length ≤ 4) :
    Calls Tryd.prog 81 #[.int .i64 n, .pointer (some ⟨bx, 0, none⟩)] w fun e w' => e = .returned (.bool (badS (2 ^ p.m) n)) ∧ Below w.heap.size w w' := by
  obtain ⟨vl, vp, vm, vc, vw, e0, e1, e2, e3, e4, e5, e6, e7, hl, hpp, hm, hc, hw⟩ := hp
  have hpw := pow_small (m := p.m) hfew
  obtain ⟨ac, cc, rfl, hlc, _⟩ := hc.open
  rw [coldL_length] at *
  generalize 2 ^ p.m = q at *
  clear hl hpp hm hc hw e0 e1 e2 e3 e4 e5 e7
  go_enter Tryd.func81, Tryd.ntmps81
  go_wp2_with fail
  refine (within_any _ _ _ _).mono ?_
  rintro e w' ⟨rfl, rfl⟩
  go_wp2_with fail
  go_ret
  exact ⟨rfl, Below.refl _ _⟩

theorem any_badS (q : Nat) (l : List Int) : l.any (badS q) = !l.all fun n => inB n 0 ((q : Int) - 1) := by
  induction l with
  | nil => rfl
  | cons x l ih => simp only [List.any_cons, List.all_cons, ih, badS, Bool.not_and]
theorem sched_iff (p : PlantD) (l : List Int) (hok : p.ok = true) (hl : l.length = p.loads.length) : p.sched l = !l.any (badS (2 ^ p.m)) := by
  rw [any_badS, PlantD.sched, hok, hl]
  simp

/-- plant.scheduled of a schedule that is valid. -/
theorem scheduled_yes (v u : Value) (p : PlantD) (l : List Int) (w : World) (hp : PlantV w v p) (hs : SlI w u l) (hok : p.sched l = true) :
    Calls Tryd.prog 64 #[v, u] w fun e w' => (∃ b, e = .returned (.tuple #[.pointer (some ⟨b, 0, none⟩), .bool true]) ∧ w.heap.size ≤ b ∧ PObj w' b p) ∧ Below w.heap.size w w' := by
  have hO : p.ok = true ∧ l.length = p.loads.length := by
    simp only [PlantD.sched, Bool.and_eq_true, beq_iff_eq] at hok
    exact hok.1
  obtain ⟨hO, hlen⟩ := hO
  have hany : l.any (badS (2 ^ p.m)) = false := by
    have := sched_iff p l hO hlen
    rw [hok] at this
    simpa using this.symm
  have HP := hid hp
  have HSS := hid hs
  have HO := hid hO
  have HA := hid hany
  have hfew := (ok_Ok hO).few
  obtain ⟨vl, vp, vm, rfl, hL, hP, hM⟩ := hp
  obtain ⟨al, cl, rfl, hll, _⟩ := hL.open
  obtain ⟨ar, cr, rfl, hls, _⟩ := hs.open
  have hl' : ((l.length : Int) != p.loads.length) = false := by simp [hlen]
  clear hL hP hM hs hok hO hany hlen
  go_enter Tryd.func64, Tryd.ntmps64
  go_upto_region 1 with fail
  obtain ⟨W0, e0, hz0', hb0, hc0, hf0⟩ := box_new w #[.int .i64 p.heat, .int .i64 p.low, .int .i64 p.high, .slice al p.loads.length cl, vp, vm] 25
  rw [e0]
  clear e0
  go_wp2_with fail
  refine (laid_any _ p _ (HP.out.below hb0) HO.out).mono ?_
  rintro e w1 ⟨⟨b, rfl, hbb, hobj⟩, hb1⟩
  have hlt1 : w.heap.size < W0.heap.size := by omega
  have hsz1 := hb1.size
  have d3 : w1.cell? ⟨w.heap.size, 3, none⟩ = some (.slice al p.loads.length cl) := rdB hb1 hlt1 (hc0 3)
  have hbw1 : Below w.heap.size w w1 := hb0.trans (hb1.mono (by omega))
  have HB := hid hobj
  have hblt := hobj.lt
  clear hc0 hf0 hobj
  have hws : w.heap.size < w1.heap.size := by omega
  go_wp2_with fail
  refine (contains_int 81 (.inr rfl) _ (badS (2 ^ p.m)) _ l _ (HSS.out.below (hbw1.alloc hbw1.size _)) ?_).mono ?_
  · intro x w2 hb2
    have hbx : Below w1.heap.size w1 w2 := ((Below.refl _ _).alloc (Nat.le_refl _) _).trans (hb2.mono (by simp))
    have := scheduled1_any x w1.heap.size b p w2 (bcs hb2 (by simp)) (HB.out.below hbx) hfew
    simpa using this
  · rw [HA.out]
    rintro e w2 ⟨rfl, hb2⟩
    have k0 : w2.cell? ⟨w1.heap.size, 0, none⟩ = some (.pointer (some ⟨b, 0, none⟩)) := bcs hb2 (by simp)
    have hbx : Below w1.heap.size w1 w2 := ((Below.refl _ _).alloc (Nat.le_refl _) _).trans (hb2.mono (by simp))
    have hbo := hid (HB.out.below hbx)
    go_wp2_with fail
    go_ret2
    exact ⟨⟨b, rfl, by omega, hbo.out⟩, hbw1.trans (hbx.mono (by omega))⟩

/-- plant.scheduled of one that is not. -/
theorem scheduled_no (v u : Value) (p : PlantD) (l : List Int) (w : World) (hp : PlantV w v p) (hs : SlI w u l) (hok : p.sched l = false) :
    Calls Tryd.prog 64 #[v, u] w fun e w' => e = .returned (.tuple #[.pointer none, .bool false]) ∧ Below w.heap.size w w' := by
  have HP := hid hp
  have HSS := hid hs
  obtain ⟨vl, vp, vm, rfl, hL, hP, hM⟩ := hp
  obtain ⟨al, cl, rfl, hll, _⟩ := hL.open
  obtain ⟨ar, cr, rfl, hls, _⟩ := hs.open
  have HK := hid hok
  clear hL hP hM hs hok
  cases hO : p.ok
  · have HO := hid hO
    clear hO
    go_enter Tryd.func64, Tryd.ntmps64
    go_upto_region 1 with fail
    obtain ⟨W0, e0, hz0', hb0, hc0, hf0⟩ := box_new w #[.int .i64 p.heat, .int .i64 p.low, .int .i64 p.high, .slice al p.loads.length cl, vp, vm] 25
    rw [e0]
    clear e0
    go_wp2_with fail
    refine (laid_bad _ p _ (HP.out.below hb0) HO.out).mono ?_
    rintro e w1 ⟨rfl, hb1⟩
    have hbw1 : Below w.heap.size w w1 := hb0.trans (hb1.mono (by omega))
    go_wp2_with fail
    go_ret2
    exact ⟨rfl, hbw1.alloc hbw1.size _⟩
  · have HO := hid hO
    have hfew := (ok_Ok hO).few
    by_cases hlen : l.length = p.loads.length
    · have hany : l.any (badS (2 ^ p.m)) = true := by
        have := sched_iff p l hO hlen
        rw [HK.out] at this
        simpa using this.symm
      have HA := hid hany
      have hl' : ((l.length : Int) != p.loads.length) = false := by simp [hlen]
      clear hO hany hlen
      go_enter Tryd.func64, Tryd.ntmps64
      go_upto_region 1 with fail
      obtain ⟨W0, e0, hz0', hb0, hc0, hf0⟩ := box_new w #[.int .i64 p.heat, .int .i64 p.low, .int .i64 p.high, .slice al p.loads.length cl, vp, vm] 25
      rw [e0]
      clear e0
      go_wp2_with fail
      refine (laid_any _ p _ (HP.out.below hb0) HO.out).mono ?_
      rintro e w1 ⟨⟨b, rfl, hbb, hobj⟩, hb1⟩
      have hlt1 : w.heap.size < W0.heap.size := by omega
      have hsz1 := hb1.size
      have d3 : w1.cell? ⟨w.heap.size, 3, none⟩ = some (.slice al p.loads.length cl) := rdB hb1 hlt1 (hc0 3)
      have hbw1 : Below w.heap.size w w1 := hb0.trans (hb1.mono (by omega))
      have HB := hid hobj
      have hblt := hobj.lt
      clear hc0 hf0 hobj
      have hws : w.heap.size < w1.heap.size := by omega
      go_wp2_with fail
      refine (contains_int 81 (.inr rfl) _ (badS (2 ^ p.m)) _ l _ (HSS.out.below (hbw1.alloc hbw1.size _)) ?_).mono ?_
      · intro x w2 hb2
        have hbx : Below w1.heap.size w1 w2 := ((Below.refl _ _).alloc (Nat.le_refl _) _).trans (hb2.mono (by simp))
        have := scheduled1_any x w1.heap.size b p w2 (bcs hb2 (by simp)) (HB.out.below hbx) hfew
        simpa using this
      · rw [HA.out]
        rintro e w2 ⟨rfl, hb2⟩
        have hbx : Below w1.heap.size w1 w2 := ((Below.refl _ _).alloc (Nat.le_refl _) _).trans (hb2.mono (by simp))
        go_wp2_with fail
        go_ret2
        exact ⟨rfl, hbw1.trans (hbx.mono (by omega))⟩
    · have hl' : ((l.length : Int) != p.loads.length) = true := by simp; omega
      clear hO hlen
      go_enter Tryd.func64, Tryd.ntmps64
      go_upto_region 1 with fail
      obtain ⟨W0, e0, hz0', hb0, hc0, hf0⟩ := box_new w #[.int .i64 p.heat, .int .i64 p.low, .int .i64 p.high, .slice al p.loads.length cl, vp, vm] 25
      rw [e0]
      clear e0
      go_wp2_with fail
      refine (laid_any _ p _ (HP.out.below hb0) HO.out).mono ?_
      rintro e w1 ⟨⟨b, rfl, hbb, hobj⟩, hb1⟩
      have hlt1 : w.heap.size < W0.heap.size := by omega
      have hsz1 := hb1.size
      have d3 : w1.cell? ⟨w.heap.size, 3, none⟩ = some (.slice al p.loads.length cl) := rdB hb1 hlt1 (hc0 3)
      have hbw1 : Below w.heap.size w w1 := hb0.trans (hb1.mono (by omega))
      have hws : w.heap.size < w1.heap.size := by omega
      clear hc0 hf0 hobj
      go_wp2_with fail
      go_ret2
      exact ⟨rfl, hbw1.alloc hbw1.size _⟩
end Go.Proofs.YtjjphiecjhijiaaDoor
