import Derived.Test.YtjjphiecjhijiaaDoorA5
import Derived.Maps.AppendAt
namespace Go.Proofs.YtjjphiecjhijiaaDoor
open Go.RowKit Go.Maps

theorem info3 : (Tryd.prog.info? 3).map (fun i => (i.zero, i.size, i.bytes)) = some (some (.int .i64 0), 1, 8) := by kernel_rfl

/-- What the call owns as a row of ints reads as a slice of ints. -/
theorem own_SlI {w : World} {B n : Nat} {v : Value} {l : List Int} (h : w.ownsRow B 3 1 v n (l.map (.int .i64))) (hn : l.length ≤ 140737488351232) : SlI w v l := by
  have hlen : n = l.length := by have := h.1; simp at this; omega
  subst hlen
  rcases h.2 with ⟨rfl, h0⟩ | ⟨g, cap, cur, rfl, hg, hh, hnc, hcm, hcs, htake⟩
  · have : l = [] := List.length_eq_zero_iff.1 h0
    subst this
    exact ⟨none, 0, rfl, by simp, .inl rfl⟩
  · refine ⟨_, cap, rfl, hn, .inr ⟨g, 0, rfl, (Array.getElem?_eq_some_iff.1 hh).1, ?_⟩⟩
    intro i hi
    rw [Nat.zero_add, cell_of_row w g i cur 3 _ hh]
    have hi' : i < l.length := by simpa using hi
    have h2 : cur.toList[i]? = (l.map (Value.int .i64))[i]? := by
      rw [← htake, List.getElem?_take_of_lt (by omega)]
    rw [← Array.getElem?_toList, h2, List.getElem?_eq_getElem hi]

theorem own_below {w w' : World} {B : Nat} {t : TypeId} {sz n : Nat} {v : Value} {xs : List Value} (h : w.ownsRow B t sz v n xs) (hb : Below w.heap.size w w') : w'.ownsRow B t sz v n xs :=
  h.kept (row := none) ⟨hb.os, hb.tape, hb.output, hb.size, fun k hk _ => hb.block k hk⟩ (by cases e : v.ownBlock <;> simp)
theorem ones (x : Value) (hx : x.oneCell' = true) : ∀ u ∈ [x], u.oneCell' = true := by intro u hu; simp at hu; subst hu; exact hx

def errOf (b : Bool) : Int := if b then 0 else 2
def PlantD.heatsR (p : PlantD) (l : List Int) : List Int := if p.sched l then p.heats l l.length else []
def PlantD.costR (p : PlantD) (l : List Int) : Int := if p.sched l then p.costAt l l.length else 0
def SlIE (l : List Int) (err : Int) (w : World) (e : Ending) (w' : World) : Prop := ∃ v, e = .returned (.tuple #[v, .int .i64 err]) ∧ SlI w' v l ∧ Below w.heap.size w w'
theorem nil_SlI (w : World) : SlI w (.slice none 0 0) [] := ⟨none, 0, rfl, by simp, .inl rfl⟩

set_option maxHeartbeats 400000 in
/-- besomref12.Heats -/
theorem refHeats_any (v u : Value) (p : PlantD) (l : List Int) (w : World) (hp : PlantV w v p) (hs : SlI w u l) :
    Calls Tryd.prog 16 #[v, u] w (SlIE (p.heatsR l) (errOf (p.sched l)) w) := by
  have HP := hid hp
  have HSS := hid hs
  obtain ⟨vl, vp, vm, rfl, hL, hP, hM⟩ := hp
  obtain ⟨ar, cr, rfl, hls, hsc⟩ := hs.open
  have HS := hid hsc
  clear hsc hL hP hM hs
  obtain ⟨i0, hi, hz0, hz1, hz2⟩ := info_parts info3
  go_enter Tryd.func16, Tryd.ntmps16
  go_upto_region 1 with fail
  obtain ⟨W0, e0, hz0', hb0, hc0, hf0⟩ := box_new w #[.int .i64 p.heat, .int .i64 p.low, .int .i64 p.high, vl, vp, vm] 25
  rw [e0]
  clear e0
  go_wp2_with fail
  refine (schedule_any _ _ p l _ (HP.out.below hb0) (HSS.out.below hb0)).mono ?_
  rintro e w1 ⟨rfl, hb1⟩
  have hlt1 : w.heap.size < W0.heap.size := by omega
  have hsz1 := hb1.size
  have d0 : w1.cell? ⟨w.heap.size, 0, none⟩ = some (.int .i64 p.heat) := rdB hb1 hlt1 (hc0 0)
  have d1 : w1.cell? ⟨w.heap.size, 1, none⟩ = some (.int .i64 p.low) := rdB hb1 hlt1 (hc0 1)
  have d2 : w1.cell? ⟨w.heap.size, 2, none⟩ = some (.int .i64 p.high) := rdB hb1 hlt1 (hc0 2)
  have d3 : w1.cell? ⟨w.heap.size, 3, none⟩ = some vl := rdB hb1 hlt1 (hc0 3)
  have d4 : w1.cell? ⟨w.heap.size, 4, none⟩ = some vp := rdB hb1 hlt1 (hc0 4)
  have d5 : w1.cell? ⟨w.heap.size, 5, none⟩ = some vm := rdB hb1 hlt1 (hc0 5)
  have hbw1 : Below w.heap.size w w1 := hb0.trans (hb1.mono (by omega))
  clear hc0 hf0
  cases hok : p.sched l
  · go_wp2_with fail
    go_ret2
    exact ⟨_, by rw [hok]; rfl, by rw [PlantD.heatsR, hok]; exact nil_SlI _, hbw1⟩
  · have HO := hid hok
    have hl48 : l.length ≤ 48 ∧ l.length = p.loads.length := by
      simp only [PlantD.sched, Bool.and_eq_true, beq_iff_eq] at hok
      have := (ok_Ok hok.1.1).day
      omega
    obtain ⟨hl48, hll⟩ := hl48
    have HLL := hid hll
    have ho : p.Ok := by
      simp only [PlantD.sched, Bool.and_eq_true] at hok
      exact ok_Ok hok.1.1
    have HN := hid (sched_num hok)
    clear hok hll
    go_wp2_with fail
    go_loopw [6, 7, 8] (fun v h i wr => ∃ k : Nat, k ≤ l.length ∧ i = .int .i64 k ∧ h = .int .i64 (p.heatAt l k) ∧ wr.ownsRow w1.heap.size 3 1 v k ((p.heats l k).map (.int .i64)) ∧ Below w1.heap.size w1 wr) (fun _ _ i _ => l.length - (intOf i).toNat)
    case atStart => exact ⟨0, Nat.zero_le _, rfl, rfl, World.ownsRow_nil _ _ _ _, Below.refl _ _⟩
    case round =>
      obtain ⟨k, hk, rfl, rfl, hown, hb⟩ := hrel
      have f0 := rdB hb (by omega) d0
      have f1 := rdB hb (by omega) d1
      have f2 := rdB hb (by omega) d2
      have f3 := rdB hb (by omega) d3
      have f4 := rdB hb (by omega) d4
      have f5 := rdB hb (by omega) d5
      have hbwr : Below w.heap.size w wr := hbw1.trans (hb.mono (by omega))
      have hbd := heatAt_bd ho l k
      clear d0 d1 d2 d3 d4 d5
      by_cases hlt : k < l.length
      · obtain ⟨b, off, rfl, hbl, hc⟩ := HS.out k hlt
        have x0 := rdB hbwr hbl (hc k hlt)
        obtain ⟨hx, hx2⟩ := HN.out k hlt
        rw [hx] at x0
        have hpw := pow_small (m := p.m) ho.few
        have hn16 : num l k ≤ 16 := by omega
        have hhr : k < p.loads.length := by have := HLL.out; omega
        clear hc HS hx hx2
        have HH := hid (show p.heatAt l (k + 1) = p.next k (p.heatAt l k) (num l k) from rfl)
        have hnb := Ok_next ho k (num l k) (p.heatAt l k) 100000000 (by omega) (by omega) (by omega)
        have HHS := hid (heats_succ p l k)
        have hHL := heats_length p l k
        generalize hq : p.heatAt l k = ht at *
        clear hq
        generalize hnx : p.next k ht (num l k) = nx at *
        have HNX := hid hnx
        clear hnx
        generalize num l k = n at *
        go_wp2_with fail
        go_region_held3 (fun w' => w'.cell? ⟨b, off + k, none⟩ = some (.int .i64 n) ∧ w'.cell? ⟨w.heap.size, 0, none⟩ = some (.int .i64 p.heat) ∧ w'.cell? ⟨w.heap.size, 1, none⟩ = some (.int .i64 p.low) ∧ w'.cell? ⟨w.heap.size, 2, none⟩ = some (.int .i64 p.high) ∧ w'.cell? ⟨w.heap.size, 3, none⟩ = some vl ∧ w'.cell? ⟨w.heap.size, 4, none⟩ = some vp ∧ w'.cell? ⟨w.heap.size, 5, none⟩ = some vm)
          (first | go_keep | (refine ⟨?_, ?_, ?_, ?_, ?_, ?_, ?_⟩ <;> (refine bcs (by assumption) ?_; simp [*])))
          (first | (go_at_call 41; refine (behind_any _ p k n ht _ (HP.out.below hbwr.drew) ho hhr hn16 (by omega) (by omega)).mono ?_; rintro e w2 ⟨rfl, hb2⟩))
        rw [HNX.out]
        have hb3 : Below w1.heap.size w1 w2 := (hb.drew).trans (hb2.mono hb.size)
        have hown2 := own_below hown.drew hb2
        have hszb := hb3.size
        clear f0 f1 f2 f3 f4 f5 hown
        go_wp2_with (at_builtin; refine wpList_append_own _ rfl _ _ 22 rfl w1.heap.size 3 i0 (.int .i64 0) 1 8 Tryd.underlying22 hi hz0 hz1 hz2 rfl (by decide) _ _ _ rfl (hown2.alloc _) ⟨w2.heap.size, 0, none⟩ 1 1 [.int .i64 nx] rfl rfl (cell_one_new _ _ _) (ones _ rfl) (by unfold maxLen; omega) (by omega) (by simp; omega) ?_; intro v' w3 hown3 hgrow3 _)
        have hb4 : Below w1.heap.size w1 w3 := (hb3.alloc hszb _).grown hgrow3 (by simp; omega) (fun j hj => (hown2.lt j hj).1)
        go_roundw
        case rel => exact ⟨k + 1, by omega, by go_num, by rw [HH.out], by rw [HHS.out, List.map_append, HH.out]; exact hown3, hb4⟩
        case measure => simp [intOf]; omega
      · go_wp2_with fail
        go_ret2
        have hkl : k = l.length := by omega
        subst hkl
        refine ⟨_, by rw [HO.out]; rfl, ?_, hbwr⟩
        rw [PlantD.heatsR, if_pos HO.out]
        exact own_SlI hown (by rw [heats_length]; omega)

set_option maxHeartbeats 400000 in
/-- besomref12.Cost -/
theorem refCost_any (v u : Value) (p : PlantD) (l : List Int) (w : World) (hp : PlantV w v p) (hs : SlI w u l) :
    Calls Tryd.prog 17 #[v, u] w fun e w' => e = .returned (.tuple #[.int .i64 (p.costR l), .int .i64 (errOf (p.sched l))]) ∧ Below w.heap.size w w' := by
  have HP := hid hp
  have HSS := hid hs
  obtain ⟨vl, vp, vm, rfl, hL, hP, hM⟩ := hp
  obtain ⟨ar, cr, rfl, hls, hsc⟩ := hs.open
  have HS := hid hsc
  clear hsc hL hP hM hs
  go_enter Tryd.func17, Tryd.ntmps17
  go_upto_region 1 with fail
  obtain ⟨W0, e0, hz0', hb0, hc0, hf0⟩ := box_new w #[.int .i64 p.heat, .int .i64 p.low, .int .i64 p.high, vl, vp, vm] 25
  rw [e0]
  clear e0
  go_wp2_with fail
  refine (schedule_any _ _ p l _ (HP.out.below hb0) (HSS.out.below hb0)).mono ?_
  rintro e w1 ⟨rfl, hb1⟩
  have hlt1 : w.heap.size < W0.heap.size := by omega
  have hsz1 := hb1.size
  have d0 : w1.cell? ⟨w.heap.size, 0, none⟩ = some (.int .i64 p.heat) := rdB hb1 hlt1 (hc0 0)
  have d1 : w1.cell? ⟨w.heap.size, 1, none⟩ = some (.int .i64 p.low) := rdB hb1 hlt1 (hc0 1)
  have d2 : w1.cell? ⟨w.heap.size, 2, none⟩ = some (.int .i64 p.high) := rdB hb1 hlt1 (hc0 2)
  have d3 : w1.cell? ⟨w.heap.size, 3, none⟩ = some vl := rdB hb1 hlt1 (hc0 3)
  have d4 : w1.cell? ⟨w.heap.size, 4, none⟩ = some vp := rdB hb1 hlt1 (hc0 4)
  have d5 : w1.cell? ⟨w.heap.size, 5, none⟩ = some vm := rdB hb1 hlt1 (hc0 5)
  have hbw1 : Below w.heap.size w w1 := hb0.trans (hb1.mono (by omega))
  clear hc0 hf0
  cases hok : p.sched l
  · have HO := hid hok
    clear hok
    go_wp2_with fail
    go_ret2
    exact ⟨by rw [HO.out, PlantD.costR, HO.out]; rfl, hbw1⟩
  · have HO := hid hok
    have hl48 : l.length ≤ 48 ∧ l.length = p.loads.length := by
      simp only [PlantD.sched, Bool.and_eq_true, beq_iff_eq] at hok
      have := (ok_Ok hok.1.1).day
      omega
    obtain ⟨hl48, hll⟩ := hl48
    have HLL := hid hll
    have ho : p.Ok := by
      simp only [PlantD.sched, Bool.and_eq_true] at hok
      exact ok_Ok hok.1.1
    have HN := hid (sched_num hok)
    clear hok hll
    go_wp2_with fail
    go_loopw [6, 7, 8] (fun s h i wr => ∃ k : Nat, k ≤ l.length ∧ i = .int .i64 k ∧ s = .int .i64 (p.costAt l k) ∧ h = .int .i64 (before l k) ∧ before l k ≤ 16 ∧ Below w1.heap.size w1 wr) (fun _ _ i _ => l.length - (intOf i).toNat)
    case atStart => exact ⟨0, Nat.zero_le _, rfl, rfl, rfl, by simp [before], Below.refl _ _⟩
    case round =>
      obtain ⟨k, hk, rfl, rfl, rfl, hbf, hb⟩ := hrel
      have f0 := rdB hb (by omega) d0
      have f1 := rdB hb (by omega) d1
      have f2 := rdB hb (by omega) d2
      have f3 := rdB hb (by omega) d3
      have f4 := rdB hb (by omega) d4
      have f5 := rdB hb (by omega) d5
      have hbwr : Below w.heap.size w wr := hbw1.trans (hb.mono (by omega))
      have hbd := costAt_bd ho l k
      clear d0 d1 d2 d3 d4 d5
      by_cases hlt : k < l.length
      · obtain ⟨b, off, rfl, hbl, hc⟩ := HS.out k hlt
        obtain ⟨hx, hx2⟩ := HN.out k hlt
        have xw := hc k hlt
        rw [hx] at xw
        have x0 := rdB hbwr hbl xw
        have hpw := pow_small (m := p.m) ho.few
        have hn16 : num l k ≤ 16 := by omega
        have hhr : k < p.loads.length := by have := HLL.out; omega
        clear hc HS hx hx2
        have HH := hid (show p.costAt l (k + 1) = p.costAt l k + p.hcost k (before l k) (num l k) from rfl)
        have HB := hid (show before l (k + 1) = num l k from rfl)
        have hnb := Ok_hcost ho k (before l k) (num l k)
        generalize hq : p.costAt l k = ct at *
        clear hq
        generalize hnx : p.hcost k (before l k) (num l k) = nx at *
        have HNX := hid hnx
        clear hnx
        generalize before l k = bf at *
        generalize num l k = n at *
        have XW := hid xw
        clear xw
        go_wp2_with fail
        go_upto_region 7 with fail
        have hsum : IntKind.i64.wrap (ct + nx) = ct + nx := IntWalk.i64_in _ (by omega)
        go_region_held3 (fun w' => w'.cell? ⟨b, off + k, none⟩ = some (.int .i64 n) ∧ w'.cell? ⟨w.heap.size, 0, none⟩ = some (.int .i64 p.heat) ∧ w'.cell? ⟨w.heap.size, 1, none⟩ = some (.int .i64 p.low) ∧ w'.cell? ⟨w.heap.size, 2, none⟩ = some (.int .i64 p.high) ∧ w'.cell? ⟨w.heap.size, 3, none⟩ = some vl ∧ w'.cell? ⟨w.heap.size, 4, none⟩ = some vp ∧ w'.cell? ⟨w.heap.size, 5, none⟩ = some vm)
          (first | go_keep | (refine ⟨?_, ?_, ?_, ?_, ?_, ?_, ?_⟩ <;> (refine bcs (by assumption) ?_; simp [*])))
          (first | (go_at_call 42; refine (costs_any _ p k bf n _ (HP.out.below hbwr.drew) ho hhr hn16 hbf).mono ?_; rw [HNX.out]; rintro e w2 ⟨rfl, hb2⟩))
        clear hsum
        have hb3 : Below w1.heap.size w1 w2 := (hb.drew).trans (hb2.mono hb.size)
        have x1 := rdB (hb0.trans ((hb1.mono (by omega)).trans (hb3.mono (by omega)))) hbl XW.out
        clear f0 f1 f2 f3 f4 f5
        go_wp2_with fail
        go_roundw
        case rel => exact ⟨k + 1, by omega, by go_num, by rw [HH.out], by rw [HB.out], by rw [HB.out]; exact hn16, hb3⟩
        case measure => simp [intOf]; omega
      · go_wp2_with fail
        go_ret2
        have hkl : k = l.length := by omega
        subst hkl
        exact ⟨by rw [HO.out, PlantD.costR, if_pos HO.out]; rfl, hbwr⟩
end Go.Proofs.YtjjphiecjhijiaaDoor
