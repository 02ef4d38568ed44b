import Derived.Test.YtjjphiecjhijiaaDoorA2
namespace Go.Proofs.YtjjphiecjhijiaaDoor
open Go.RowKit

/-- besomref12.amounts -/
theorem amounts_any (v : Value) (l : List Int) (w : World) (hs : SlI w v l) :
    Calls Tryd.prog 44 #[v] w fun e w' => e = .returned (.bool (fewB l)) ∧ w = w' := by
  obtain ⟨a, cap, rfl, hl, hc⟩ := hs.open
  have HC := hid hc
  clear hc hs
  go_enter Tryd.func44, Tryd.ntmps44
  go_wp2
  go_loop [3] (fun i => ∃ k : Nat, k ≤ l.length ∧ i = .int .i64 k ∧ ∀ j (h : j < l.length), j < k → okN l[j] = true) (fun i => l.length - (intOf i).toNat)
  case atStart => exact ⟨0, Nat.zero_le _, rfl, by omega⟩
  case round =>
    obtain ⟨k, hk, rfl, hno⟩ := hrel
    have HN := hid hno
    clear hno
    by_cases hlt : k < l.length
    · obtain ⟨b, off, rfl, hbl, hc⟩ := HC.out k hlt
      have hx := hc k hlt
      clear hc HC
      generalize hxe : l[k] = x at hx
      have HX := hid hxe
      clear hxe
      by_cases hp : inB x 0 1000000 = true
      · go_wp2_with (go_at_call 43; refine (in_any _ _ _ _).mono ?_; rintro e w' ⟨rfl, rfl⟩)
        go_round
        case rel =>
          refine ⟨k + 1, by omega, by go_num, ?_⟩
          intro j hj hjk
          by_cases e : j = k
          · subst e; rw [HX.out]; exact hp
          · exact HN.out j hj (by omega)
        case measure => simp [intOf]; omega
      · have hp' : inB x 0 1000000 = false := by simpa using hp
        go_wp2_with (go_at_call 43; refine (in_any _ _ _ _).mono ?_; rintro e w' ⟨rfl, rfl⟩)
        go_ret
        refine ⟨ret_bool ?_, rfl⟩
        have : l.any badN = true := List.any_eq_true.2 ⟨l[k], List.getElem_mem _, by rw [HX.out]; simp [badN, okN, hp']⟩
        simp [fewB, this]
    · go_wp2
      go_ret
      refine ⟨ret_bool ?_, rfl⟩
      have : l.any badN = false := by
        rw [List.any_eq_false]
        intro x hx
        obtain ⟨j, hj, rfl⟩ := List.getElem_of_mem hx
        simp [badN, HN.out j hj (by omega)]
      simp [fewB, this]

def PlantD.refOk (p : PlantD) : Bool := inB p.low (-1000000) 1000000 && decide (p.low ≤ p.high) && decide (p.high ≤ p.low + 1000) && inB p.heat p.low p.high
theorem refOk_band (p : PlantD) : p.refOk = p.band := by
  unfold PlantD.refOk PlantD.band inB
  cases h1 : decide (-1000000 ≤ p.low) <;> cases h2 : decide (p.low ≤ 1000000) <;> simp [Bool.and_assoc]
def PlantD.refHours (p : PlantD) : Bool := p.hours && decide (p.machines.length ≤ 4)

set_option maxRecDepth 100000 in
set_option maxHeartbeats 400000 in
/-- besomref12.CheckPlant -/
theorem refCheck_any (v : Value) (p : PlantD) (w : World) (hp : PlantV w v p) :
    Calls Tryd.prog 15 #[v] w fun e w' => e = .returned (.bool p.ok) ∧ Below w.heap.size w w' := by
  obtain ⟨vl, vp, vm, rfl, hL, hP, hM⟩ := hp
  obtain ⟨am, cm, rfl, hml, hmc⟩ := hM.open
  obtain ⟨al, cl, rfl, hll, _⟩ := hL.open
  obtain ⟨ap, cp, rfl, hpl, _⟩ := hP.open
  have HL := hid hL
  have HP := hid hP
  have HM := hid hmc
  clear hL hP hM hmc
  go_enter Tryd.func15, Tryd.ntmps15
  go_upto_region 1 with fail
  obtain ⟨W0, e0, hz0, hb0, hc0, hf0⟩ := box_new w #[.int .i64 p.heat, .int .i64 p.low, .int .i64 p.high, .slice al p.loads.length cl, .slice ap p.prices.length cp, .slice am p.machines.length cm] 25
  rw [e0]
  clear e0
  obtain ⟨hcR, hfR⟩ := bcell hb0
  have HL0 := hid (HL.out.below hb0)
  have HP0 := hid (HP.out.below hb0)
  by_cases h1 : p.refOk = true
  · have hb1 : -1000000 ≤ p.low ∧ p.low ≤ 1000000 ∧ p.low ≤ p.high ∧ p.high ≤ p.low + 1000 ∧ inB p.low (-1000000) 1000000 = true ∧ inB p.heat p.low p.high = true := by
      simp [PlantD.refOk, inB] at h1 ⊢; omega
    obtain ⟨b1, b2, b3, b4, b5, b6⟩ := hb1
    have HR := hid h1
    clear h1
    have b3' : decide (p.high < p.low) = false := by simp; omega
    have b4' : decide (p.low + 1000 < p.high) = false := by simp; omega
    go_wp2_with fail
    refine (in_any _ _ _ _).mono ?_
    rintro e w' ⟨rfl, rfl⟩
    go_wp2_with fail
    refine (in_any _ _ _ _).mono ?_
    rintro e w' ⟨rfl, rfl⟩
    by_cases h2 : p.refHours = true
    · have hb2 : p.loads.length = p.prices.length ∧ p.loads.length ≤ 48 ∧ fewB p.loads = true ∧ fewB p.prices = true ∧ p.machines.length ≤ 4 := by
        simpa [PlantD.refHours, PlantD.hours, and_assoc] using h2
      obtain ⟨d1, d2, d3, d4, d5⟩ := hb2
      have d1' : ((p.loads.length : Int) != p.prices.length) = false := by simp [d1]
      have d2' : decide ((48 : Int) < p.loads.length) = false := by simp; omega
      have d5' : decide ((4 : Int) < p.machines.length) = false := by simp; omega
      have HH := hid h2
      have HD := hid d1
      clear h2 d1
      go_wp2_with fail
      refine (amounts_any _ _ _ HL0.out).mono ?_
      rintro e w' ⟨rfl, rfl⟩
      go_wp2_with fail
      refine (amounts_any _ _ _ HP0.out).mono ?_
      rintro e w' ⟨rfl, rfl⟩
      go_wp2_with fail
      go_loopw [3] (fun i wr => ∃ k : Nat, k ≤ p.machines.length ∧ i = .int .i64 k ∧ Below W0.heap.size W0 wr ∧ ∀ j (h : j < p.machines.length), j < k → p.machines[j].ok = true) (fun i _ => p.machines.length - (intOf i).toNat)
      case atStart => exact ⟨0, Nat.zero_le _, rfl, Below.refl _ _, by omega⟩
      case round =>
        obtain ⟨k, hk, rfl, hb, hno⟩ := hrel
        have HN := hid hno
        clear hno
        have hsz := hb.size
        have hsz' : w.heap.size < W0.heap.size := by omega
        have c5 : wr.cell? ⟨w.heap.size, 5, none⟩ = some (.slice am p.machines.length cm) := rdB hb hsz' (hc0 5)
        by_cases hlt : k < p.machines.length
        · obtain ⟨b, off, rfl, hbl, hc⟩ := HM.out k hlt
          obtain ⟨c0, c1, c2⟩ := hc k hlt
          clear hc HM
          generalize hxe : p.machines[k] = m at c0 c1 c2
          have HX := hid hxe
          clear hxe
          have c0 := (hb.cell (p := ⟨b, off + k * 3, none⟩) (by show b < _; omega)).trans ((hcR _ _ hbl).trans c0)
          have c1 := (hb.cell (p := ⟨b, off + k * 3 + 1, none⟩) (by show b < _; omega)).trans ((hcR _ _ hbl).trans c1)
          have c2 := (hb.cell (p := ⟨b, off + k * 3 + 2, none⟩) (by show b < _; omega)).trans ((hcR _ _ hbl).trans c2)
          clear hcR hfR hc0 hf0
          go_wp2_with fail
          go_region_held3 (fun w' => w'.cell? ⟨w.heap.size, 5, none⟩ = some (.slice (some ⟨b, off, none⟩) p.machines.length cm) ∧ w'.cell? ⟨b, off + k * 3, none⟩ = some (.int .i64 m.cold) ∧ w'.cell? ⟨b, off + k * 3 + 1, none⟩ = some (.int .i64 m.power) ∧ w'.cell? ⟨b, off + k * 3 + 2, none⟩ = some (.int .i64 m.start)) (go_keep) (first | (go_at_call 44; refine (amounts_any _ [m.cold, m.power, m.start] _ (new3 wr 3 m.cold m.power m.start).drew).mono ?_; rintro e w' ⟨rfl, rfl⟩))
          have hb3 : Below W0.heap.size W0 (wr.alloc (.cells #[.int .i64 m.cold, .int .i64 m.power, .int .i64 m.start] 3)).drew := (hb.alloc hsz _).drew
          by_cases hp : fewB [m.cold, m.power, m.start] = true
          · simp only [hp, Bool.not_true]
            go_wp2
            go_roundw
            case rel => exact ⟨k + 1, by omega, by go_num, hb3, step_all (P := fun m => m.ok = true) HN.out hlt (by rw [HX.out]; exact hp)⟩
            case measure => simp [intOf]; omega
          · have hp' : fewB [m.cold, m.power, m.start] = false := by simpa using hp
            simp only [hp', Bool.not_false]
            go_wp2
            go_ret
            have hall : p.machines.all Mach.ok = false := not_all hlt (by rw [HX.out]; exact hp')
            exact ⟨ret_bool (by simp [PlantD.ok, hall]), hb0.trans (hb3.mono (by omega))⟩
        · go_wp2
          go_ret
          refine ⟨ret_bool ?_, hb0.trans (hb.mono (by omega))⟩
          have hall : p.machines.all Mach.ok = true := all_of HN.out (by omega)
          have hr := HR.out
          rw [refOk_band] at hr
          have hh := HH.out
          simp only [PlantD.refHours, Bool.and_eq_true] at hh
          simp [PlantD.ok, hall, hr, hh.1, hh.2]
    · have hok : p.ok = false := by
        cases e : p.ok with
        | false => rfl
        | true => exact absurd (by simp only [PlantD.ok, Bool.and_eq_true] at e; simp [PlantD.refHours, e.1.2, e.2]) h2
      have HO := hid hok
      by_cases d1 : p.loads.length = p.prices.length
      · have d1' : ((p.loads.length : Int) != p.prices.length) = false := by simp [d1]
        have HD := hid d1
        clear d1
        by_cases d2 : p.loads.length ≤ 48
        · have d2' : decide ((48 : Int) < p.loads.length) = false := by simp; omega
          go_wp2_with fail
          refine (amounts_any _ _ _ HL0.out).mono ?_
          rintro e w' ⟨rfl, rfl⟩
          by_cases d3 : fewB p.loads = true
          · go_wp2_with fail
            refine (amounts_any _ _ _ HP0.out).mono ?_
            rintro e w' ⟨rfl, rfl⟩
            by_cases d4 : fewB p.prices = true
            · have d5 : 4 < p.machines.length := by
                have hd := HD.out
                simp only [PlantD.refHours, PlantD.hours, d3, d4, hd] at h2
                simp at h2
                omega
              have d5' : decide ((4 : Int) < p.machines.length) = true := by simp; omega
              go_wp2_with fail
              go_ret
              exact ⟨ret_bool HO.out.symm, hb0⟩
            · have d4' : fewB p.prices = false := by simpa using d4
              go_wp2_with fail
              go_ret
              exact ⟨ret_bool HO.out.symm, hb0⟩
          · have d3' : fewB p.loads = false := by simpa using d3
            go_wp2_with fail
            go_ret
            exact ⟨ret_bool HO.out.symm, hb0⟩
        · have d2' : decide ((48 : Int) < p.loads.length) = true := by simp; omega
          go_wp2_with fail
          go_ret
          exact ⟨ret_bool HO.out.symm, hb0⟩
      · have d1' : ((p.loads.length : Int) != p.prices.length) = true := by simp; omega
        clear d1
        go_wp2_with fail
        go_ret
        exact ⟨ret_bool HO.out.symm, hb0⟩
  · have hok : p.ok = false := by
      cases e : p.ok with
      | false => rfl
      | true => exact absurd (by simp only [PlantD.ok, Bool.and_eq_true] at e; rw [refOk_band]; exact e.1.1.2) h1
    have HO := hid hok
    have HR := hid h1
    clear h1 hok
    by_cases a1 : -1000000 ≤ p.low ∧ p.low ≤ 1000000
    · obtain ⟨b1, b2⟩ := a1
      have b5 : inB p.low (-1000000) 1000000 = true := by simp [inB]; omega
      by_cases b3 : p.low ≤ p.high
      · have b3' : decide (p.high < p.low) = false := by simp; omega
        by_cases b4 : p.high ≤ p.low + 1000
        · have b4' : decide (p.low + 1000 < p.high) = false := by simp; omega
          have b6 : inB p.heat p.low p.high = false := by
            have h := HR.out
            simp only [PlantD.refOk, b5] at h
            simpa [b3, b4] using h
          go_wp2_with fail
          refine (in_any _ _ _ _).mono ?_
          rintro e w' ⟨rfl, rfl⟩
          go_wp2_with fail
          refine (in_any _ _ _ _).mono ?_
          rintro e w' ⟨rfl, rfl⟩
          go_wp2_with fail
          go_ret
          exact ⟨ret_bool HO.out.symm, hb0⟩
        · have b4' : decide (p.low + 1000 < p.high) = true := by simp; omega
          go_wp2_with fail
          refine (in_any _ _ _ _).mono ?_
          rintro e w' ⟨rfl, rfl⟩
          go_wp2_with fail
          go_ret
          exact ⟨ret_bool HO.out.symm, hb0⟩
      · have b3' : decide (p.high < p.low) = true := by simp; omega
        go_wp2_with fail
        refine (in_any _ _ _ _).mono ?_
        rintro e w' ⟨rfl, rfl⟩
        go_wp2_with fail
        go_ret
        exact ⟨ret_bool HO.out.symm, hb0⟩
    · have b5 : inB p.low (-1000000) 1000000 = false := by simp [inB]; omega
      go_wp2_with fail
      refine (in_any _ _ _ _).mono ?_
      rintro e w' ⟨rfl, rfl⟩
      go_wp2_with fail
      go_ret
      exact ⟨ret_bool HO.out.symm, hb0⟩
end Go.Proofs.YtjjphiecjhijiaaDoor
