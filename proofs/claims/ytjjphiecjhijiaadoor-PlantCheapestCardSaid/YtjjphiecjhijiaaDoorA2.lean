import Derived.Test.YtjjphiecjhijiaaDoorA1
import Derived.Deep.DeepCutAuto
import Derived.Deep.RegionHeld3
namespace Go.Proofs.YtjjphiecjhijiaaDoor
open Go.RowKit

/-- A machine and a plant, as data. -/
structure Mach where
  cold : Int
  power : Int
  start : Int
def Mach.cells (m : Mach) : List Value := [.int .i64 m.cold, .int .i64 m.power, .int .i64 m.start]
structure PlantD where
  heat : Int
  low : Int
  high : Int
  loads : List Int
  prices : List Int
  machines : List Mach

def SlM (w : World) (v : Value) (l : List Mach) : Prop := SlV w v l.length (l.flatMap Mach.cells)
theorem SlM.below {w w' : World} {v : Value} {l : List Mach} (h : SlM w v l) (hb : Below w.heap.size w w') : SlM w' v l := SlV.below h hb
theorem mach_cells_get (l : List Mach) : ∀ (j : Nat) (h : j < l.length) (c : Nat) (hc : c < 3), (l.flatMap Mach.cells)[j * 3 + c]? = some ((l[j]).cells[c]'(by simpa [Mach.cells] using hc)) := by
  induction l with
  | nil => intro j h; simp at h
  | cons m l ih =>
    intro j h c hc
    cases j with
    | zero =>
      simp only [List.flatMap_cons, Nat.zero_mul, Nat.zero_add, List.getElem_cons_zero]
      rw [List.getElem?_append_left (by simpa [Mach.cells] using hc)]
      rw [List.getElem?_eq_getElem (by simpa [Mach.cells] using hc)]
    | succ j =>
      have h' : j < l.length := by simpa using h
      simp only [List.flatMap_cons, List.getElem_cons_succ]
      rw [List.getElem?_append_right (by simp [Mach.cells]; omega)]
      have := ih j h' c hc
      rw [← this]
      congr 1
      simp [Mach.cells]; omega
theorem SlM.open {w : World} {v : Value} {l : List Mach} (h : SlM w v l) :
    ∃ a cap, v = .slice a l.length cap ∧ l.length ≤ 140737488351232 ∧ ∀ k, k < l.length → ∃ b off, a = some ⟨b, off, none⟩ ∧ b < w.heap.size ∧
      ∀ j (h : j < l.length), w.cell? ⟨b, off + j * 3, none⟩ = some (.int .i64 l[j].cold) ∧ w.cell? ⟨b, off + j * 3 + 1, none⟩ = some (.int .i64 l[j].power) ∧ w.cell? ⟨b, off + j * 3 + 2, none⟩ = some (.int .i64 l[j].start) := by
  obtain ⟨a, cap, rfl, hn, hc⟩ := h
  refine ⟨a, cap, rfl, hn, fun k hk => ?_⟩
  rcases hc with hc | ⟨b, off, rfl, hlt, hc⟩
  · omega
  · refine ⟨b, off, rfl, hlt, fun j hj => ?_⟩
    have key : ∀ c (hc3 : c < 3), w.cell? ⟨b, off + (j * 3 + c), none⟩ = some ((l[j]).cells[c]'(by simpa [Mach.cells] using hc3)) := by
      intro c hc3
      have h1 := mach_cells_get l j hj c hc3
      obtain ⟨h2, h3⟩ := List.getElem?_eq_some_iff.1 h1
      rw [hc _ h2, h3]
    exact ⟨key 0 (by omega), key 1 (by omega), key 2 (by omega)⟩

/-- A plant value, its slices read in the world. -/
def PlantV (w : World) (v : Value) (p : PlantD) : Prop :=
  ∃ vl vp vm, v = .agg #[.int .i64 p.heat, .int .i64 p.low, .int .i64 p.high, vl, vp, vm] ∧ SlI w vl p.loads ∧ SlI w vp p.prices ∧ SlM w vm p.machines
theorem PlantV.below {w w' : World} {v : Value} {p : PlantD} (h : PlantV w v p) (hb : Below w.heap.size w w') : PlantV w' v p := by
  obtain ⟨vl, vp, vm, rfl, h1, h2, h3⟩ := h
  exact ⟨vl, vp, vm, rfl, h1.below hb, h2.below hb, h3.below hb⟩

def Mach.ok (m : Mach) : Bool := fewB [m.cold, m.power, m.start]
def PlantD.band (p : PlantD) : Bool := inB p.low (-1000000) 1000000 && inB p.high p.low (p.low + 1000) && inB p.heat p.low p.high
def PlantD.hours (p : PlantD) : Bool := (p.loads.length == p.prices.length) && decide (p.loads.length ≤ 48) && fewB p.loads && fewB p.prices
def PlantD.ok (p : PlantD) : Bool := p.machines.all Mach.ok && p.band && p.hours && decide (p.machines.length ≤ 4)

theorem new3 (w : World) (t : TypeId) (x y z : Int) : SlI (w.alloc (.cells #[.int .i64 x, .int .i64 y, .int .i64 z] t)) (.slice (some ⟨w.heap.size, 0, none⟩) 3 3) [x, y, z] := by
  refine ⟨_, _, rfl, by simp, .inr ⟨_, _, rfl, by simp, ?_⟩⟩
  intro i hi
  have hi3 : i < 3 := by simpa using hi
  rw [Nat.zero_add]
  match i, hi3 with
  | 0, _ => simp [World.cell?_alloc_new]
  | 1, _ => simp [World.cell?_alloc_new]
  | 2, _ => simp [World.cell?_alloc_new]

set_option maxHeartbeats 400000 in
theorem checkPlant_any (v : Value) (p : PlantD) (w : World) (hp : PlantV w v p) :
    Calls Tryd.prog 33 #[v] w fun e w' => e = .returned (.bool p.ok) ∧ Below w.heap.size w w' := by
  obtain ⟨vl, vp, vm, rfl, hL, hP, hM⟩ := hp
  obtain ⟨am, cm, rfl, hml, hmc⟩ := hM.open
  obtain ⟨al, cl, rfl, hll, _⟩ := hL.open
  obtain ⟨ap, cp, rfl, hpl, _⟩ := hP.open
  have HL := hid hL
  have HP := hid hP
  have HM := hid hmc
  clear hL hP hM hmc
  go_enter Tryd.func33, Tryd.ntmps33
  go_wp2_with fail
  go_loopw [10] (fun i wr => ∃ k : Nat, k ≤ p.machines.length ∧ i = .int .i64 k ∧ Below (w.heap.size + 1) (w.alloc (.cells #[.int .i64 p.heat, .int .i64 p.low, .int .i64 p.high, .slice al p.loads.length cl, .slice ap p.prices.length cp, .slice am p.machines.length cm] 25)) wr ∧ ∀ j (h : j < p.machines.length), j < k → p.machines[j].ok = true) (fun i _ => p.machines.length - (intOf i).toNat)
  case atStart => exact ⟨0, Nat.zero_le _, rfl, Below.refl _ _, by omega⟩
  case round =>
    obtain ⟨k, hk, rfl, hb, hno⟩ := hrel
    have HN := hid hno
    clear hno
    obtain ⟨hcR, hfR⟩ := bcell hb
    by_cases hlt : k < p.machines.length
    · obtain ⟨b, off, rfl, hbl, hc⟩ := HM.out k hlt
      obtain ⟨c0, c1, c2⟩ := hc k hlt
      clear hc HM
      have hbl' : b < w.heap.size + 1 := by omega
      have hne : b ≠ w.heap.size := by omega
      generalize hxe : p.machines[k] = m at c0 c1 c2
      have HX := hid hxe
      clear hxe
      go_wp2_with fail
      refine (few_any _ [m.cold, m.power, m.start] _ (by simpa using new3 (wr.alloc (.cells #[.int .i64 m.cold, .int .i64 m.power, .int .i64 m.start] 35)) 3 m.cold m.power m.start)).mono ?_
      rintro e w' ⟨rfl, hb2⟩
      have hb3 : Below (w.heap.size + 1) (w.alloc (.cells #[.int .i64 p.heat, .int .i64 p.low, .int .i64 p.high, .slice al p.loads.length cl, .slice ap p.prices.length cp, .slice (some ⟨b, off, none⟩) p.machines.length cm] 25)) w' := by
        have hsz := hb.size
        simp at hsz
        exact ((hb.alloc hsz _).alloc (by simp; omega) _).trans (hb2.mono (by simp; omega))
      clear hcR hfR hb2
      by_cases hp : fewB [m.cold, m.power, m.start] = true
      · go_wp2
        go_roundw
        case rel =>
          refine ⟨k + 1, by omega, by go_num, hb3, ?_⟩
          intro j hj hjk
          by_cases e : j = k
          · subst e; rw [HX.out]; exact hp
          · exact HN.out j hj (by omega)
        case measure => simp [intOf]; omega
      · have hp' : fewB [m.cold, m.power, m.start] = false := by simpa using hp
        go_wp2
        go_ret
        have hall : p.machines.all Mach.ok = false := by
          rw [List.all_eq_false]
          exact ⟨p.machines[k], List.getElem_mem _, by rw [HX.out, Mach.ok, hp']; simp⟩
        exact ⟨ret_bool (by simp [PlantD.ok, hall]), ((Below.refl _ _).alloc (Nat.le_refl _) _).trans (hb3.mono (by omega))⟩
    · have hall : p.machines.all Mach.ok = true := by
        rw [List.all_eq_true]
        intro x hx
        obtain ⟨j, hj, rfl⟩ := List.getElem_of_mem hx
        exact HN.out j hj (by omega)
      have HA := hid hall
      clear hall
      go_upto_region 7 with fail
      go_cut [5] (fun s5 wx => s5 = .bool p.band ∧ Below (w.heap.size + 1) (w.alloc (.cells #[.int .i64 p.heat, .int .i64 p.low, .int .i64 p.high, .slice al p.loads.length cl, .slice ap p.prices.length cp, .slice am p.machines.length cm] 25)) wx)
      case first =>
        by_cases hlow : -1000000 ≤ p.low ∧ p.low ≤ 1000000
        · obtain ⟨hl1, hl2⟩ := hlow
          go_wp2_with (go_at_call 59; refine (within_any _ _ _ _).mono ?_; rintro e w' ⟨rfl, rfl⟩)
          all_goals go_meet
          all_goals exact ⟨by simp [PlantD.band, *], hb⟩
        · have hlow' : inB p.low (-1000000) 1000000 = false := by simp [inB]; omega
          go_wp2_with (go_at_call 59; refine (within_any _ _ _ _).mono ?_; rintro e w' ⟨rfl, rfl⟩)
          all_goals go_meet
          all_goals exact ⟨by simp [PlantD.band, *], hb⟩
      case rest =>
        obtain ⟨rfl, hb4⟩ := hcut
        clear hcR hfR hb
        obtain ⟨hcR, hfR⟩ := bcell hb4
        have hb5 : Below w.heap.size w wc := ((Below.refl _ _).alloc (Nat.le_refl _) _).trans (hb4.mono (by omega))
        have HLc := hid (HL.out.below hb5)
        have HPc := hid (HP.out.below hb5)
        go_upto_region 8 with fail
        go_cut [6] (fun s6 wx => s6 = .bool p.hours ∧ Below (w.heap.size + 1) (w.alloc (.cells #[.int .i64 p.heat, .int .i64 p.low, .int .i64 p.high, .slice al p.loads.length cl, .slice ap p.prices.length cp, .slice am p.machines.length cm] 25)) wx)
        case first =>
          by_cases h1 : p.loads.length = p.prices.length ∧ p.loads.length ≤ 48
          · obtain ⟨h1, h2⟩ := h1
            have h1' : ((p.loads.length : Int) == p.prices.length) = true := by simp [h1]
            have H1 := hid h1
            clear h1
            go_wp2_with fail
            refine (few_any _ _ _ HLc.out).mono ?_
            rintro e w1 ⟨rfl, hb6⟩
            have HPc1 := hid (HPc.out.below hb6)
            obtain ⟨hcR1, hfR1⟩ := bcell hb6
            have hsz : w.heap.size + 1 ≤ wc.heap.size := by have := hb4.size; simpa using this
            have hwsz : w.heap.size < wc.heap.size := by omega
            have hb7 := hb4.trans (hb6.mono hsz)
            by_cases f1 : fewB p.loads = true
            · go_wp2_with fail
              refine (few_any _ _ _ HPc1.out).mono ?_
              rintro e w2 ⟨rfl, hb8⟩
              have hb9 := hb7.trans (hb8.mono (Nat.le_trans hsz hb6.size))
              go_wp2
              all_goals go_meet
              all_goals exact ⟨congrArg _ (by
                have e := H1.out
                have h48 : p.prices.length ≤ 48 := by omega
                unfold PlantD.hours; rw [f1, e]; simp [h48]), hb9⟩
            · have f1' : fewB p.loads = false := by simpa using f1
              go_wp2
              all_goals go_meet
              all_goals exact ⟨by simp [PlantD.hours, f1'], hb7⟩
          · have hh : p.hours = false := by
              simp only [PlantD.hours, Bool.and_eq_false_iff, beq_eq_false_iff_ne, decide_eq_false_iff_not]
              by_cases e : p.loads.length = p.prices.length
              · exact .inl (.inl (.inr (fun h => h1 ⟨e, h⟩)))
              · exact .inl (.inl (.inl e))
            by_cases e : p.loads.length = p.prices.length
            · have h1' : ((p.loads.length : Int) == p.prices.length) = true := by simp [e]
              have h2 : 48 < p.loads.length := by omega
              clear h1 e
              go_wp2_with fail
              all_goals go_meet
              all_goals exact ⟨by simp [hh], hb4⟩
            · have h1' : ((p.loads.length : Int) == p.prices.length) = false := by simp; omega
              clear h1 e
              go_wp2_with fail
              all_goals go_meet
              all_goals exact ⟨by simp [hh], hb4⟩
        case rest =>
          obtain ⟨rfl, hb6⟩ := hcut
          clear hcR hfR hb4 hb5 HLc HPc
          obtain ⟨hcR, hfR⟩ := bcell hb6
          have hb7 := ((Below.refl w.heap.size w).alloc (Nat.le_refl _) _).trans (hb6.mono (by omega))
          have HB := hid hb6
          clear hb6
          have hok : p.ok = (p.band && p.hours && decide (p.machines.length ≤ 4)) := by simp [PlantD.ok, HA.out]
          have HO := hid hok
          clear hok
          go_wp2
          all_goals go_ret
          all_goals refine ⟨ret_bool ?_, hb7⟩
          all_goals rw [HO.out]
          all_goals (cases hB : p.band <;> cases hH : p.hours <;> simp_all <;> omega)
end Go.Proofs.YtjjphiecjhijiaaDoor
