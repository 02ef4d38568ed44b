import Derived.Test.YtjjphiecjhijiaaDoorA3
namespace Go.Proofs.YtjjphiecjhijiaaDoor
open Go.RowKit

def sumTo (f : Nat → Int) : Nat → Int
  | 0 => 0
  | k + 1 => sumTo f k + f k
theorem sumTo_bd (f : Nat → Int) (B : Int) (n : Nat) (h : ∀ i, i < n → 0 ≤ f i ∧ f i ≤ B) : ∀ k, k ≤ n → 0 ≤ sumTo f k ∧ sumTo f k ≤ k * B := by
  intro k
  induction k with
  | zero => intro _; simp [sumTo]
  | succ k ih =>
    intro hk
    have h1 := ih (by omega)
    have h2 := h k (by omega)
    simp only [sumTo]
    have e : ((k + 1 : Nat) : Int) * B = k * B + B := by rw [Int.natCast_add, Int.add_mul]; simp
    omega
theorem sumTo_congr (f g : Nat → Int) (n : Nat) (h : ∀ i, i < n → f i = g i) : ∀ k, k ≤ n → sumTo f k = sumTo g k := by
  intro k
  induction k with
  | zero => intro _; rfl
  | succ k ih =>
    intro hk
    simp only [sumTo]
    rw [ih (by omega), h k (by omega)]
theorem sumTo_add (f g : Nat → Int) (k : Nat) : sumTo (fun i => f i + g i) k = sumTo f k + sumTo g k := by
  induction k with
  | zero => rfl
  | succ k ih => simp only [sumTo]; omega
theorem sumTo_mul (c : Int) (f : Nat → Int) (k : Nat) : sumTo (fun i => c * f i) k = c * sumTo f k := by
  induction k with
  | zero => simp [sumTo]
  | succ k ih => simp only [sumTo, ih, Int.mul_add]

instance : Inhabited Mach := ⟨⟨0, 0, 0⟩⟩
def PlantD.mach (p : PlantD) (i : Nat) : Mach := p.machines.getD i ⟨0, 0, 0⟩
theorem PlantD.mach_get (p : PlantD) (i : Nat) (h : i < p.machines.length) : p.machines[i] = p.mach i := by
  simp [PlantD.mach, h]
def PlantD.m (p : PlantD) : Nat := p.machines.length

/-- The cold and the power of a set of machines, machine by machine. -/
def PlantD.coldF (p : PlantD) (n i : Nat) : Int := if n.testBit i then (p.mach i).cold else 0
def PlantD.powerF (p : PlantD) (n i : Nat) : Int := if n.testBit i then (p.mach i).power else 0
def PlantD.startF (p : PlantD) (b n i : Nat) : Int := if n.testBit i && !b.testBit i then (p.mach i).start else 0
def PlantD.cool (p : PlantD) (n : Nat) : Int := sumTo (p.coldF n) p.m
def PlantD.power (p : PlantD) (n : Nat) : Int := sumTo (p.powerF n) p.m
def PlantD.starts (p : PlantD) (b n : Nat) : Int := sumTo (p.startF b n) p.m
def PlantD.load (p : PlantD) (h : Nat) : Int := p.loads.getD h 0
def PlantD.price (p : PlantD) (h : Nat) : Int := p.prices.getD h 0
/-- The heat behind an hour; what an hour costs. -/
def PlantD.next (p : PlantD) (h : Nat) (heat : Int) (n : Nat) : Int := max p.low (heat + p.load h - p.cool n)
def PlantD.hcost (p : PlantD) (h b n : Nat) : Int := p.price h * p.power n + p.starts b n
/-- The same, machine by machine, as the reference reckons. -/
def PlantD.hcostF (p : PlantD) (h b n i : Nat) : Int := if n.testBit i then p.price h * (p.mach i).power + (if b.testBit i then 0 else (p.mach i).start) else 0
theorem hcost_eq (p : PlantD) (h b n : Nat) : p.hcost h b n = sumTo (p.hcostF h b n) p.m := by
  have e : p.hcostF h b n = fun i => p.price h * p.powerF n i + p.startF b n i := by
    funext i
    simp only [PlantD.hcostF, PlantD.powerF, PlantD.startF]
    cases n.testBit i <;> cases b.testBit i <;> simp
  rw [e, sumTo_add (fun i => p.price h * p.powerF n i) (p.startF b n), sumTo_mul]
  rfl

theorem fewB_iff (l : List Int) : fewB l = true ↔ ∀ x ∈ l, 0 ≤ x ∧ x ≤ 1000000 := by
  simp only [fewB, Bool.not_eq_true', List.any_eq_false]
  constructor
  · intro h x hx
    have := h x hx
    simp [badN, okN, inB] at this
    omega
  · intro h x hx
    have := h x hx
    simp [badN, okN, inB]
    omega
structure PlantD.Ok (p : PlantD) : Prop where
  low1 : -1000000 ≤ p.low
  low2 : p.low ≤ 1000000
  high1 : p.low ≤ p.high
  high2 : p.high ≤ p.low + 1000
  heat1 : p.low ≤ p.heat
  heat2 : p.heat ≤ p.high
  len : p.loads.length = p.prices.length
  day : p.loads.length ≤ 48
  few : p.machines.length ≤ 4
  load : ∀ h, 0 ≤ p.load h ∧ p.load h ≤ 1000000
  price : ∀ h, 0 ≤ p.price h ∧ p.price h ≤ 1000000
  cold : ∀ i, 0 ≤ (p.mach i).cold ∧ (p.mach i).cold ≤ 1000000
  power : ∀ i, 0 ≤ (p.mach i).power ∧ (p.mach i).power ≤ 1000000
  start : ∀ i, 0 ≤ (p.mach i).start ∧ (p.mach i).start ≤ 1000000
theorem getD_bd {l : List Int} (h : ∀ x ∈ l, 0 ≤ x ∧ x ≤ 1000000) (i : Nat) : 0 ≤ l.getD i 0 ∧ l.getD i 0 ≤ 1000000 := by
  by_cases hi : i < l.length
  · rw [List.getD_eq_getElem?_getD, List.getElem?_eq_getElem hi]
    exact h _ (List.getElem_mem _)
  · rw [List.getD_eq_getElem?_getD, List.getElem?_eq_none (by omega)]
    simp
theorem ok_Ok {p : PlantD} (h : p.ok = true) : p.Ok := by
  simp only [PlantD.ok, PlantD.band, PlantD.hours, Bool.and_eq_true, decide_eq_true_eq, beq_iff_eq] at h
  obtain ⟨⟨⟨h1, h2⟩, ⟨⟨h3, h4⟩, h5⟩, h6⟩, h7⟩ := h
  simp only [inB, Bool.and_eq_true, decide_eq_true_eq] at h2
  rw [fewB_iff] at h5 h6
  rw [List.all_eq_true] at h1
  have hm : ∀ i, (0 ≤ (p.mach i).cold ∧ (p.mach i).cold ≤ 1000000) ∧ (0 ≤ (p.mach i).power ∧ (p.mach i).power ≤ 1000000) ∧ (0 ≤ (p.mach i).start ∧ (p.mach i).start ≤ 1000000) := by
    intro i
    by_cases hi : i < p.machines.length
    · have := h1 _ (List.getElem_mem hi)
      rw [p.mach_get i hi, Mach.ok, fewB_iff] at this
      exact ⟨this _ (by simp), this _ (by simp), this _ (by simp)⟩
    · have : p.mach i = ⟨0, 0, 0⟩ := by simp [PlantD.mach, hi]
      rw [this]; simp
  exact ⟨by omega, by omega, by omega, by omega, by omega, by omega, h3, h4, h7, fun i => getD_bd h5 i, fun i => getD_bd h6 i, fun i => (hm i).1, fun i => (hm i).2.1, fun i => (hm i).2.2⟩

theorem Ok_coldF {p : PlantD} (h : p.Ok) (n i : Nat) : 0 ≤ p.coldF n i ∧ p.coldF n i ≤ 1000000 := by
  have := h.cold i
  unfold PlantD.coldF; split <;> omega
theorem Ok_powerF {p : PlantD} (h : p.Ok) (n i : Nat) : 0 ≤ p.powerF n i ∧ p.powerF n i ≤ 1000000 := by
  have := h.power i
  unfold PlantD.powerF; split <;> omega
theorem Ok_startF {p : PlantD} (h : p.Ok) (b n i : Nat) : 0 ≤ p.startF b n i ∧ p.startF b n i ≤ 1000000 := by
  have := h.start i
  unfold PlantD.startF; split <;> omega
theorem Ok_mul {p : PlantD} (h : p.Ok) (hr : Nat) (x : Int) (B : Int) (h0 : 0 ≤ x) (h1 : x ≤ B) : 0 ≤ p.price hr * x ∧ p.price hr * x ≤ 1000000 * B := by
  have hp := h.price hr
  exact ⟨Int.mul_nonneg hp.1 h0, Int.mul_le_mul hp.2 h1 h0 (by omega)⟩
theorem Ok_hcostF {p : PlantD} (h : p.Ok) (hr b n i : Nat) : 0 ≤ p.hcostF hr b n i ∧ p.hcostF hr b n i ≤ 1000001000000 := by
  have h1 := h.start i
  have h2 := Ok_mul h hr (p.mach i).power 1000000 (h.power i).1 (h.power i).2
  unfold PlantD.hcostF; split
  · split <;> omega
  · omega
theorem Ok_cool {p : PlantD} (h : p.Ok) (n : Nat) : 0 ≤ p.cool n ∧ p.cool n ≤ 4000000 := by
  have := sumTo_bd (p.coldF n) 1000000 p.m (fun i _ => Ok_coldF h n i) p.m (Nat.le_refl _)
  have h4 := h.few
  unfold PlantD.cool PlantD.m at *; omega
theorem Ok_power {p : PlantD} (h : p.Ok) (n : Nat) : 0 ≤ p.power n ∧ p.power n ≤ 4000000 := by
  have := sumTo_bd (p.powerF n) 1000000 p.m (fun i _ => Ok_powerF h n i) p.m (Nat.le_refl _)
  have h4 := h.few
  unfold PlantD.power PlantD.m at *; omega
theorem Ok_starts {p : PlantD} (h : p.Ok) (b n : Nat) : 0 ≤ p.starts b n ∧ p.starts b n ≤ 4000000 := by
  have := sumTo_bd (p.startF b n) 1000000 p.m (fun i _ => Ok_startF h b n i) p.m (Nat.le_refl _)
  have h4 := h.few
  unfold PlantD.starts PlantD.m at *; omega
theorem Ok_hcost {p : PlantD} (h : p.Ok) (hr b n : Nat) : 0 ≤ p.hcost hr b n ∧ p.hcost hr b n ≤ 4000004000000 := by
  have h1 := Ok_power h n
  have h2 := Ok_mul h hr (p.power n) 4000000 h1.1 h1.2
  have h3 := Ok_starts h b n
  unfold PlantD.hcost; omega
theorem Ok_next {p : PlantD} (h : p.Ok) (hr n : Nat) (heat : Int) (B : Int) (h1 : -1000000 ≤ heat) (h2 : heat ≤ B) (hB : 1000000 ≤ B) : p.low ≤ p.next hr heat n ∧ -1000000 ≤ p.next hr heat n ∧ p.next hr heat n ≤ B + 1000000 := by
  have := h.load hr
  have := Ok_cool h n
  have := h.low1
  have := h.low2
  unfold PlantD.next; omega

/-- The number of an hour. -/
def num (l : List Int) (k : Nat) : Nat := (l.getD k 0).toNat
def PlantD.heatAt (p : PlantD) (l : List Int) : Nat → Int
  | 0 => p.heat
  | k + 1 => p.next k (p.heatAt l k) (num l k)
def before (l : List Int) : Nat → Nat
  | 0 => 0
  | k + 1 => num l k
def PlantD.costAt (p : PlantD) (l : List Int) : Nat → Int
  | 0 => 0
  | k + 1 => p.costAt l k + p.hcost k (before l k) (num l k)
def PlantD.heats (p : PlantD) (l : List Int) (k : Nat) : List Int := (List.range k).map fun j => p.heatAt l (j + 1)
theorem heats_succ (p : PlantD) (l : List Int) (k : Nat) : p.heats l (k + 1) = p.heats l k ++ [p.heatAt l (k + 1)] := by
  simp [PlantD.heats, List.range_succ]
theorem heats_length (p : PlantD) (l : List Int) (k : Nat) : (p.heats l k).length = k := by simp [PlantD.heats]
theorem heatAt_bd {p : PlantD} (h : p.Ok) (l : List Int) (k : Nat) : -1000000 ≤ p.heatAt l k ∧ p.heatAt l k ≤ 1001000 + k * 1000000 := by
  induction k with
  | zero => have := h.low1; have := h.low2; have := h.high2; have := h.heat1; have := h.heat2; simp [PlantD.heatAt]; omega
  | succ k ih =>
    have := Ok_next h k (num l k) (p.heatAt l k) (1001000 + k * 1000000) ih.1 ih.2 (by omega)
    simp only [PlantD.heatAt]; omega
theorem costAt_bd {p : PlantD} (h : p.Ok) (l : List Int) (k : Nat) : 0 ≤ p.costAt l k ∧ p.costAt l k ≤ k * 4000004000000 := by
  induction k with
  | zero => simp [PlantD.costAt]
  | succ k ih =>
    have := Ok_hcost h k (before l k) (num l k)
    simp only [PlantD.costAt]; omega

/-- Is a schedule valid for a plant? -/
def PlantD.sched (p : PlantD) (l : List Int) : Bool := p.ok && (l.length == p.loads.length) && l.all fun n => inB n 0 (2 ^ p.m - 1)
theorem sched_num {p : PlantD} {l : List Int} (h : p.sched l = true) (k : Nat) (hk : k < l.length) : l[k] = (num l k : Int) ∧ num l k < 2 ^ p.m := by
  simp only [PlantD.sched, Bool.and_eq_true, List.all_eq_true] at h
  have := h.2 _ (List.getElem_mem hk)
  simp only [inB, Bool.and_eq_true, decide_eq_true_eq] at this
  have e : num l k = (l[k]).toNat := by simp [num, hk]
  have h2 : ((2 ^ p.m : Nat) : Int) = (2 : Int) ^ p.m := by simp
  omega

theorem div_pow (n k : Nat) : n / 2 ^ k / 2 = n / 2 ^ (k + 1) := by rw [Nat.div_div_eq_div_mul, Nat.pow_succ]
theorem bit_mod (n k : Nat) : (n / 2 ^ k % 2 == 1) = n.testBit k := by rw [Nat.testBit_eq_decide_div_mod_eq]; simp [BEq.beq]
theorem pow_small {m : Nat} (h : m ≤ 4) : 1 ≤ 2 ^ m ∧ 2 ^ m ≤ 16 := by
  have : m = 0 ∨ m = 1 ∨ m = 2 ∨ m = 3 ∨ m = 4 := by omega
  rcases this with rfl | rfl | rfl | rfl | rfl <;> decide
end Go.Proofs.YtjjphiecjhijiaaDoor
