/- TopWeight: the plain law, and ice.Slow of what is not valid. -/
import Derived.Test.YtolnhicngepnnaaGreatV3
namespace Go.Proofs.YtolnhicngepnnaaGreat
open Go.RowKit

set_option maxRecDepth 100000 in
theorem slow13_bad (cx cy sd W H px py : Int) (pv qv : Value) (pl ql : List Int) (fl kn a b c : Int) (w : World) (hpv : SlI w pv pl) (hqv : SlI w qv ql) (hR : rightR cx cy sd W H pl ql fl kn a b c [(px, py)] = false) :
    Calls Tryz.prog 9 #[iceV cx cy sd W H pv qv, grainV fl kn a b c, .agg #[.int .i64 px, .int .i64 py]] w fun e w' => e = .returned (.tuple #[.int .i64 0, .int .i64 2]) ∧ Below w.heap.size w w' := by
  have HR := hid (fun U v h1 h2 h3 => right36_any cx cy sd W H pv qv pl ql fl kn a b c v [(px, py)] U h1 h2 h3)
  rw [hR] at HR
  have HSL := hid (And.intro hpv hqv)
  obtain ⟨pa, pc, rfl, -, -⟩ := hpv.open
  obtain ⟨qa, qc, rfl, -, -⟩ := hqv.open
  obtain ⟨W1, hW1⟩ : ∃ W1, ((w.alloc (.cells #[.int .i64 cx, .int .i64 cy, .int .i64 sd, .int .i64 W, .int .i64 H, .slice pa pl.length pc, .slice qa ql.length qc] 31)).alloc (.cells #[.int .i64 fl, .int .i64 kn, .int .i64 a, .int .i64 b, .int .i64 c] 24)).alloc (.cells #[.int .i64 px, .int .i64 py] 28) = W1 := ⟨_, rfl⟩
  have hz : W1.heap.size = w.heap.size + 3 := by rw [← hW1]; simp
  have hb1 : Below w.heap.size w W1 := by rw [← hW1]; exact (((Below.refl _ w).alloc (Nat.le_refl _) _).alloc (by simp) _).alloc (by simp <;> omega) _
  have b0 : W1.heap[w.heap.size]? = some (.cells #[.int .i64 cx, .int .i64 cy, .int .i64 sd, .int .i64 W, .int .i64 H, .slice pa pl.length pc, .slice qa ql.length qc] 31 (0, 0)) := by
    rw [← hW1, Below.heap_alloc _ _ _ (by simp <;> omega), Below.heap_alloc _ _ _ (by simp)]; exact heap_alloc_new w _
  have b1 : W1.heap[w.heap.size + 1]? = some (.cells #[.int .i64 fl, .int .i64 kn, .int .i64 a, .int .i64 b, .int .i64 c] 24 (0, 0)) := by
    rw [← hW1, Below.heap_alloc _ _ _ (by simp)]
    simpa using heap_alloc_new (w.alloc (.cells #[.int .i64 cx, .int .i64 cy, .int .i64 sd, .int .i64 W, .int .i64 H, .slice pa pl.length pc, .slice qa ql.length qc] 31)) (.cells #[.int .i64 fl, .int .i64 kn, .int .i64 a, .int .i64 b, .int .i64 c] 24)
  have b2 : W1.heap[w.heap.size + 1 + 1]? = some (.cells #[.int .i64 px, .int .i64 py] 28 (0, 0)) := by
    rw [← hW1]
    simpa using heap_alloc_new ((w.alloc (.cells #[.int .i64 cx, .int .i64 cy, .int .i64 sd, .int .i64 W, .int .i64 H, .slice pa pl.length pc, .slice qa ql.length qc] 31)).alloc (.cells #[.int .i64 fl, .int .i64 kn, .int .i64 a, .int .i64 b, .int .i64 c] 24)) (.cells #[.int .i64 px, .int .i64 py] 28)
  have HC := hid (show ∀ U, Below W1.heap.size W1 U → U.heap[w.heap.size]? = some (.cells #[.int .i64 cx, .int .i64 cy, .int .i64 sd, .int .i64 W, .int .i64 H, .slice pa pl.length pc, .slice qa ql.length qc] 31 (0, 0)) ∧ U.heap[w.heap.size + 1]? = some (.cells #[.int .i64 fl, .int .i64 kn, .int .i64 a, .int .i64 b, .int .i64 c] 24 (0, 0)) ∧ U.heap[w.heap.size + 1 + 1]? = some (.cells #[.int .i64 px, .int .i64 py] 28 (0, 0)) from fun U hb => ⟨(hb.block _ (by omega)).trans b0, (hb.block _ (by omega)).trans b1, (hb.block _ (by omega)).trans b2⟩)
  have HB := hid hb1
  have HSP := hid (new_SlP W1 px py 28)
  have HW := hid hW1
  clear hpv hqv hb1 b1 b0 b2 hW1 hR
  go_enter Tryz.func9, Tryz.ntmps9
  go_wp2_with fail
  rw [HW.out]
  refine (HR.out _ _ (SlI.below HSL.out.1 (HB.out.alloc HB.out.size _)) (SlI.below HSL.out.2 (HB.out.alloc HB.out.size _)) (by have := HSP.out; rwa [hz] at this)).mono ?_
  rintro e W2 ⟨rfl, hb2⟩
  have hb2' : Below W1.heap.size W1 W2 := btrans ((Below.refl _ W1).alloc (Nat.le_refl _) _) (by simp) hb2
  have HB2 := hid (btrans HB.out (by omega) hb2')
  clear HC HB hb2 hb2' HW HR HSP
  go_wp2_with fail
  go_ret2
  exact ⟨rfl, HB2.out⟩

/-- A tick along the sheet on even ice: place and speed. -/
def stepY (b : Int) (p : Int × Int) : Int × Int := if p.2 ≤ b then (p.1, 0) else (p.1 + (p.2 - b), p.2 - b)
def iterY (b : Int) (p : Int × Int) : Nat → Int × Int
  | 0 => p
  | n + 1 => stepY b (iterY b p n)
def overY (v b : Int) : Int := if v ≤ b then 0 else v - b
theorem step_far (b v' : Int) (hb : 0 < b) (hv : 0 < v') : v' * v' ≤ 2 * b * v' + overY v' b * overY v' b := by
  unfold overY
  split
  · rename_i h
    have h1 : v' * v' ≤ b * v' := Int.mul_le_mul_of_nonneg_right h (by omega)
    have h2 : 0 ≤ b * v' := Int.mul_nonneg (by omega) (by omega)
    have h3 : 2 * b * v' = b * v' + b * v' := by rw [Int.mul_assoc]; omega
    omega
  · have h1 : (v' - b) * (v' - b) = v' * v' - 2 * b * v' + b * b := by
      rw [Int.sub_mul, Int.mul_sub, Int.mul_sub, Int.mul_comm v' b, Int.mul_assoc]; omega
    have h2 : 0 ≤ b * b := Int.mul_nonneg (by omega) (by omega)
    omega
theorem iter_far (b y0 v0 : Int) (hb : 0 < b) (hv : 0 ≤ v0) : ∀ n, 0 ≤ (iterY b (y0, v0) n).2 ∧ y0 ≤ (iterY b (y0, v0) n).1 ∧ overY v0 b * overY v0 b ≤ 2 * b * ((iterY b (y0, v0) n).1 - y0) + overY (iterY b (y0, v0) n).2 b * overY (iterY b (y0, v0) n).2 b := by
  intro n
  induction n with
  | zero => exact ⟨hv, Int.le_refl _, by simp [iterY]⟩
  | succ n ih =>
    obtain ⟨h1, h0, h2⟩ := ih
    unfold iterY
    generalize iterY b (y0, v0) n = p at *
    obtain ⟨y, v⟩ := p
    dsimp only at h0 h1 h2
    unfold stepY
    dsimp only
    by_cases h : v ≤ b
    · rw [if_pos h]
      refine ⟨Int.le_refl _, h0, ?_⟩
      have e1 : overY v b = 0 := by unfold overY; rw [if_pos h]
      have e2 : overY 0 b = 0 := by unfold overY; rw [if_pos (by omega)]
      rw [e1] at h2
      dsimp only
      rw [e2]
      exact h2
    · rw [if_neg h]
      dsimp only
      refine ⟨by omega, by omega, ?_⟩
      have e1 : overY v b = v - b := by unfold overY; rw [if_neg h]
      rw [e1] at h2
      have h3 := step_far b (v - b) hb (by omega)
      have h4 : 2 * b * (y + (v - b) - y0) = 2 * b * (y - y0) + 2 * b * (v - b) := by rw [← Int.mul_add]; congr 1; omega
      omega
theorem iter_weight (b w y0 L : Int) (n : Nat) (hb : 0 < b) (hw : 0 ≤ w) (hL : 2 * b * L ≤ w * w) (h : (iterY b (y0, w + b) n).2 = 0) : y0 + L ≤ (iterY b (y0, w + b) n).1 := by
  obtain ⟨-, -, h1⟩ := iter_far b y0 (w + b) hb (by omega) n
  have e1 : overY (w + b) b = w := by unfold overY; split <;> omega
  have e2 : overY 0 b = 0 := by unfold overY; rw [if_pos (by omega)]
  rw [h, e1, e2] at h1
  generalize (iterY b (y0, w + b) n).1 = z at *
  have h3 : 2 * b * L ≤ 2 * b * (z - y0) := by omega
  have h4 : L ≤ z - y0 := Int.le_of_mul_le_mul_left h3 (by omega)
  omega
theorem shN_zero (s : Nat) (hs : 0 < s) : ∀ i, shN s 0 i 0 = 0 := by
  intro i
  induction i with
  | zero => rfl
  | succ i ih =>
    unfold shN
    rw [if_neg]
    · exact ih
    · rintro ⟨-, h⟩
      have h1 : 0 < 2 ^ i := Nat.pow_pos (by omega)
      have h2 : 0 < (0 + 2 ^ i) * (0 + 2 ^ i) * s := Nat.mul_pos (Nat.mul_pos (by omega) (by omega)) hs
      omega
theorem shN_full (s X : Nat) : ∀ i, shN s X i 65536 = 65536 := by
  intro i
  induction i with
  | zero => rfl
  | succ i ih =>
    unfold shN
    rw [if_neg]
    · exact ih
    · rintro ⟨h, -⟩
      have h1 : 0 < 2 ^ i := Nat.pow_pos (by omega)
      omega
theorem shareN_zero (s : Nat) (hs : 0 < s) : shareN 0 s = 0 := by
  unfold shareN
  rw [show 0 * 0 * 4294967296 = 0 from rfl]
  exact shN_zero s hs 17
theorem shareN_self (v : Nat) : shareN v (v * v) = 65536 := by
  unfold shareN
  rw [show (17 : Nat) = 16 + 1 from rfl]
  unfold shN
  rw [if_pos]
  · exact shN_full _ _ 16
  · refine ⟨by decide, ?_⟩
    rw [show (0 + 2 ^ 16) * (0 + 2 ^ 16) = 4294967296 from rfl, Nat.mul_comm]
    exact Nat.le_refl _
theorem nearN_mul (x d : Nat) (hd : 0 < d) : nearN (x * d) d = x := by
  unfold nearN quoM
  rw [Nat.mul_mod_left, if_neg (by omega), Nat.mul_div_cancel _ hd]
theorem isq_self (v : Nat) : isq (v * v) = v := (isq_one ⟨Nat.le_refl _, by rw [Nat.add_mul, Nat.mul_add]; omega⟩).symm
theorem goM_line (b bN : Nat) (y : Int) (v : Nat) (hv : 0 < v) : goM b bN 0 ⟨0, y, 0, (v : Int), 0⟩ = ⟨0, y + ((v : Int) - b), 0, (v : Int) - b, 0⟩ := by
  have hs : sqN 0 (v : Int) = v * v := by simp [sqN]
  have hb : brakeN b 0 = b := nearN_mul b 5000 (by omega)
  have u1 : unitF 0 (v * v) = 0 := by
    unfold unitF
    rw [if_neg (by omega), show (0 : Int).natAbs = 0 from rfl, shareN_zero _ (Nat.mul_pos hv hv)]
    rfl
  have u2 : unitF (v : Int) (v * v) = 65536 := by
    unfold unitF
    rw [if_neg (by omega), show (v : Int).natAbs = v from rfl, shareN_self]
    rfl
  unfold goM
  dsimp only
  rw [hs, hb, u1, u2]
  have c0 : ∀ a d : Int, cutZ a 0 d = 0 := fun a d => by unfold cutZ; rw [Int.mul_zero]; exact Int.zero_tdiv _
  have c1 : ∀ a d : Int, cutZ 0 a d = 0 := fun a d => by unfold cutZ; rw [Int.zero_mul]; exact Int.zero_tdiv _
  have c2 : cutZ 65536 (b : Int) 65536 = b := by unfold cutZ; exact Int.mul_tdiv_cancel_left _ (by omega)
  rw [c0, c0, c1, c2, c0, c0]
  simp
theorem tick_line (p q : Nat) (g : GrainD) (y v : Int) (hv : 0 ≤ v) (h1 : -4294967296 ≤ y) (h2 : y ≤ 6553600000) (m : Mov) (h : tickI (evenI p q) g 0 ⟨0, y, 0, v, 0⟩ = .ok m) :
    m = ⟨0, (stepY (slowE p q g) (y, v)).1, 0, (stepY (slowE p q g) (y, v)).2, 0⟩ := by
  obtain ⟨e1, e2⟩ := even_peb p q y h1 h2
  have hsl : slowI (evenI p q) g 0 y = slowE p q g := by unfold slowI slowE; rw [e1, e2]
  obtain ⟨n, rfl⟩ : ∃ n : Nat, v = n := ⟨v.toNat, by omega⟩
  unfold tickI tickR at h
  dsimp only at h
  rw [hsl, show sqN 0 (n : Int) = n * n by simp [sqN], isq_self, show brakeN (slowE p q g) 0 = slowE p q g from nearN_mul _ 5000 (by omega)] at h
  unfold stepY
  dsimp only
  by_cases hle : n ≤ slowE p q g
  · rw [if_pos hle] at h
    rw [if_pos (by omega)]
    exact (Except.ok.inj h).symm
  · rw [if_neg hle, goM_line _ _ y n (by omega)] at h
    rw [if_neg (by omega)]
    split at h
    · exact (Except.ok.inj h).symm
    · cases h
theorem run_line (p q : Nat) (g : GrainD) (y v : Int) (hb : 0 < slowE p q g) (hv : 0 ≤ v) (hy : -4294967296 ≤ y) (hok : Mov.ok ⟨0, y, 0, v, 0⟩ = true) : ∀ k m, runK (evenI p q) g ⟨0, y, 0, v, 0⟩ k = .ok m → m.ok = true ∧ m = ⟨0, (iterY (slowE p q g) (y, v) k).1, 0, (iterY (slowE p q g) (y, v) k).2, 0⟩ := by
  intro k
  induction k with
  | zero =>
    intro m h
    obtain rfl := Except.ok.inj h
    exact ⟨hok, rfl⟩
  | succ k ih =>
    intro m h
    unfold runK at h
    cases hr : runK (evenI p q) g ⟨0, y, 0, v, 0⟩ k with
    | error c => rw [hr] at h; cases h
    | ok mk =>
      rw [hr] at h
      obtain ⟨ho, he⟩ := ih mk hr
      obtain ⟨f1, f2, -⟩ := iter_far (slowE p q g) y v (by omega) hv k
      unfold iterY
      generalize iterY (slowE p q g) (y, v) k = z at *
      obtain ⟨zy, zv⟩ := z
      dsimp only at he f1 f2
      subst he
      have hb2 := movOk_b ho
      exact ⟨tickI_ok ho h, tick_line p q g zy zv f1 (by omega) hb2.1.2.2 m h⟩
end Go.Proofs.YtolnhicngepnnaaGreat
