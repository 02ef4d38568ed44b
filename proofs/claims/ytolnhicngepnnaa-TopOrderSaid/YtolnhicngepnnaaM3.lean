/- measure.Read, measure.Nearer. -/
import Derived.Test.YtolnhicngepnnaaM2
namespace Go.Proofs.Ytolnhicngepnnaa
open Go.RowKit

theorem results_c2 {fn : Func} {p u : Tmp} {ty : TypeId} (h : fn.results = #[.cell p ty, .tmp u]) (tmps : Array Value) (P : Program) (w : World) (ad : Addr) (x : Value) (hp : tmps.getD p undef = .pointer (some ad)) (hl : (loadVar ty ad).run P w = .ok x w) :
    (results fn tmps).run P w = .ok (.tuple #[x, tmps.getD u undef]) w := by
  have e : (asAddr (tmps[p]?.getD undef)).run P w = .ok ad w := by
    rw [show tmps[p]?.getD undef = tmps.getD p undef by simp, hp]; simp [go_sem]
  simp only [results, h]
  simp [Sem.run_bind, Result.andThen, e, hl]
theorem load38 (w : World) (b : Nat) (x y z : Value) (h0 : w.cell? ⟨b, 0, none⟩ = some x) (h1 : w.cell? ⟨b, 1, none⟩ = some y) (h2 : w.cell? ⟨b, 2, none⟩ = some z) : (loadVar 38 ⟨b, 0, none⟩).run Try.prog w = .ok (.agg #[x, y, z]) w := by
  simp [go_sem, h0, h1, h2]
theorem put3_same {w : World} {b : Nat} {t : TypeId} {a0 a1 a2 : Value} (u v x : Value) (h : w.heap[b]? = some (.cells #[a0, a1, a2] t (0, 0))) : (((w.setCell ⟨b, 0, none⟩ u).setCell ⟨b, 1, none⟩ v).setCell ⟨b, 2, none⟩ x).heap[b]? = some (.cells #[u, v, x] t (0, 0)) := by
  have h1 := heap_setCell_same w b 0 _ _ u h
  have h2 := heap_setCell_same _ b 1 _ _ v h1
  have h3 := heap_setCell_same _ b 2 _ _ x h2
  rw [h3]; simp
/-- What a tool adds to and takes from a value. -/
def offN (off per value : Int) : Int := (quoM 55 (value.toNat * per.toNat) 1000000 false : Nat) + off
def rdOk (off per k value : Int) : Bool := inB off 0 16777216 && (inB per 0 100000 && (inB k 0 15 && inB value 0 6553600000))
theorem offN_b {off per k value : Int} (h : rdOk off per k value = true) : 0 ≤ offN off per value ∧ offN off per value ≤ 700000000 ∧ offN off per value - off ≤ 700000000 := by
  simp only [rdOk, inB, Bool.and_eq_true, decide_eq_true_eq] at h
  obtain ⟨⟨h1, h2⟩, ⟨h3, h4⟩, -, h5, h6⟩ := h
  have hm : value.toNat * per.toNat ≤ 6553600000 * 100000 := Nat.mul_le_mul (by omega) (by omega)
  have hq : quoM 55 (value.toNat * per.toNat) 1000000 false ≤ value.toNat * per.toNat / 1000000 + 1 := by
    unfold quoM
    repeat' split
    all_goals omega
  unfold offN
  omega
theorem scaleU_any (x n : Nat) (hx : x ≤ 6553600000) (hn : n ≤ 100000) (w : World) :
    Calls Try.prog 23 #[.int .i64 (x : Int), .int .i64 (n : Int), .int .i64 1000000, .int .i64 2] w fun e w' => e = .returned (.tuple #[.int .i64 (quoM 55 (x * n) 1000000 false : Nat), .int .i64 0]) ∧ Below w.heap.size w w' := by
  have hm : x * n ≤ 6553600000 * 100000 := Nat.mul_le_mul hx hn
  have h := scale23_any (x : Int) (n : Int) 1000000 2 55 rfl (by simp [okF]; omega) (by omega) (by omega) (by omega) (by rw [Int.natAbs_natCast, Int.natAbs_natCast]; omega) w
  have hq : quoM 55 (x * n) 1000000 false ≤ x * n / 1000000 + 1 := by
    unfold quoM
    repeat' split
    all_goals omega
  have e : scaleX 55 (x : Int) (n : Int) 1000000 = .ok ((quoM 55 (x * n) 1000000 false : Nat) : Int) := by
    unfold scaleX
    rw [show (decide ((x : Int) < 0) != (decide ((n : Int) < 0) != decide ((1000000 : Int) < 0))) = false by
      rw [decide_eq_false (by omega), decide_eq_false (by omega)]; rfl]
    rw [Int.natAbs_natCast, Int.natAbs_natCast]
    show signX (quoM 55 (x * n) 1000000 false) false = _
    rw [signX, if_pos (by omega)]; rfl
  rw [e] at h
  exact h
/-- How Read ends. -/
def readV (off per k value : Int) : Value := if rdOk off per k value then .tuple #[.agg #[.int .i64 k, .int .i64 (max 0 (value - offN off per value)), .int .i64 (value + offN off per value)], .int .i64 0] else .tuple #[.agg #[.int .i64 0, .int .i64 0, .int .i64 0], .int .i64 2]
set_option maxRecDepth 100000 in
set_option maxHeartbeats 2000000 in
theorem read_any (off per k value : Int) (w : World) : Calls Try.prog 9 #[.agg #[.int .i64 off, .int .i64 per], .int .i64 k, .int .i64 value] w fun e w' => e = .returned (readV off per k value) ∧ Below w.heap.size w w' := by
  have H1 := hid (fun W => within21_any off 0 16777216 W)
  have H2 := hid (fun W => within22_any per 0 100000 W)
  have H3 := hid (fun W => within22_any k 0 15 W)
  have H4 := hid (fun W => within21_any value 0 6553600000 W)
  have HOB := hid (fun h => offN_b (off := off) (per := per) (k := k) (value := value) h)
  have HOK := hid (show rdOk off per k value = (inB off 0 16777216 && (inB per 0 100000 && (inB k 0 15 && inB value 0 6553600000))) from rfl)
  have HRV := hid (show readV off per k value = if rdOk off per k value then .tuple #[.agg #[.int .i64 k, .int .i64 (max 0 (value - offN off per value)), .int .i64 (value + offN off per value)], .int .i64 0] else .tuple #[.agg #[.int .i64 0, .int .i64 0, .int .i64 0], .int .i64 2] from rfl)
  have HON := hid (show offN off per value = (quoM 55 (value.toNat * per.toNat) 1000000 false : Nat) + off from rfl)
  have HBN := hid (show rdOk off per k value = true → (0 ≤ off ∧ off ≤ 16777216) ∧ (0 ≤ per ∧ per ≤ 100000) ∧ (0 ≤ k ∧ k ≤ 15) ∧ 0 ≤ value ∧ value ≤ 6553600000 from fun h => by
    simpa only [rdOk, inB, Bool.and_eq_true, decide_eq_true_eq] using h)
  generalize readV off per k value = rv at *
  generalize rdOk off per k value = ok at *
  generalize inB off 0 16777216 = b1 at *
  generalize inB per 0 100000 = b2 at *
  generalize inB k 0 15 = b3 at *
  generalize inB value 0 6553600000 = b4 at *
  obtain ⟨W1, hW1⟩ : ∃ W1, (w.alloc (.cells #[.int .i64 off, .int .i64 per] 25)).alloc (.cells #[.int .i64 0, .int .i64 0, .int .i64 0] 38) = W1 := ⟨_, rfl⟩
  have hz : W1.heap.size = w.heap.size + 2 := by rw [← hW1]; simp
  have hb1 : Below w.heap.size w W1 := by rw [← hW1]; exact ((Below.refl _ w).alloc (Nat.le_refl _) _).alloc (by simp) _
  have p0 : W1.heap[w.heap.size]? = some (.cells #[.int .i64 off, .int .i64 per] 25 (0, 0)) := by
    rw [← hW1, Below.heap_alloc _ _ _ (by simp)]; exact heap_alloc_new w _
  have p1 : W1.heap[w.heap.size + 1]? = some (.cells #[.int .i64 0, .int .i64 0, .int .i64 0] 38 (0, 0)) := by
    rw [← hW1]
    simpa using heap_alloc_new (w.alloc (.cells #[.int .i64 off, .int .i64 per] 25)) (.cells #[.int .i64 0, .int .i64 0, .int .i64 0] 38)
  have HB := hid hb1
  have HW := hid hW1
  have HP := hid (And.intro p0 p1)
  have q0 : W1.cell? ⟨w.heap.size, 0, none⟩ = some (.int .i64 off) := by simp [World.cell?, p0]
  have q1 : W1.cell? ⟨w.heap.size, 1, none⟩ = some (.int .i64 per) := by simp [World.cell?, p0]
  have q2 : W1.cell? ⟨w.heap.size + 1, 0, none⟩ = some (.int .i64 0) := by simp [World.cell?, p1]
  have q3 : W1.cell? ⟨w.heap.size + 1, 1, none⟩ = some (.int .i64 0) := by simp [World.cell?, p1]
  have q4 : W1.cell? ⟨w.heap.size + 1, 2, none⟩ = some (.int .i64 0) := by simp [World.cell?, p1]
  have f2 : W1.frozen? ⟨w.heap.size + 1, 0, none⟩ = false := by simp [World.frozen?, p1]
  have f3 : W1.frozen? ⟨w.heap.size + 1, 1, none⟩ = false := by simp [World.frozen?, p1]
  have f4 : W1.frozen? ⟨w.heap.size + 1, 2, none⟩ = false := by simp [World.frozen?, p1]
  clear hb1 hW1 p0 p1
  go_enter Try.func9, Try.ntmps9
  go_wp2_with fail
  rw [HW.out]
  refine (H1.out _).mono ?_
  rintro e w1 ⟨rfl, rfl⟩
  cases b1 with
  | false =>
    have HBAD := hid (show rv = .tuple #[.agg #[.int .i64 0, .int .i64 0, .int .i64 0], .int .i64 2] by rw [HRV.out, HOK.out]; rfl)
    go_wp2_with fail
    have hp := put3_same (.int .i64 0) (.int .i64 0) (.int .i64 0) HP.out.2
    have hb9 := (((HB.out).setCell (p := ⟨w.heap.size + 1, 0, none⟩) (by simp) (.int .i64 0)).setCell (p := ⟨w.heap.size + 1, 1, none⟩) (by simp) (.int .i64 0)).setCell (p := ⟨w.heap.size + 1, 2, none⟩) (by simp) (.int .i64 0)
    generalize ((w1.setCell ⟨w.heap.size + 1, 0, none⟩ (.int .i64 0)).setCell ⟨w.heap.size + 1, 1, none⟩ (.int .i64 0)).setCell ⟨w.heap.size + 1, 2, none⟩ (.int .i64 0) = W at *
    refine bodyPost_ret (results_c2 rfl _ _ _ ⟨w.heap.size + 1, 0, none⟩ _ rfl (load38 W (w.heap.size + 1) (.int .i64 0) (.int .i64 0) (.int .i64 0) (by simp [World.cell?, hp]) (by simp [World.cell?, hp]) (by simp [World.cell?, hp]))) rfl ⟨by rw [HBAD.out]; rfl, hb9⟩
  | true =>
  go_wp2_with fail
  refine (H2.out _).mono ?_
  rintro e w1 ⟨rfl, rfl⟩
  cases b2 with
  | false =>
    have HBAD := hid (show rv = .tuple #[.agg #[.int .i64 0, .int .i64 0, .int .i64 0], .int .i64 2] by rw [HRV.out, HOK.out]; rfl)
    go_wp2_with fail
    have hp := put3_same (.int .i64 0) (.int .i64 0) (.int .i64 0) HP.out.2
    have hb9 := (((HB.out).setCell (p := ⟨w.heap.size + 1, 0, none⟩) (by simp) (.int .i64 0)).setCell (p := ⟨w.heap.size + 1, 1, none⟩) (by simp) (.int .i64 0)).setCell (p := ⟨w.heap.size + 1, 2, none⟩) (by simp) (.int .i64 0)
    generalize ((w1.setCell ⟨w.heap.size + 1, 0, none⟩ (.int .i64 0)).setCell ⟨w.heap.size + 1, 1, none⟩ (.int .i64 0)).setCell ⟨w.heap.size + 1, 2, none⟩ (.int .i64 0) = W at *
    refine bodyPost_ret (results_c2 rfl _ _ _ ⟨w.heap.size + 1, 0, none⟩ _ rfl (load38 W (w.heap.size + 1) (.int .i64 0) (.int .i64 0) (.int .i64 0) (by simp [World.cell?, hp]) (by simp [World.cell?, hp]) (by simp [World.cell?, hp]))) rfl ⟨by rw [HBAD.out]; rfl, hb9⟩
  | true =>
  go_wp2_with fail
  refine (H3.out _).mono ?_
  rintro e w1 ⟨rfl, rfl⟩
  cases b3 with
  | false =>
    have HBAD := hid (show rv = .tuple #[.agg #[.int .i64 0, .int .i64 0, .int .i64 0], .int .i64 2] by rw [HRV.out, HOK.out]; rfl)
    go_wp2_with fail
    have hp := put3_same (.int .i64 0) (.int .i64 0) (.int .i64 0) HP.out.2
    have hb9 := (((HB.out).setCell (p := ⟨w.heap.size + 1, 0, none⟩) (by simp) (.int .i64 0)).setCell (p := ⟨w.heap.size + 1, 1, none⟩) (by simp) (.int .i64 0)).setCell (p := ⟨w.heap.size + 1, 2, none⟩) (by simp) (.int .i64 0)
    generalize ((w1.setCell ⟨w.heap.size + 1, 0, none⟩ (.int .i64 0)).setCell ⟨w.heap.size + 1, 1, none⟩ (.int .i64 0)).setCell ⟨w.heap.size + 1, 2, none⟩ (.int .i64 0) = W at *
    refine bodyPost_ret (results_c2 rfl _ _ _ ⟨w.heap.size + 1, 0, none⟩ _ rfl (load38 W (w.heap.size + 1) (.int .i64 0) (.int .i64 0) (.int .i64 0) (by simp [World.cell?, hp]) (by simp [World.cell?, hp]) (by simp [World.cell?, hp]))) rfl ⟨by rw [HBAD.out]; rfl, hb9⟩
  | true =>
  go_wp2_with fail
  refine (H4.out _).mono ?_
  rintro e w1 ⟨rfl, rfl⟩
  cases b4 with
  | false =>
    have HBAD := hid (show rv = .tuple #[.agg #[.int .i64 0, .int .i64 0, .int .i64 0], .int .i64 2] by rw [HRV.out, HOK.out]; rfl)
    go_wp2_with fail
    have hp := put3_same (.int .i64 0) (.int .i64 0) (.int .i64 0) HP.out.2
    have hb9 := (((HB.out).setCell (p := ⟨w.heap.size + 1, 0, none⟩) (by simp) (.int .i64 0)).setCell (p := ⟨w.heap.size + 1, 1, none⟩) (by simp) (.int .i64 0)).setCell (p := ⟨w.heap.size + 1, 2, none⟩) (by simp) (.int .i64 0)
    generalize ((w1.setCell ⟨w.heap.size + 1, 0, none⟩ (.int .i64 0)).setCell ⟨w.heap.size + 1, 1, none⟩ (.int .i64 0)).setCell ⟨w.heap.size + 1, 2, none⟩ (.int .i64 0) = W at *
    refine bodyPost_ret (results_c2 rfl _ _ _ ⟨w.heap.size + 1, 0, none⟩ _ rfl (load38 W (w.heap.size + 1) (.int .i64 0) (.int .i64 0) (.int .i64 0) (by simp [World.cell?, hp]) (by simp [World.cell?, hp]) (by simp [World.cell?, hp]))) rfl ⟨by rw [HBAD.out]; rfl, hb9⟩
  | true =>
  obtain rfl : ok = true := by rw [HOK.out]; rfl
  obtain ⟨⟨o1, o2⟩, ⟨o3, o4⟩, -, o5, o6⟩ := HBN.out rfl
  obtain ⟨d1, d2, d3⟩ := HOB.out rfl
  obtain ⟨n, rfl⟩ : ∃ n : Nat, (n : Int) = value := ⟨value.toNat, by omega⟩
  obtain ⟨m, rfl⟩ : ∃ m : Nat, (m : Int) = per := ⟨per.toNat, by omega⟩
  have HS := hid (fun W => scaleU_any n m (by omega) (by omega) W)
  have hon := HON.out
  rw [Int.toNat_natCast, Int.toNat_natCast] at hon
  generalize quoM 55 (n * m) 1000000 false = q at *
  have HRX := hid (show rv = .tuple #[.agg #[.int .i64 k, .int .i64 (max 0 ((n : Int) - offN off m n)), .int .i64 ((n : Int) + offN off m n)], .int .i64 0] by rw [HRV.out]; rfl)
  rw [hon] at HRX d1 d2 d3
  have e1 : 0 ≤ (q : Int) := by omega
  clear HRV HON HOB HBN HOK hon o5 o3
  go_wp2_with fail
  refine (HS.out _).mono ?_
  rintro e w2 ⟨rfl, hb2⟩
  have g0 := (hb2.block w.heap.size (by omega)).trans HP.out.1
  have g1 := (hb2.block (w.heap.size + 1) (by omega)).trans HP.out.2
  have HB2 := hid (btrans HB.out (by omega) hb2)
  have HG1 := hid g1
  clear q0 q1 q2 q3 q4 f2 f3 f4
  have q0 : w2.cell? ⟨w.heap.size, 0, none⟩ = some (.int .i64 off) := by simp [World.cell?, g0]
  have q2 : w2.cell? ⟨w.heap.size + 1, 0, none⟩ = some (.int .i64 0) := by simp [World.cell?, g1]
  have q3 : w2.cell? ⟨w.heap.size + 1, 1, none⟩ = some (.int .i64 0) := by simp [World.cell?, g1]
  have q4 : w2.cell? ⟨w.heap.size + 1, 2, none⟩ = some (.int .i64 0) := by simp [World.cell?, g1]
  have f2 : w2.frozen? ⟨w.heap.size + 1, 0, none⟩ = false := by simp [World.frozen?, g1]
  have f3 : w2.frozen? ⟨w.heap.size + 1, 1, none⟩ = false := by simp [World.frozen?, g1]
  have f4 : w2.frozen? ⟨w.heap.size + 1, 2, none⟩ = false := by simp [World.frozen?, g1]
  clear g0 g1 HP HB hb2 HS
  go_wp2_with fail
  all_goals
    first
    | skip
      have hp := put3_same (.int .i64 k) (.int .i64 0) (.int .i64 ((n : Int) + ((q : Int) + off))) HG1.out
      have hb9 := (((HB2.out).setCell (p := ⟨w.heap.size + 1, 0, none⟩) (by simp) (.int .i64 k)).setCell (p := ⟨w.heap.size + 1, 1, none⟩) (by simp) (.int .i64 0)).setCell (p := ⟨w.heap.size + 1, 2, none⟩) (by simp) (.int .i64 ((n : Int) + ((q : Int) + off)))
      generalize ((w2.setCell ⟨w.heap.size + 1, 0, none⟩ (.int .i64 k)).setCell ⟨w.heap.size + 1, 1, none⟩ (.int .i64 0)).setCell ⟨w.heap.size + 1, 2, none⟩ (.int .i64 ((n : Int) + ((q : Int) + off))) = W at *
      refine bodyPost_ret (results_c2 rfl _ _ _ ⟨w.heap.size + 1, 0, none⟩ _ rfl (load38 W (w.heap.size + 1) (.int .i64 k) (.int .i64 0) (.int .i64 ((n : Int) + ((q : Int) + off))) (by simp [World.cell?, hp]) (by simp [World.cell?, hp]) (by simp [World.cell?, hp]))) rfl ⟨by rw [HRX.out, show max 0 ((n : Int) - ((q : Int) + off)) = 0 by omega]; rfl, hb9⟩
    | skip
      have hp := put3_same (.int .i64 k) (.int .i64 ((n : Int) - ((q : Int) + off))) (.int .i64 ((n : Int) + ((q : Int) + off))) HG1.out
      have hb9 := (((HB2.out).setCell (p := ⟨w.heap.size + 1, 0, none⟩) (by simp) (.int .i64 k)).setCell (p := ⟨w.heap.size + 1, 1, none⟩) (by simp) (.int .i64 ((n : Int) - ((q : Int) + off)))).setCell (p := ⟨w.heap.size + 1, 2, none⟩) (by simp) (.int .i64 ((n : Int) + ((q : Int) + off)))
      generalize ((w2.setCell ⟨w.heap.size + 1, 0, none⟩ (.int .i64 k)).setCell ⟨w.heap.size + 1, 1, none⟩ (.int .i64 ((n : Int) - ((q : Int) + off)))).setCell ⟨w.heap.size + 1, 2, none⟩ (.int .i64 ((n : Int) + ((q : Int) + off))) = W at *
      refine bodyPost_ret (results_c2 rfl _ _ _ ⟨w.heap.size + 1, 0, none⟩ _ rfl (load38 W (w.heap.size + 1) (.int .i64 k) (.int .i64 ((n : Int) - ((q : Int) + off))) (.int .i64 ((n : Int) + ((q : Int) + off))) (by simp [World.cell?, hp]) (by simp [World.cell?, hp]) (by simp [World.cell?, hp]))) rfl ⟨by rw [HRX.out, show max 0 ((n : Int) - ((q : Int) + off)) = ((n : Int) - ((q : Int) + off)) by omega]; rfl, hb9⟩
/-- Is a reading valid for so many stones? -/
def rdRight (r : Mach) (many : Int) : Bool := inB r.cold 0 (many - 1) && (inB r.power 0 r.start && decide (r.start ≤ 70368744177664))
abbrev Mach.agg (m : Mach) : Value := .agg #[.int .i64 m.cold, .int .i64 m.power, .int .i64 m.start]
set_option maxRecDepth 100000 in
theorem right24_any (r : Mach) (w : World) : Calls Try.prog 24 #[r.agg, .int .i64 16] w fun e w' => e = .returned (.bool (rdRight r 16)) ∧ Below w.heap.size w w' := by
  obtain ⟨a, b, c⟩ := r
  have H1 := hid (fun W => within22_any a 0 15 W)
  have H2 := hid (fun W => within21_any b 0 c W)
  have HOK := hid (show rdRight ⟨a, b, c⟩ 16 = (inB a 0 15 && (inB b 0 c && decide (c ≤ 70368744177664))) from rfl)
  have HB := hid ((Below.refl w.heap.size w).alloc (Nat.le_refl _) (.cells #[.int .i64 a, .int .i64 b, .int .i64 c] 38))
  show Calls Try.prog 24 #[.agg #[.int .i64 a, .int .i64 b, .int .i64 c], .int .i64 16] w _
  generalize rdRight ⟨a, b, c⟩ 16 = ok at *
  generalize inB a 0 15 = b1 at *
  generalize inB b 0 c = b2 at *
  go_enter Try.func24, Try.ntmps24
  go_wp2_with fail
  refine (H1.out _).mono ?_
  rintro e w1 ⟨rfl, rfl⟩
  cases b1 with
  | false =>
    go_wp2_with fail
    go_ret
    exact ⟨by rw [HOK.out]; rfl, HB.out⟩
  | true =>
  go_wp2_with fail
  refine (H2.out _).mono ?_
  rintro e w1 ⟨rfl, rfl⟩
  cases b2 with
  | false =>
    go_wp2_with fail
    go_ret
    exact ⟨by rw [HOK.out]; rfl, HB.out⟩
  | true =>
  by_cases hc : c ≤ 70368744177664
  all_goals
    go_wp2_with fail
    go_ret
    exact ⟨by rw [HOK.out]; simp [hc], HB.out⟩
/-- What nearer answers. -/
def nearer2 (a b : Mach) : Int := if a.start < b.power then -1 else if b.start < a.power then 1 else 0
set_option maxRecDepth 100000 in
theorem nearer25_any (r s : Mach) (w : World) : Calls Try.prog 25 #[r.agg, s.agg] w fun e w' => e = .returned (.int .i64 (nearer2 r s)) ∧ Below w.heap.size w w' := by
  obtain ⟨a, b, c⟩ := r
  obtain ⟨d, f, g⟩ := s
  have HN := hid (show nearer2 ⟨a, b, c⟩ ⟨d, f, g⟩ = if c < f then -1 else if g < b then 1 else 0 from rfl)
  have HB := hid (((Below.refl w.heap.size w).alloc (Nat.le_refl _) (.cells #[.int .i64 a, .int .i64 b, .int .i64 c] 38)).alloc (by simp) (.cells #[.int .i64 d, .int .i64 f, .int .i64 g] 38))
  show Calls Try.prog 25 #[.agg #[.int .i64 a, .int .i64 b, .int .i64 c], .agg #[.int .i64 d, .int .i64 f, .int .i64 g]] w _
  generalize nearer2 ⟨a, b, c⟩ ⟨d, f, g⟩ = ans at *
  go_enter Try.func25, Try.ntmps25
  by_cases h1 : c < f
  · go_wp2_with fail
    go_ret
    exact ⟨by rw [HN.out, if_pos h1]; rfl, HB.out⟩
  · by_cases h2 : g < b
    · go_wp2_with fail
      go_ret
      exact ⟨by rw [HN.out, if_neg (by omega), if_pos (by omega)]; rfl, HB.out⟩
    · go_wp2_with fail
      go_ret
      exact ⟨by rw [HN.out, if_neg (by omega), if_neg (by omega)]; rfl, HB.out⟩
set_option maxRecDepth 100000 in
theorem nearer10_ok (r s : Mach) (hr : rdRight r 16 = true) (hs : rdRight s 16 = true) (w : World) : Calls Try.prog 10 #[r.agg, s.agg] w fun e w' => e = .returned (.tuple #[.int .i64 (nearer2 r s), .int .i64 0]) ∧ Below w.heap.size w w' := by
  have H1 := hid (fun W => right24_any r W)
  have H2 := hid (fun W => right24_any s W)
  have H3 := hid (fun W => nearer25_any r s W)
  rw [hr] at H1
  rw [hs] at H2
  generalize nearer2 r s = ans at *
  obtain ⟨a, b, c⟩ := r
  obtain ⟨d, f, g⟩ := s
  clear hr hs
  simp only [Mach.agg] at H1 H2 H3 ⊢
  obtain ⟨W1, hW1⟩ : ∃ W1, (w.alloc (.cells #[.int .i64 a, .int .i64 b, .int .i64 c] 38)).alloc (.cells #[.int .i64 d, .int .i64 f, .int .i64 g] 38) = W1 := ⟨_, rfl⟩
  have hz : W1.heap.size = w.heap.size + 2 := by rw [← hW1]; simp
  have hb1 : Below w.heap.size w W1 := by rw [← hW1]; exact ((Below.refl _ w).alloc (Nat.le_refl _) _).alloc (by simp) _
  have p0 : W1.heap[w.heap.size]? = some (.cells #[.int .i64 a, .int .i64 b, .int .i64 c] 38 (0, 0)) := by
    rw [← hW1, Below.heap_alloc _ _ _ (by simp)]; exact heap_alloc_new w _
  have p1 : W1.heap[w.heap.size + 1]? = some (.cells #[.int .i64 d, .int .i64 f, .int .i64 g] 38 (0, 0)) := by
    rw [← hW1]
    simpa using heap_alloc_new (w.alloc (.cells #[.int .i64 a, .int .i64 b, .int .i64 c] 38)) (.cells #[.int .i64 d, .int .i64 f, .int .i64 g] 38)
  have HC := hid (show ∀ U, Below W1.heap.size W1 U → (U.cell? ⟨w.heap.size, 0, none⟩ = some (.int .i64 a) ∧ U.cell? ⟨w.heap.size, 1, none⟩ = some (.int .i64 b) ∧ U.cell? ⟨w.heap.size, 2, none⟩ = some (.int .i64 c)) ∧ U.cell? ⟨w.heap.size + 1, 0, none⟩ = some (.int .i64 d) ∧ U.cell? ⟨w.heap.size + 1, 1, none⟩ = some (.int .i64 f) ∧ U.cell? ⟨w.heap.size + 1, 2, none⟩ = some (.int .i64 g) from fun U hb => by
    have h0 := (hb.block _ (by omega)).trans p0
    have h1 := (hb.block _ (by omega)).trans p1
    exact ⟨⟨by simp [World.cell?, h0], by simp [World.cell?, h0], by simp [World.cell?, h0]⟩, by simp [World.cell?, h1], by simp [World.cell?, h1], by simp [World.cell?, h1]⟩)
  have HB := hid hb1
  have HW := hid hW1
  clear hb1 hW1 p0 p1
  go_enter Try.func10, Try.ntmps10
  go_wp2_with fail
  rw [HW.out]
  refine (H1.out _).mono ?_
  rintro e w1 ⟨rfl, hb1⟩
  have HB1 := hid hb1
  clear hb1
  obtain ⟨⟨c0, c1, c2⟩, c3, c4, c5⟩ := HC.out _ HB1.out
  go_wp2_with fail
  refine (H2.out _).mono ?_
  rintro e w2 ⟨rfl, hb2⟩
  have HB2 := hid (HB1.out.trans (hb2.mono HB1.out.size))
  clear hb2 c0 c1 c2 c3 c4 c5
  obtain ⟨⟨c0, c1, c2⟩, c3, c4, c5⟩ := HC.out _ HB2.out
  go_wp2_with fail
  refine (H3.out _).mono ?_
  rintro e w3 ⟨rfl, hb3⟩
  have HB3 := hid (HB2.out.trans (hb3.mono HB2.out.size))
  clear hb3
  go_wp2_with fail
  go_ret2
  exact ⟨rfl, btrans HB.out (by omega) HB3.out⟩
end Go.Proofs.Ytolnhicngepnnaa
