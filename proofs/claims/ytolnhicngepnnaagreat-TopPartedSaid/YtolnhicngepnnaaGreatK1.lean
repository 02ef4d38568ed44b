/- fixed.Dot; contact.meet. -/
import Derived.Test.YtolnhicngepnnaaGreatC4
import Derived.Test.YtolnhicngepnnaaGreatC5
import Derived.Test.YtolnhicngepnnaaGreatX2
import Derived.ChangeKeysEq
namespace Go.Proofs.YtolnhicngepnnaaGreat
open Go.RowKit

/-- The product of two spots, rounded. -/
def dotX (f : FuncId) (ax ay bx by1 : Int) : Except Int Int :=
  if (decide (ax < 0) != decide (bx < 0)) = (decide (ay < 0) != decide (by1 < 0)) then signX (quoM f (ax.natAbs * bx.natAbs + ay.natAbs * by1.natAbs) 65536 (decide (ax < 0) != decide (bx < 0))) (decide (ax < 0) != decide (bx < 0))
  else if decide (0 ≤ cmpN (ax.natAbs * bx.natAbs) (ay.natAbs * by1.natAbs)) = true then signX (quoM f (ax.natAbs * bx.natAbs - ay.natAbs * by1.natAbs) 65536 (decide (ax < 0) != decide (bx < 0))) (decide (ax < 0) != decide (bx < 0))
  else signX (quoM f (ay.natAbs * by1.natAbs - ax.natAbs * bx.natAbs) 65536 (decide (ay < 0) != decide (by1 < 0))) (decide (ay < 0) != decide (by1 < 0))
theorem cmp_ge {x y : Nat} : 0 ≤ cmpN x y ↔ y ≤ x := by
  unfold cmpN
  split
  · omega
  · split <;> omega
theorem below_of {P : Ending → Prop} {args : Array Value} {f : FuncId} {w : World} (h : Calls Tryz.prog f args w fun e w' => P e ∧ w' = w) : Calls Tryz.prog f args w fun e w' => P e ∧ Below w.heap.size w w' :=
  h.mono fun e w' h => ⟨h.1, by rw [h.2]; exact Below.refl _ _⟩
set_option maxHeartbeats 1000000 in
theorem dot173_any (ax ay bx by1 how : Int) (f : FuncId) (hf : wayF how = some f) (hax : okF ax = true) (hay : okF ay = true) (hbx : okF bx = true) (hby : okF by1 = true) (hpq : ax.natAbs * bx.natAbs + ay.natAbs * by1.natAbs < 18446744073709551616)
    (pa pb ph : Nat) (w : World) (c0 : w.cell? ⟨pa, 0, none⟩ = some (.int .i64 ax)) (c1 : w.cell? ⟨pa, 1, none⟩ = some (.int .i64 ay)) (c2 : w.cell? ⟨pb, 0, none⟩ = some (.int .i64 bx)) (c3 : w.cell? ⟨pb, 1, none⟩ = some (.int .i64 by1)) (c4 : w.cell? ⟨ph, 0, none⟩ = some (.int .i64 how)) :
    Calls Tryz.prog 173 #[.pointer (some ⟨pa, 0, none⟩), .pointer (some ⟨pb, 0, none⟩), .pointer (some ⟨ph, 0, none⟩)] w fun e w' => EndsX (dotX f ax ay bx by1) e ∧ Below w.heap.size w w' := by
  have hw := wayF_is hf
  have a1 : -70368744177664 ≤ ax ∧ ax ≤ 70368744177664 := by simpa [okF] using hax
  have a2 : -70368744177664 ≤ ay ∧ ay ≤ 70368744177664 := by simpa [okF] using hay
  have a3 : -70368744177664 ≤ bx ∧ bx ≤ 70368744177664 := by simpa [okF] using hbx
  have a4 : -70368744177664 ≤ by1 ∧ by1 ≤ 70368744177664 := by simpa [okF] using hby
  refine dot173_core ax ay bx by1 how f ((ax.natAbs * bx.natAbs / 18446744073709551616 : Nat) : Int) ((ax.natAbs * bx.natAbs % 18446744073709551616 : Nat) : Int) ((ay.natAbs * by1.natAbs / 18446744073709551616 : Nat) : Int) ((ay.natAbs * by1.natAbs % 18446744073709551616 : Nat) : Int)
    (decide (ax < 0)) (decide (bx < 0)) (decide (ay < 0)) (decide (by1 < 0)) _ _ rfl rfl rfl rfl rfl rfl ax.natAbs bx.natAbs ay.natAbs by1.natAbs _ (cmpN (ax.natAbs * bx.natAbs) (ay.natAbs * by1.natAbs)) rfl _ _ _
    (wideV (ax.natAbs * bx.natAbs + ay.natAbs * by1.natAbs)) (wideV (ax.natAbs * bx.natAbs - ay.natAbs * by1.natAbs)) (wideV (ay.natAbs * by1.natAbs - ax.natAbs * bx.natAbs))
    (fun W => below_of (size_any ax (by omega) (by omega) W)) (fun W => below_of (size_any bx (by omega) (by omega) W)) (fun W => below_of (size_any ay (by omega) (by omega) W)) (fun W => below_of (size_any by1 (by omega) (by omega) W))
    (fun W => product_any ax.natAbs bx.natAbs (by omega) (by omega) W) (fun W => product_any ay.natAbs by1.natAbs (by omega) (by omega) W)
    (fun W v hs => (right_any v [ax, ay, bx, by1] W hs).mono fun e w' h => ⟨by have := h.1; rw [show ([ax, ay, bx, by1] : List Int).all okF = true by simp [hax, hay, hbx, hby]] at this; exact this, h.2⟩)
    (fun W => (ways_any how W).mono fun e w' h => ⟨by have := h.1; rw [hf] at this; exact this, h.2⟩)
    (fun _ W => plus_any _ _ (by omega) W)
    (fun _ W => compareW_any _ _ W)
    (fun _ h W => minus174_any _ _ (by omega) (cmp_ge.1 (of_decide_eq_true h)) W)
    (fun _ h W => minus174_any _ _ (by omega) (by have := of_decide_eq_false h; have := mt cmp_ge.2 this; omega) W)
    (fun _ W => quotient49_any f hw _ 65536 _ (by omega) (by omega) (by omega) W)
    (fun _ _ W => quotient49_any f hw _ 65536 _ (by omega) (by omega) (by omega) W)
    (fun _ _ W => quotient49_any f hw _ 65536 _ (by omega) (by omega) (by omega) W)
    pa pb ph w c0 c1 c2 c3 c4
theorem dot140_any (ax ay bx by1 how : Int) (f : FuncId) (hf : wayF how = some f) (hax : okF ax = true) (hay : okF ay = true) (hbx : okF bx = true) (hby : okF by1 = true) (hpq : ax.natAbs * bx.natAbs + ay.natAbs * by1.natAbs < 18446744073709551616) (w : World) :
    Calls Tryz.prog 140 #[.agg #[.int .i64 ax, .int .i64 ay], .agg #[.int .i64 bx, .int .i64 by1], .int .i64 how] w fun e w' => e = .returned (.tuple #[.int .i64 (valX (dotX f ax ay bx by1)), .int .i64 (errX (dotX f ax ay bx by1))]) ∧ Below w.heap.size w w' := by
  obtain ⟨W1, hW1, hz, hb1, p1, p2, p3⟩ := three_new w (.cells #[.int .i64 ax, .int .i64 ay] 28) (.cells #[.int .i64 bx, .int .i64 by1] 28) (.cells #[.int .i64 how] 3)
  have HT := hid (tried_any 173 #[.pointer (some ⟨w.heap.size, 0, none⟩), .pointer (some ⟨w.heap.size + 1, 0, none⟩), .pointer (some ⟨w.heap.size + 1 + 1, 0, none⟩)] (dotX f ax ay bx by1) W1 (enters_of Tryz.func173 (by kernel_rfl) rfl)
    (fun W hb => dot173_any ax ay bx by1 how f hf hax hay hbx hby hpq _ _ _ W (bcs hb (cellN p1 rfl)) (bcs hb (cellN p1 rfl)) (bcs hb (cellN p2 rfl)) (bcs hb (cellN p2 rfl)) (bcs hb (cellN p3 rfl))))
  have HW := hid hW1
  have HB := hid hb1
  have HZ := hid hz
  have hm := run_makeFunc
  clear hW1 hb1 p1 p2 p3 hf hax hay hbx hby hpq hz
  generalize dotX f ax ay bx by1 = r at *
  go_enter Tryz.func140, Tryz.ntmps140
  go_wp2_with fail
  rw [HW.out]
  clear HW
  refine HT.out.mono ?_
  rintro e w1 ⟨rfl, hb⟩
  have HB1 := hid (btrans HB.out (by have := HZ.out; omega) hb)
  clear hb HT HB HZ
  go_wp2_with fail
  go_ret2
  exact ⟨rfl, HB1.out⟩
theorem quo_le (f : FuncId) (x d : Nat) (neg : Bool) : quoM f x d neg ≤ x / d + 1 := by
  unfold quoM
  split
  · split <;> omega
  · omega
theorem sign_ok {n : Nat} (neg : Bool) {m : Nat} (h : n ≤ m) (hm : m ≤ 70368744177664) : ∃ z, signX n neg = .ok z ∧ -(m : Int) ≤ z ∧ z ≤ m := by
  unfold signX
  rw [if_pos (by omega)]
  refine ⟨_, rfl, ?_⟩
  cases neg
  · simp; omega
  · simp; omega
theorem dot_ok (f : FuncId) {ax ay bx by1 : Int} {N : Nat} (h : ax.natAbs * bx.natAbs + ay.natAbs * by1.natAbs ≤ N * 65536) (hN : N + 1 ≤ 70368744177664) : ∃ z, dotX f ax ay bx by1 = .ok z ∧ -((N + 1 : Nat) : Int) ≤ z ∧ z ≤ ((N + 1 : Nat) : Int) := by
  have key : ∀ (x : Nat) (neg : Bool), x ≤ N * 65536 → quoM f x 65536 neg ≤ N + 1 := fun x neg hx => by
    have := quo_le f x 65536 neg
    have : x / 65536 ≤ N := by omega
    omega
  unfold dotX
  split
  · exact sign_ok _ (key _ _ h) hN
  · split
    · exact sign_ok _ (key _ _ (by omega)) hN
    · exact sign_ok _ (key _ _ (by omega)) hN
/-- What a contact gives. -/
def pushA (_el : Int) (a b : BodyD) : Int :=
  valX (dotX 96 (a.m.vx - b.m.vx) (a.m.vy - b.m.vy) (unitF (b.m.x - a.m.x) (sqN (b.m.x - a.m.x) (b.m.y - a.m.y))) (unitF (b.m.y - a.m.y) (sqN (b.m.x - a.m.x) (b.m.y - a.m.y))))
def pushX (el : Int) (a b : BodyD) : Int := cutZ (unitF (b.m.x - a.m.x) (sqN (b.m.x - a.m.x) (b.m.y - a.m.y))) (cutZ (pushA el a b) (1000 + el) 2000) 65536
def pushY (el : Int) (a b : BodyD) : Int := cutZ (unitF (b.m.y - a.m.y) (sqN (b.m.x - a.m.x) (b.m.y - a.m.y))) (cutZ (pushA el a b) (1000 + el) 2000) 65536
def withV (b : BodyD) (vx vy : Int) : BodyD := { b with m := { b.m with vx := vx, vy := vy } }
def meetA (el : Int) (a b : BodyD) : BodyD := withV a (a.m.vx - pushX el a b) (a.m.vy - pushY el a b)
def meetB (el : Int) (a b : BodyD) : BodyD := withV b (b.m.vx + pushX el a b) (b.m.vy + pushY el a b)
def meetR (el : Int) (a b : BodyD) : Except Int (Option (BodyD × BodyD)) :=
  if pushA el a b ≤ 0 then .ok none
  else if ((meetA el a b).valid && (meetB el a b).valid) = true then .ok (some (meetA el a b, meetB el a b)) else .error 4
/-- How meet ends. -/
def MeetE (r : Except Int (Option (BodyD × BodyD))) (g oa ob : Nat) (cur : Array Value) (w : World) (e : Ending) (w' : World) : Prop :=
  match r with
  | .error c => e = .panicked (cmisfit c) ∧ Ch (fun k => k = g) w w'
  | .ok none => e = .returned (.bool false) ∧ Below w.heap.size w w'
  | .ok (some (a, b)) => e = .returned (.bool true) ∧ Ch (fun k => k = g) w w' ∧ ∃ cur', w'.heap[g]? = some (.cells cur' 174 (0, 0)) ∧ cur'.size = cur.size ∧ RowB cur' oa a ∧ RowB cur' ob b ∧ ∀ i, (i < oa ∨ oa + 8 ≤ i) → (i < ob ∨ ob + 8 ≤ i) → cur'[i]? = cur[i]?
theorem touch_pos {a b : BodyD} (h : touchB a b = true) : 0 < sqN (b.m.x - a.m.x) (b.m.y - a.m.y) := by
  unfold touchB at h
  have h2 : ¬ ((b.m.x - a.m.x = 0) ∧ (b.m.y - a.m.y = 0)) := by
    simp only [Bool.and_eq_true, Bool.not_eq_true', Bool.and_eq_false_iff, decide_eq_true_eq, decide_eq_false_iff_not] at h
    omega
  unfold sqN
  rcases Nat.eq_zero_or_pos (b.m.x - a.m.x).natAbs with h3 | h3
  · have h4 : 0 < (b.m.y - a.m.y).natAbs := by omega
    have := Nat.mul_pos h4 h4
    omega
  · have := Nat.mul_pos h3 h3
    omega
theorem meet82_any (el : Int) (hel : 0 ≤ el ∧ el ≤ 1000) (a b : BodyD) (ha : a.m.ok = true) (hb : b.m.ok = true) (ht : touchB a b = true) (g oa ob : Nat) (cur : Array Value) (w : World) (hg : w.heap[g]? = some (.cells cur 174 (0, 0)))
    (ra : RowB cur oa a) (rb : RowB cur ob b) (hd : oa + 8 ≤ ob ∨ ob + 8 ≤ oa) :
    Calls Tryz.prog 82 #[.pointer (some ⟨g, oa, none⟩), .pointer (some ⟨g, ob, none⟩), .int .i64 el] w fun e w' => MeetE (meetR el a b) g oa ob cur w e w' := by
  have A := movOk_b ha
  have B := movOk_b hb
  have hsq := touch_pos ht
  have hux := unitF_le (b.m.x - a.m.x) (sqN (b.m.x - a.m.x) (b.m.y - a.m.y))
  have huy := unitF_le (b.m.y - a.m.y) (sqN (b.m.x - a.m.x) (b.m.y - a.m.y))
  have o1 : okF (b.m.x - a.m.x) = true := okF_of (by omega) (by omega)
  have o2 : okF (b.m.y - a.m.y) = true := okF_of (by omega) (by omega)
  obtain ⟨ux, hux'⟩ : ∃ u, unitF (b.m.x - a.m.x) (sqN (b.m.x - a.m.x) (b.m.y - a.m.y)) = u := ⟨_, rfl⟩
  obtain ⟨uy, huy'⟩ : ∃ u, unitF (b.m.y - a.m.y) (sqN (b.m.x - a.m.x) (b.m.y - a.m.y)) = u := ⟨_, rfl⟩
  have HU : ∀ W, Calls Tryz.prog 138 #[.agg #[.int .i64 (b.m.x - a.m.x), .int .i64 (b.m.y - a.m.y)]] W fun e w' => e = .returned (.tuple #[.agg #[.int .i64 ux, .int .i64 uy], .int .i64 0]) ∧ Below W.heap.size W w' := fun W => by
    rw [← hux', ← huy']; exact unit138_any _ _ o1 o2 hsq W
  rw [hux'] at hux
  rw [huy'] at huy
  have hj0 : pushA el a b = valX (dotX 96 (a.m.vx - b.m.vx) (a.m.vy - b.m.vy) ux uy) := by unfold pushA; rw [hux', huy']
  have hpx : pushX el a b = cutZ ux (cutZ (pushA el a b) (1000 + el) 2000) 65536 := by unfold pushX; rw [hux']
  have hpy : pushY el a b = cutZ uy (cutZ (pushA el a b) (1000 + el) 2000) 65536 := by unfold pushY; rw [huy']
  have hprod : (a.m.vx - b.m.vx).natAbs * ux.natAbs + (a.m.vy - b.m.vy).natAbs * uy.natAbs ≤ 262144000 * 65536 := by
    have h1 : (a.m.vx - b.m.vx).natAbs * ux.natAbs ≤ 131072000 * 65536 := Nat.mul_le_mul (by omega) (by omega)
    have h2 : (a.m.vy - b.m.vy).natAbs * uy.natAbs ≤ 131072000 * 65536 := Nat.mul_le_mul (by omega) (by omega)
    omega
  obtain ⟨z0, hz0, hz1, hz2⟩ := dot_ok 96 hprod (by omega)
  have hj : pushA el a b = z0 := by rw [hj0, hz0]; rfl
  have HD : ∀ W, Calls Tryz.prog 140 #[.agg #[.int .i64 (a.m.vx - b.m.vx), .int .i64 (a.m.vy - b.m.vy)], .agg #[.int .i64 ux, .int .i64 uy], .int .i64 1] W fun e w' => e = .returned (.tuple #[.int .i64 (pushA el a b), .int .i64 0]) ∧ Below W.heap.size W w' := fun W => by
    have h := dot140_any (a.m.vx - b.m.vx) (a.m.vy - b.m.vy) ux uy 1 96 rfl (okF_of (by omega) (by omega)) (okF_of (by omega) (by omega)) (okF_of (by omega) (by omega)) (okF_of (by omega) (by omega)) (by omega) W
    rw [hz0] at h
    rw [hj]
    exact h
  have o3 : okF (pushA el a b) = true := okF_of (by omega) (by omega)
  obtain ⟨j, hjj⟩ : ∃ j, pushA el a b = j := ⟨_, rfl⟩
  rw [hjj] at hj hpx hpy HD o3
  have hjn : j.natAbs ≤ 262144001 := by omega
  have hm1 : j.natAbs * (1000 + el).natAbs ≤ 262144001 * 2000 := Nat.mul_le_mul hjn (by omega)
  obtain ⟨z, hz⟩ : ∃ z, cutZ j (1000 + el) 2000 = z := ⟨_, rfl⟩
  have hzb : -262144001 ≤ z ∧ z ≤ 262144001 := by
    have := cutZ_le (a := j) (b := 1000 + el) (d := 2000) (m := 262144001) hm1
    rw [show ((2000 : Nat) : Int) = 2000 from rfl, hz] at this
    exact this
  have HS : ∀ W, Calls Tryz.prog 55 #[.int .i64 j, .int .i64 (1000 + el), .int .i64 2000, .int .i64 0] W fun e w' => e = .returned (.tuple #[.int .i64 z, .int .i64 0]) ∧ Below W.heap.size W w' := fun W => by
    have h := scale23_any j (1000 + el) 2000 0 95 rfl o3 (by omega) (by omega) (by omega) (by omega) W
    have h2 := scale_cut j (1000 + el) 2000 (by omega) (by
      have : j.natAbs * (1000 + el).natAbs / 2000 ≤ 262144001 := Nat.div_le_of_le_mul (by omega)
      omega)
    rw [show ((2000 : Nat) : Int) = 2000 from rfl, hz] at h2
    rw [h2] at h
    exact h
  have hzn : z.natAbs ≤ 262144001 := by omega
  have hx3 : ux.natAbs * z.natAbs ≤ 262144001 * 65536 := by
    have := Nat.mul_le_mul (show ux.natAbs ≤ 65536 by omega) hzn
    omega
  have hy3 : uy.natAbs * z.natAbs ≤ 262144001 * 65536 := by
    have := Nat.mul_le_mul (show uy.natAbs ≤ 65536 by omega) hzn
    omega
  rw [hz] at hpx hpy
  have HT : ∀ W, Calls Tryz.prog 141 #[.agg #[.int .i64 ux, .int .i64 uy], .int .i64 z, .int .i64 0] W fun e w' => e = .returned (.tuple #[.agg #[.int .i64 (pushX el a b), .int .i64 (pushY el a b)], .int .i64 0]) ∧ Below W.heap.size W w' := fun W => by
    rw [hpx, hpy]
    exact times141_cut ux uy z (okF_of (by omega) (by omega)) (okF_of (by omega) (by omega)) (okF_of (by omega) (by omega)) (by omega) (by omega) W
  have hpxb : -262144001 ≤ pushX el a b ∧ pushX el a b ≤ 262144001 := by rw [hpx]; exact cutZ_le (d := 65536) (m := 262144001) hx3
  have hpyb : -262144001 ≤ pushY el a b ∧ pushY el a b ≤ 262144001 := by rw [hpy]; exact cutZ_le (d := 65536) (m := 262144001) hy3
  have hmA : meetA el a b = ⟨a.team, a.n, ⟨a.m.x, a.m.y, a.m.vx - pushX el a b, a.m.vy - pushY el a b, a.m.sp⟩, a.out⟩ := rfl
  have hmB : meetB el a b = ⟨b.team, b.n, ⟨b.m.x, b.m.y, b.m.vx + pushX el a b, b.m.vy + pushY el a b, b.m.sp⟩, b.out⟩ := rfl
  have hR : meetR el a b = if j ≤ 0 then .ok none else if ((meetA el a b).valid && (meetB el a b).valid) = true then .ok (some (meetA el a b, meetB el a b)) else .error 4 := by unfold meetR; rw [hjj]
  have V1 := fun W => valid129_any (meetA el a b) W
  have V2 := fun W => valid129_any (meetB el a b) W
  have H := meet82_core a.team a.n a.m.x a.m.y a.m.vx a.m.vy a.m.sp a.out b.team b.n b.m.x b.m.y b.m.vx b.m.vy b.m.sp b.out (b.m.x - a.m.x) (b.m.y - a.m.y) ux uy (a.m.vx - b.m.vx) (a.m.vy - b.m.vy) j el (1000 + el) z (pushX el a b) (pushY el a b)
    (a.m.vx - pushX el a b) (a.m.vy - pushY el a b) (b.m.vx + pushX el a b) (b.m.vy + pushY el a b) (meetA el a b).valid (meetB el a b).valid (by rw [IntKind.wrap_i64]; omega) g oa ob cur w hg ra rb hd
    (fun W => minus_ok (okF_of (by omega) (by omega)) (okF_of (by omega) (by omega)) (okF_of (by omega) (by omega)) (okF_of (by omega) (by omega)) o1 o2 W)
    HU
    (fun W => minus_ok (okF_of (by omega) (by omega)) (okF_of (by omega) (by omega)) (okF_of (by omega) (by omega)) (okF_of (by omega) (by omega)) (okF_of (by omega) (by omega)) (okF_of (by omega) (by omega)) W)
    HD (fun _ => HS) (fun _ => HT)
    (fun _ W => minus_ok (okF_of (by omega) (by omega)) (okF_of (by omega) (by omega)) (okF_of (by omega) (by omega)) (okF_of (by omega) (by omega)) (okF_of (by omega) (by omega)) (okF_of (by omega) (by omega)) W)
    (fun _ W => plus_ok (okF_of (by omega) (by omega)) (okF_of (by omega) (by omega)) (okF_of (by omega) (by omega)) (okF_of (by omega) (by omega)) (okF_of (by omega) (by omega)) (okF_of (by omega) (by omega)) W)
    V1 V2
  refine H.mono ?_
  rintro e w' (⟨h1, h2, h3⟩ | ⟨h1, h2, h3, h4⟩)
  · rw [hR, if_pos h1]
    exact ⟨h2, h3⟩
  · rw [hR, if_neg (by omega)]
    by_cases hv : ((meetA el a b).valid && (meetB el a b).valid) = true
    · rw [if_pos hv]
      rw [if_pos hv] at h4
      refine ⟨h4, h3, _, h2, by simp [setV], ?_, ?_, fun i hi hi2 => ?_⟩
      · exact (ra.same _ _).other hd _ _
      · exact (rb.other (by omega) _ _).same _ _
      · rw [setV_oth _ _ (by omega) (by omega), setV_oth _ _ (by omega) (by omega)]
    · rw [if_neg hv]
      rw [if_neg hv] at h4
      exact ⟨h4, h3⟩
end Go.Proofs.YtolnhicngepnnaaGreat
/- contact: scenes read; names in a map. -/
namespace Go.Proofs.YtolnhicngepnnaaGreat
open Go.RowKit

def BodyD.cells (b : BodyD) : List Value := [.int .i64 b.team, .int .i64 b.n, .int .i64 b.m.x, .int .i64 b.m.y, .int .i64 b.m.vx, .int .i64 b.m.vy, .int .i64 b.m.sp, .bool b.out]
theorem body_arr (b : BodyD) (c : Nat) : b.cells[c]? = b.arr[c]? := by simp [BodyD.cells, BodyD.arr]
theorem body_get (l : List BodyD) (j : Nat) (h : j < l.length) (c : Nat) (hc : c < 8) : (l.flatMap BodyD.cells)[j * 8 + c]? = l[j].arr[c]? := by
  rw [flat_get BodyD.cells 8 (fun _ => rfl) l j h c hc, body_arr]
/-- A slice of bodies, read. -/
def SlB (w : World) (v : Value) (l : List BodyD) : Prop := SlV w v l.length (l.flatMap BodyD.cells)
theorem SlB.below {w w' : World} {v : Value} {l : List BodyD} (h : SlB w v l) (hb : Below w.heap.size w w') : SlB w' v l := SlV.below h hb
theorem SlB.open {w : World} {v : Value} {l : List BodyD} (h : SlB w v l) :
    ∃ a cap, v = .slice a l.length cap ∧ l.length ≤ 140737488351232 ∧ ∀ k, k < l.length → ∃ b off, a = some ⟨b, off, none⟩ ∧ b < w.heap.size ∧ ∀ j (h : j < l.length) c, c < 8 → w.cell? ⟨b, off + j * 8 + c, none⟩ = l[j].arr[c]? := by
  obtain ⟨a, cap, rfl, hn, hc⟩ := h
  refine ⟨a, cap, rfl, hn, fun k hk => ?_⟩
  rcases hc with hc | ⟨b, off, rfl, hlt, hc⟩
  · omega
  · refine ⟨b, off, rfl, hlt, fun j hj c hc8 => ?_⟩
    have h1 := body_get l j hj c hc8
    have h8 : l[j].arr[c]? = some (l[j].arr[c]'(by simpa [BodyD.arr] using hc8)) := Array.getElem?_eq_getElem _
    rw [h8] at h1 ⊢
    obtain ⟨h2, h3⟩ := List.getElem?_eq_some_iff.1 h1
    rw [Nat.add_assoc, hc _ h2, h3]
def enc2 (x : Int × Int) : Value := .agg #[.int .i64 x.1, .int .i64 x.2]
theorem sameBits2 (k : Int × Int) (n : Nat) : Instr.sameBits (n + 1) (enc2 k) (enc2 k) = true := by simp [enc2, Instr.sameBits, sameBits_int]
/-- A set of names. -/
def SeenN (w : World) (b : Nat) (l : List (Int × Int)) : Prop := ∃ M, MapF enc2 w b M ∧ (∀ k, (M k).isSome = decide (k ∈ l)) ∧ ∀ k v, M k = some v → v = .bool true
theorem SeenN.below {w w' : World} {b : Nat} {l : List (Int × Int)} (h : SeenN w b l) (hb : Below w.heap.size w w') : SeenN w' b l := by
  obtain ⟨M, h1, h2⟩ := h; exact ⟨M, h1.below' hb, h2⟩
theorem SeenN.lt {w : World} {b : Nat} {l : List (Int × Int)} (h : SeenN w b l) : b < w.heap.size := by obtain ⟨M, h1, _⟩ := h; exact h1.lt
theorem SeenN.made (w : World) : SeenN (w.alloc (.map #[] 0)) w.heap.size [] := ⟨_, MapF.made w, fun k => by simp, fun k v h => by cases h⟩
theorem info_parts {P : Program} {t : TypeId} {z : Value} {s b : Nat} (h : (P.info? t).map (fun i => (i.zero, i.size, i.bytes)) = some (some z, s, b)) : ∃ i, P.info? t = some i ∧ i.zero = some z ∧ i.size = s ∧ i.bytes = b := by
  obtain ⟨i, h1, h2⟩ := Option.map_eq_some_iff.1 h
  simp only [Prod.mk.injEq] at h2
  exact ⟨i, h1, h2.1, h2.2.1, h2.2.2⟩
theorem eq55 (k k' : Int × Int) (n : Nat) (w : World) : (Op.equalIn (n + 2) 55 (enc2 k) (enc2 k')).run Tryz.prog w = .ok (decide (k = k')) w := by
  obtain ⟨a, b⟩ := k
  obtain ⟨c, d⟩ := k'
  simp only [enc2]
  obtain ⟨i0, hi, hz0, hz1, hz2⟩ := info_parts (show (Tryz.prog.info? 3).map (fun i => (i.zero, i.size, i.bytes)) = some (some (.int .i64 0), 1, 8) from by kernel_rfl)
  have hc : Tryz.prog.cellsOf 3 = 1 := by kernel_rfl
  rw [run_equalIn_array (P := Tryz.prog) (w := w) (n + 1) (xs := #[.int .i64 a, .int .i64 b]) (ys := #[.int .i64 c, .int .i64 d]) (hu := Tryz.underlying55) (hi := hi), hc]
  simp only [show List.range 2 = [0, 1] from rfl, Op.eqItems]
  by_cases h1 : a = c <;> by_cases h2 : b = d <;> simp [go_sem, h1, h2]
theorem chk55 (k : Int × Int) (b : Bool) (w : World) : (Instr.checkKey b 10000 55 (enc2 k)).run Tryz.prog w = .ok () w := by
  simp only [enc2]
  cases b <;> kernel_rfl
theorem findAsking_ofT (t : TypeId) (h : ∀ k k' w, (Op.equal t (enc2 k) (enc2 k')).run Tryz.prog w = .ok (decide (k = k')) w) (k : Int × Int) : ∀ (es : List MapEntry) (m : List ((Int × Int) × Value)) (i : Nat) (w : World), es.map (fun e => (e.key, e.val)) = m.map (fun x => (enc2 x.1, x.2)) → (Instr.findAsking t (enc2 k) es i).run Tryz.prog w = .ok (findM k m i) w
  | [], [], _, _, _ => rfl
  | [], _ :: _, _, _, he => by simp at he
  | _ :: _, [], _, _, he => by simp at he
  | e :: es, (k', v) :: m, i, w, he => by
    simp only [List.map_cons, List.cons.injEq, Prod.mk.injEq] at he
    obtain ⟨⟨h1, h2⟩, h3⟩ := he
    simp only [Instr.findAsking, findM, Sem.run_bind, h1, h, Result.andThen_ok]
    by_cases hk : k = k'
    · simp [hk, h2]
    · simp only [hk, decide_false, if_false, Bool.false_eq_true]
      exact findAsking_ofT t h k es m (i + 1) w h3
theorem key55 : KeyT Tryz.prog 55 (Int × Int) enc2 where
  find := fun k es m w he => by
    cases es with
    | nil =>
      cases m with
      | nil => simp [Instr.findKey, run_underlying Tryz.underlying55, Instr.findNow, findM, Result.andThen]
      | cons x m => simp at he
    | cons e es =>
      have hn : ∀ n d, Instr.findNow (.array n d) (enc2 k) (e :: es) 0 = none := fun n d => by
        cases m with
        | nil => simp at he
        | cons x m =>
          simp only [List.map_cons, List.cons.injEq, Prod.mk.injEq] at he
          simp [Instr.findNow, Instr.sameNow]
      simp [Instr.findKey, run_underlying Tryz.underlying55, hn, findAsking_ofT 55 (fun k k' w => eq55 k k' 9998 w) k _ m 0 w he, Result.andThen]
  check := fun b k w => chk55 k b w
  same := fun k => sameBits2 k 9999
set_option maxRecDepth 100000 in
theorem SeenN.look223 {w : World} {b : Nat} {l : List (Int × Int)} (h : SeenN w b l) (k : Int × Int) : (Instr.lookup 223 (.map (some b)) (.agg #[.int .i64 k.1, .int .i64 k.2]) false).run Tryz.prog w = .ok (.bool (decide (k ∈ l))) w := by
  obtain ⟨M, h1, h2, h3⟩ := h
  have hz : (zeroValue 4).run Tryz.prog w = .ok (.bool false) w := by kernel_rfl
  have := MapF.lookup key55 Tryz.underlying223 h1 hz k
  rw [show enc2 k = .agg #[.int .i64 k.1, .int .i64 k.2] from rfl] at this
  rw [this]
  congr 1
  cases e : M k with
  | none => have := h2 k; rw [e] at this; simp at this; simp [this]
  | some v => have h4 := h2 k; rw [e] at h4; simp at h4; rw [h3 k v e]; simp [h4]
set_option maxRecDepth 100000 in
theorem SeenN.add223 {w : World} {b : Nat} {l : List (Int × Int)} (h : SeenN w b l) (k : Int × Int) :
    ∃ w', (Instr.mapUpdate 223 (.map (some b)) (.agg #[.int .i64 k.1, .int .i64 k.2]) (.bool true)).run Tryz.prog w = .ok () w' ∧ SeenN w' b (l ++ [k]) ∧ w.grownBy w' (some b) ∧ w'.heap.size = w.heap.size := by
  obtain ⟨M, h1, h2, h3⟩ := h
  obtain ⟨w', hr, hM, hg, hz⟩ := MapF.update key55 Tryz.underlying223 h1 k (.bool true)
  refine ⟨w', hr, ⟨_, hM, fun k' => ?_, fun k' v hv => ?_⟩, hg, hz⟩
  · by_cases e : k' = k
    · simp [e]
    · simp only [e, if_false, h2]; simp [e]
  · by_cases e : k' = k
    · simp only [e, if_true] at hv; injection hv with hv; exact hv.symm
    · simp only [e, if_false] at hv; exact h3 k' v hv

def nameB (b : BodyD) : Int × Int := (b.team, b.n)
/-- Does a body that is out rest? -/
def outOk (b : BodyD) : Bool := !(b.out && (!restM b.m || !decide (b.m.sp = 0)))
def bNames : List BodyD → List (Int × Int) → Bool
  | [], _ => true
  | s :: r, seen => s.valid && !decide (nameB s ∈ seen) && outOk s && bNames r (seen ++ [nameB s])
theorem bNames_step (l : List BodyD) (k : Nat) (h : k < l.length) : bNames (l.drop k) ((l.take k).map nameB) = (l[k].valid && !decide (nameB l[k] ∈ (l.take k).map nameB) && outOk l[k] && bNames (l.drop (k + 1)) ((l.take (k + 1)).map nameB)) := by
  rw [List.drop_eq_getElem_cons h, bNames, List.take_succ_eq_append_getElem h, List.map_append]
  rfl
def sceneOk (l : List BodyD) : Bool := decide (l.length ≤ 16) && bNames l []
set_option maxRecDepth 100000 in
set_option maxHeartbeats 8000000 in
theorem check77_any (v : Value) (l : List BodyD) (w : World) (hs : SlB w v l) : Calls Tryz.prog 77 #[v] w fun e w' => e = .returned (.int .i64 (if sceneOk l then 0 else 2)) ∧ Below w.heap.size w w' := by
  obtain ⟨a, cap, rfl, hll, hc⟩ := hs.open
  have HC := hid hc
  have HCR := hid (show sceneOk l = (decide (l.length ≤ 16) && bNames l []) from rfl)
  obtain ⟨ans, hans⟩ : ∃ ans : Int, (if sceneOk l = true then 0 else 2) = ans := ⟨_, rfl⟩
  rw [hans]
  have HAN := hid (show ∀ b, sceneOk l = b → ans = if b = true then 0 else 2 from fun b h => by rw [← hans, h])
  clear hans
  clear hc hs
  by_cases h16 : l.length ≤ 16
  · have h16' : (l.length : Int) ≤ 16 := by omega
    have hmm := @run_makeMap Tryz.prog
    go_enter Tryz.func77, Tryz.ntmps77
    go_wp2_with fail
    have hb0 : Below w.heap.size w (w.alloc (.map #[] 0)) := (Below.refl _ _).alloc (Nat.le_refl _) _
    have hs0 := SeenN.made w
    have hz0 : (w.alloc (.map #[] 0)).heap.size = w.heap.size + 1 := by simp
    generalize w.alloc (.map #[] 0) = W0 at *
    have HB0 := hid hb0
    have HS0 := hid hs0
    have HZ0 := hid hz0
    clear hb0 hs0 hz0 hmm
    go_loopw [13] (fun i wr => ∃ k : Nat, k ≤ l.length ∧ i = .int .i64 k ∧ Below w.heap.size w wr ∧ SeenN wr w.heap.size ((l.take k).map nameB) ∧ bNames l [] = bNames (l.drop k) ((l.take k).map nameB)) (fun i _ => l.length - (intOf i).toNat)
    case atStart => exact ⟨0, Nat.zero_le _, rfl, HB0.out, HS0.out, rfl⟩
    case round =>
      obtain ⟨k, hk, rfl, hb, hsn, hnm⟩ := hrel
      obtain ⟨wo, rfl⟩ : ∃ wo, wo = wr := ⟨_, rfl⟩
      have HB := hid hb
      have HSN := hid hsn
      have HNM := hid hnm
      clear hsn hnm
      by_cases hlt : k < l.length
      · have HST := hid (HNM.out.trans (bNames_step l k hlt))
        obtain ⟨b, off, rfl, hbl, hc⟩ := HC.out k hlt
        have hx0 := (hb.cell (p := ⟨b, off + k * 8 + 0, none⟩) hbl).trans (hc k hlt 0 (by omega))
        have hx1 := (hb.cell (p := ⟨b, off + k * 8 + 1, none⟩) hbl).trans (hc k hlt 1 (by omega))
        have hx2 := (hb.cell (p := ⟨b, off + k * 8 + 2, none⟩) hbl).trans (hc k hlt 2 (by omega))
        have hx3 := (hb.cell (p := ⟨b, off + k * 8 + 3, none⟩) hbl).trans (hc k hlt 3 (by omega))
        have hx4 := (hb.cell (p := ⟨b, off + k * 8 + 4, none⟩) hbl).trans (hc k hlt 4 (by omega))
        have hx5 := (hb.cell (p := ⟨b, off + k * 8 + 5, none⟩) hbl).trans (hc k hlt 5 (by omega))
        have hx6 := (hb.cell (p := ⟨b, off + k * 8 + 6, none⟩) hbl).trans (hc k hlt 6 (by omega))
        have hx7 := (hb.cell (p := ⟨b, off + k * 8 + 7, none⟩) hbl).trans (hc k hlt 7 (by omega))
        clear hc hb
        obtain ⟨x, hxe⟩ : ∃ x, l[k] = x := ⟨_, rfl⟩
        rw [hxe] at hx0 hx1 hx2 hx3 hx4 hx5 hx6 hx7 HST
        have HX := hid hxe
        clear hxe
        obtain ⟨seen, hseen⟩ : ∃ s, (l.take k).map nameB = s := ⟨_, rfl⟩
        rw [hseen] at HST HSN
        have HSE := hid hseen
        clear hseen
        obtain ⟨team, n, ⟨px, py, vx, vy, sp⟩, out⟩ := x
        have y0 : wo.cell? ⟨b, off + k * 8, none⟩ = some (.int .i64 team) := hx0
        have y1 : wo.cell? ⟨b, off + k * 8 + 1, none⟩ = some (.int .i64 n) := hx1
        have y2 : wo.cell? ⟨b, off + k * 8 + 2, none⟩ = some (.int .i64 px) := hx2
        have y3 : wo.cell? ⟨b, off + k * 8 + 3, none⟩ = some (.int .i64 py) := hx3
        have y4 : wo.cell? ⟨b, off + k * 8 + 4, none⟩ = some (.int .i64 vx) := hx4
        have y5 : wo.cell? ⟨b, off + k * 8 + 5, none⟩ = some (.int .i64 vy) := hx5
        have y6 : wo.cell? ⟨b, off + k * 8 + 6, none⟩ = some (.int .i64 sp) := hx6
        have y7 : wo.cell? ⟨b, off + k * 8 + 7, none⟩ = some (.bool out) := hx7
        clear hx0 hx1 hx2 hx3 hx4 hx5 hx6 hx7
        go_upto_region 7 with fail
        obtain ⟨W1, hW1⟩ : ∃ W1, wo.alloc (.cells #[.int .i64 team, .int .i64 n, .int .i64 px, .int .i64 py, .int .i64 vx, .int .i64 vy, .int .i64 sp, .bool out] 72) = W1 := ⟨_, rfl⟩
        obtain ⟨W2, hW2⟩ : ∃ W2, W1.alloc (.cells #[.int .i64 team, .int .i64 n, .int .i64 px, .int .i64 py, .int .i64 vx, .int .i64 vy, .int .i64 sp, .bool out] 174) = W2 := ⟨_, rfl⟩
        have hz1 : W1.heap.size = wo.heap.size + 1 := by rw [← hW1]; simp
        have hz2 : W2.heap.size = wo.heap.size + 2 := by rw [← hW2, ← hW1]; simp
        have hbb1 : Below wo.heap.size wo W1 := by rw [← hW1]; exact (Below.refl _ wo).alloc (Nat.le_refl _) _
        have hbb2 : Below wo.heap.size wo W2 := by rw [← hW2]; exact hbb1.alloc (by omega) _
        have hbx1 : W1.heap[wo.heap.size]? = some (.cells #[.int .i64 team, .int .i64 n, .int .i64 px, .int .i64 py, .int .i64 vx, .int .i64 vy, .int .i64 sp, .bool out] 72 (0, 0)) := by rw [← hW1]; exact heap_alloc_new wo _
        have hby2 : W2.heap[wo.heap.size + 1]? = some (.cells #[.int .i64 team, .int .i64 n, .int .i64 px, .int .i64 py, .int .i64 vx, .int .i64 vy, .int .i64 sp, .bool out] 174 (0, 0)) := by
          rw [← hW2, ← hz1]; exact heap_alloc_new W1 _
        have c0 := cellN (i := 0) (v := .int .i64 team) hbx1 rfl
        have c1 := cellN (i := 1) (v := .int .i64 n) hbx1 rfl
        have c2 := cellN (i := 2) (v := .int .i64 px) hbx1 rfl
        have c3 := cellN (i := 3) (v := .int .i64 py) hbx1 rfl
        have c4 := cellN (i := 4) (v := .int .i64 vx) hbx1 rfl
        have c5 := cellN (i := 5) (v := .int .i64 vy) hbx1 rfl
        have c6 := cellN (i := 6) (v := .int .i64 sp) hbx1 rfl
        have c7 := cellN (i := 7) (v := .bool out) hbx1 rfl
        have HQ := hid (show ∀ W : World, W.heap[wo.heap.size + 1]? = some (.cells #[.int .i64 team, .int .i64 n, .int .i64 px, .int .i64 py, .int .i64 vx, .int .i64 vy, .int .i64 sp, .bool out] 174 (0, 0)) → W.cell? ⟨wo.heap.size + 1, 0, none⟩ = some (.int .i64 team) ∧ W.cell? ⟨wo.heap.size + 1, 1, none⟩ = some (.int .i64 n) ∧ W.cell? ⟨wo.heap.size + 1, 2, none⟩ = some (.int .i64 px) ∧ W.cell? ⟨wo.heap.size + 1, 3, none⟩ = some (.int .i64 py) ∧ W.cell? ⟨wo.heap.size + 1, 4, none⟩ = some (.int .i64 vx) ∧ W.cell? ⟨wo.heap.size + 1, 5, none⟩ = some (.int .i64 vy) ∧ W.cell? ⟨wo.heap.size + 1, 6, none⟩ = some (.int .i64 sp) ∧ W.cell? ⟨wo.heap.size + 1, 7, none⟩ = some (.bool out) from fun W h => ⟨cellN h rfl, cellN h rfl, cellN h rfl, cellN h rfl, cellN h rfl, cellN h rfl, cellN h rfl, cellN h rfl⟩)
        have HP := hid hby2
        have HVA := hid (show ∀ W, Calls Tryz.prog 129 #[.agg #[.int .i64 team, .int .i64 n, .int .i64 px, .int .i64 py, .int .i64 vx, .int .i64 vy, .int .i64 sp, .bool out]] W fun e w' => e = .returned (.bool (BodyD.valid ⟨team, n, ⟨px, py, vx, vy, sp⟩, out⟩)) ∧ Below W.heap.size W w' from fun W => valid129_any ⟨team, n, ⟨px, py, vx, vy, sp⟩, out⟩ W)
        have HRE := hid (show ∀ W, Calls Tryz.prog 130 #[.agg #[.int .i64 team, .int .i64 n, .int .i64 px, .int .i64 py, .int .i64 vx, .int .i64 vy, .int .i64 sp, .bool out]] W fun e w' => e = .returned (.bool (restM ⟨px, py, vx, vy, sp⟩)) ∧ Below W.heap.size W w' from fun W => rests130_any ⟨team, n, ⟨px, py, vx, vy, sp⟩, out⟩ W)
        have HOO := hid (show outOk ⟨team, n, ⟨px, py, vx, vy, sp⟩, out⟩ = !(out && (!restM ⟨px, py, vx, vy, sp⟩ || !decide (sp = 0))) from rfl)
        have HNB := hid (show nameB ⟨team, n, ⟨px, py, vx, vy, sp⟩, out⟩ = (team, n) from rfl)
        have HSN2 := hid (HSN.out.below hbb2)
        have HFL := hid (HB.out.trans (hbb2.mono HB.out.size))
        have HZL := hid (show w.heap.size ≤ W2.heap.size from HFL.out.size)
        have HW1 := hid hW1
        have HW2 := hid hW2
        clear y0 y1 y2 y3 y4 y5 y6 y7 hbb1 hbb2 hbx1 hby2 hW1 hW2
        generalize BodyD.valid ⟨team, n, ⟨px, py, vx, vy, sp⟩, out⟩ = vb at *
        generalize restM ⟨px, py, vx, vy, sp⟩ = rb at *
        generalize outOk ⟨team, n, ⟨px, py, vx, vy, sp⟩, out⟩ = ob at *
        rw [HNB.out] at HST
        rw [HW1.out]
        go_upto_region 8 with fail
        rw [HW2.out]
        clear c0 c1 c2 c3 c4 c5 c6 c7 HW1 HW2 hz1
        obtain ⟨c0, c1, c2, c3, c4, c5, c6, c7⟩ := HQ.out _ HP.out
        go_wp2_with fail
        refine (HVA.out _).mono ?_
        rintro e w3 ⟨rfl, hb3⟩
        have HFL3 := hid (HFL.out.trans (hb3.mono HFL.out.size))
        have HP3 := hid (carry HP.out hb3)
        have HSN3 := hid (HSN2.out.below hb3)
        clear hb3 c0 c1 c2 c3 c4 c5 c6 c7 HVA HP HSN2 HFL
        cases vb with
        | false =>
          have HR := hid (show sceneOk l = false by rw [HCR.out, HST.out]; simp)
          go_wp2_with fail
          go_ret
          exact ⟨by rw [HAN.out _ HR.out]; rfl, HFL3.out⟩
        | true =>
        obtain ⟨c0, c1, c2, c3, c4, c5, c6, c7⟩ := HQ.out _ HP3.out
        have hlk := HSN3.out.look223 (team, n)
        by_cases hse : (team, n) ∈ seen
        · have hsb : decide ((team, n) ∈ seen) = true := by simp [hse]
          rw [hsb] at hlk
          have HR := hid (show sceneOk l = false by rw [HCR.out, HST.out, hsb]; simp)
          clear hse hsb
          go_wp2_with fail
          go_ret
          exact ⟨by rw [HAN.out _ HR.out]; rfl, HFL3.out⟩
        have hsb : decide ((team, n) ∈ seen) = false := by simp [hse]
        rw [hsb] at hlk HST
        clear hse hsb
        cases out with
        | false =>
          have HNX := hid (show bNames l [] = bNames (l.drop (k + 1)) ((l.take (k + 1)).map nameB) by rw [HST.out, HOO.out]; simp)
          obtain ⟨w5, hup, hs5, hg5, hz5⟩ := HSN3.out.add223 (team, n)
          have HS5 := hid hs5
          have HG5 := hid hg5
          clear hs5 hg5 hz5
          dsimp only at hup hlk
          go_wp2_with fail
          refine ⟨⟨k + 1, by omega, by go_num, ?_, ?_, HNX.out⟩, by simp only [intOf]; omega⟩
          · exact HFL3.out.grown HG5.out HFL3.out.size (fun j e => by cases e; exact Nat.le_refl _)
          · rw [List.take_succ_eq_append_getElem hlt, List.map_append, HSE.out, HX.out]
            exact HS5.out
        | true =>
        go_wp2_with fail
        refine (HRE.out _).mono ?_
        rintro e w4 ⟨rfl, hb4⟩
        have HFL4 := hid (HFL3.out.trans (hb4.mono HFL3.out.size))
        have HP4 := hid (carry HP3.out hb4)
        have HSN4 := hid (HSN3.out.below hb4)
        clear hb4 c0 c1 c2 c3 c4 c5 c6 c7 HRE hlk
        cases rb with
        | false =>
          have HR := hid (show sceneOk l = false by rw [HCR.out, HST.out, HOO.out]; simp)
          go_wp2_with fail
          go_ret
          exact ⟨by rw [HAN.out _ HR.out]; rfl, HFL4.out⟩
        | true =>
        obtain ⟨c0, c1, c2, c3, c4, c5, c6, c7⟩ := HQ.out _ HP4.out
        by_cases hsp : sp = 0
        · subst hsp
          have HNX := hid (show bNames l [] = bNames (l.drop (k + 1)) ((l.take (k + 1)).map nameB) by rw [HST.out, HOO.out]; simp)
          obtain ⟨w5, hup, hs5, hg5, hz5⟩ := HSN4.out.add223 (team, n)
          have HS5 := hid hs5
          have HG5 := hid hg5
          clear hs5 hg5 hz5
          dsimp only at hup
          go_wp2_with fail
          refine ⟨⟨k + 1, by omega, by go_num, ?_, ?_, HNX.out⟩, by simp only [intOf]; omega⟩
          · exact HFL4.out.grown HG5.out HFL4.out.size (fun j e => by cases e; exact Nat.le_refl _)
          · rw [List.take_succ_eq_append_getElem hlt, List.map_append, HSE.out, HX.out]
            exact HS5.out
        · have hq : (sp == 0) = false := by simp [hsp]
          have HR := hid (show sceneOk l = false by rw [HCR.out, HST.out, HOO.out]; simp [hsp])
          go_wp2_with fail
          go_ret
          exact ⟨by rw [HAN.out _ HR.out]; rfl, HFL4.out⟩
      · have HN := hid (show bNames l [] = true by rw [HNM.out, List.drop_eq_nil_of_le (by omega)]; rfl)
        have HR := hid (show sceneOk l = true by rw [HCR.out, HN.out]; simp [h16])
        go_wp2_with fail
        go_ret
        exact ⟨by rw [HAN.out _ HR.out]; rfl, HB.out⟩
  · have h16' : ¬ (l.length : Int) ≤ 16 := by omega
    go_enter Tryz.func77, Tryz.ntmps77
    go_wp2_with fail
    go_ret
    exact ⟨by rw [HAN.out false (by rw [HCR.out]; simp [h16])]; rfl, Below.refl _ _⟩
end Go.Proofs.YtolnhicngepnnaaGreat
/- contact: rinks. -/
namespace Go.Proofs.YtolnhicngepnnaaGreat
open Go.RowKit

structure RinkD where
  i : IceD
  g : GrainD
  bl : List Mach
  who : Int
  el : Int
def RinkD.arr (r : RinkD) (pv qv bv : Value) : Array Value := #[.int .i64 r.i.cx, .int .i64 r.i.cy, .int .i64 r.i.sd, .int .i64 r.i.W, .int .i64 r.i.H, pv, qv, .int .i64 r.g.fl, .int .i64 r.g.kn, .int .i64 r.g.a, .int .i64 r.g.b, .int .i64 r.g.c, bv, .int .i64 r.who, .int .i64 r.el]
def RinkAt (w : World) (r : RinkD) (pv qv bv : Value) : Prop := IceAt w r.i pv qv ∧ SlM w bv r.bl
theorem RinkAt.below {w w' : World} {r : RinkD} {pv qv bv : Value} (h : RinkAt w r pv qv bv) (hb : Below w.heap.size w w') : RinkAt w' r pv qv bv := ⟨h.1.below hb, SlM.below h.2 hb⟩
theorem RinkAt.keep {w w' : World} {r : RinkD} {pv qv bv : Value} (h : RinkAt w r pv qv bv) (hz : w.heap.size ≤ w'.heap.size) (hk : ∀ k, k < w.heap.size → w'.heap[k]? = w.heap[k]?) : RinkAt w' r pv qv bv := ⟨h.1.keep hz hk, SlV.keep h.2 hz hk⟩
def rinkOk (r : RinkD) (l : List BodyD) : Bool := r.i.ok && (r.g.ok && (sceneOk l && (broomsOk r.bl && (inB r.who (-1) ((l.length : Int) - 1) && inB r.el 0 1000))))
set_option maxRecDepth 100000 in
set_option maxHeartbeats 4000000 in
theorem right38_any (r : RinkD) (pv qv bv v : Value) (l : List BodyD) (w : World) (hr : RinkAt w r pv qv bv) (hs : SlB w v l) :
    Calls Tryz.prog 38 #[.agg (r.arr pv qv bv), v] w fun e w' => e = .returned (.bool (rinkOk r l)) ∧ Below w.heap.size w w' := by
  obtain ⟨⟨hp, hq⟩, hl⟩ := hr
  obtain ⟨⟨cx, cy, sd, W, H, pl, ql⟩, ⟨fl, kn, a, b, c⟩, bl, who, el⟩ := r
  dsimp only at hp hq hl
  have H1 := hid (fun U hb => check62_any cx cy sd W H pv qv pl ql U (SlI.below hp hb) (SlI.below hq hb))
  have H2 := hid (fun U => grain63_any fl kn a b c U)
  have H3 := hid (fun U hb => check77_any v l U (SlB.below hs hb))
  have H4 := hid (fun U hb => checkBrooms_any bv bl U (SlM.below hl hb))
  have H5 := hid (fun U => within39_any who (-1) ((l.length : Int) - 1) U)
  have H6 := hid (fun U => within39_any el 0 1000 U)
  obtain ⟨pa, pc, rfl, -, -⟩ := hp.open
  obtain ⟨qa, qc, rfl, -, -⟩ := hq.open
  obtain ⟨ba, bc, rfl, -, -⟩ := hl.open
  obtain ⟨va, vc, rfl, hvl, -⟩ := hs.open
  have hwr : IntKind.i64.wrap ((l.length : Int) - 1) = (l.length : Int) - 1 := by rw [IntKind.wrap_i64]; omega
  have HR := hid (show rinkOk ⟨⟨cx, cy, sd, W, H, pl, ql⟩, ⟨fl, kn, a, b, c⟩, bl, who, el⟩ l = (iceOk cx cy sd W H pl ql && (grainOk fl kn a b c && (sceneOk l && (broomsOk bl && (inB who (-1) ((l.length : Int) - 1) && inB el 0 1000))))) from rfl)
  clear hp hq hl hs hvl
  generalize rinkOk ⟨⟨cx, cy, sd, W, H, pl, ql⟩, ⟨fl, kn, a, b, c⟩, bl, who, el⟩ l = r at *
  generalize inB who (-1) ((l.length : Int) - 1) = b5 at *
  generalize inB el 0 1000 = b6 at *
  generalize iceOk cx cy sd W H pl ql = b1 at *
  generalize grainOk fl kn a b c = b2 at *
  generalize sceneOk l = b3 at *
  generalize broomsOk bl = b4 at *
  obtain ⟨W1, hW1⟩ : ∃ W1, w.alloc (.cells #[.int .i64 cx, .int .i64 cy, .int .i64 sd, .int .i64 W, .int .i64 H, .slice pa pl.length pc, .slice qa ql.length qc, .int .i64 fl, .int .i64 kn, .int .i64 a, .int .i64 b, .int .i64 c, .slice ba bl.length bc, .int .i64 who, .int .i64 el] 118) = W1 := ⟨_, rfl⟩
  have hb1 : Below w.heap.size w W1 := by rw [← hW1]; exact (Below.refl _ w).alloc (Nat.le_refl _) _
  have b0 : W1.heap[w.heap.size]? = some (.cells #[.int .i64 cx, .int .i64 cy, .int .i64 sd, .int .i64 W, .int .i64 H, .slice pa pl.length pc, .slice qa ql.length qc, .int .i64 fl, .int .i64 kn, .int .i64 a, .int .i64 b, .int .i64 c, .slice ba bl.length bc, .int .i64 who, .int .i64 el] 118 (0, 0)) := by
    rw [← hW1]; exact heap_alloc_new w _
  have HX := hid hb1
  have HA := hid b0
  have HW := hid hW1
  clear hW1 hb1 b0
  show Calls Tryz.prog 38 #[.agg #[.int .i64 cx, .int .i64 cy, .int .i64 sd, .int .i64 W, .int .i64 H, .slice pa pl.length pc, .slice qa ql.length qc, .int .i64 fl, .int .i64 kn, .int .i64 a, .int .i64 b, .int .i64 c, .slice ba bl.length bc, .int .i64 who, .int .i64 el], .slice va l.length vc] w _
  go_enter Tryz.func38, Tryz.ntmps38
  go_upto_region 1 with fail
  rw [HW.out]
  clear HW
  have a0 := cellN (i := 0) (v := .int .i64 cx) HA.out rfl
  have a1 := cellN (i := 1) (v := .int .i64 cy) HA.out rfl
  have a2 := cellN (i := 2) (v := .int .i64 sd) HA.out rfl
  have a3 := cellN (i := 3) (v := .int .i64 W) HA.out rfl
  have a4 := cellN (i := 4) (v := .int .i64 H) HA.out rfl
  have a5 := cellN (i := 5) (v := .slice pa pl.length pc) HA.out rfl
  have a6 := cellN (i := 6) (v := .slice qa ql.length qc) HA.out rfl
  go_wp2_with fail
  refine (H1.out _ HX.out).mono ?_
  rintro e w2 ⟨rfl, hb⟩
  have HA2 := hid (carry HA.out hb)
  have HX2 := hid (HX.out.trans (hb.mono HX.out.size))
  clear hb a0 a1 a2 a3 a4 a5 a6 HA HX H1
  cases b1 with
  | false =>
    go_wp2_with fail
    go_ret
    exact ⟨by rw [HR.out]; rfl, HX2.out⟩
  | true =>
  have a7 := cellN (i := 7) (v := .int .i64 fl) HA2.out rfl
  have a8 := cellN (i := 8) (v := .int .i64 kn) HA2.out rfl
  have a9 := cellN (i := 9) (v := .int .i64 a) HA2.out rfl
  have a10 := cellN (i := 10) (v := .int .i64 b) HA2.out rfl
  have a11 := cellN (i := 11) (v := .int .i64 c) HA2.out rfl
  go_wp2_with fail
  refine (H2.out _).mono ?_
  rintro e w3 ⟨rfl, hb⟩
  have HA3 := hid (carry HA2.out hb)
  have HX3 := hid (HX2.out.trans (hb.mono HX2.out.size))
  clear hb a7 a8 a9 a10 a11 HA2 HX2 H2
  cases b2 with
  | false =>
    go_wp2_with fail
    go_ret
    exact ⟨by rw [HR.out]; rfl, HX3.out⟩
  | true =>
  go_wp2_with fail
  refine (H3.out _ HX3.out).mono ?_
  rintro e w4 ⟨rfl, hb⟩
  have HA4 := hid (carry HA3.out hb)
  have HX4 := hid (HX3.out.trans (hb.mono HX3.out.size))
  clear hb HA3 HX3 H3
  cases b3 with
  | false =>
    go_wp2_with fail
    go_ret
    exact ⟨by rw [HR.out]; rfl, HX4.out⟩
  | true =>
  have a12 := cellN (i := 12) (v := .slice ba bl.length bc) HA4.out rfl
  go_wp2_with fail
  refine (H4.out _ HX4.out).mono ?_
  rintro e w5 ⟨rfl, hb⟩
  have HA5 := hid (carry HA4.out hb)
  have HX5 := hid (HX4.out.trans (hb.mono HX4.out.size))
  clear hb HA4 HX4 H4 a12
  cases b4 with
  | false =>
    go_wp2_with fail
    go_ret
    exact ⟨by rw [HR.out]; rfl, HX5.out⟩
  | true =>
  have a13 := cellN (i := 13) (v := .int .i64 who) HA5.out rfl
  have a14 := cellN (i := 14) (v := .int .i64 el) HA5.out rfl
  go_wp2_with fail
  refine (H5.out _).mono ?_
  rintro e w6 ⟨rfl, rfl⟩
  cases b5 with
  | false =>
    go_wp2_with fail
    go_ret
    exact ⟨by rw [HR.out]; rfl, HX5.out⟩
  | true =>
  go_wp2_with fail
  refine (H6.out _).mono ?_
  rintro e w6 ⟨rfl, rfl⟩
  cases b6
  all_goals
    go_wp2_with fail
    go_ret
    exact ⟨by rw [HR.out]; rfl, HX5.out⟩
end Go.Proofs.YtolnhicngepnnaaGreat
/- contact: a scene of its own, and its bodies. -/
namespace Go.Proofs.YtolnhicngepnnaaGreat
open Go.RowKit

theorem info174 : (Tryz.prog.info? 174).map (fun i => (i.zero, i.size, i.bytes)) = some (some (.agg #[.int .i64 0, .int .i64 0, .int .i64 0, .int .i64 0, .int .i64 0, .int .i64 0, .int .i64 0, .bool false]), 8, 64) := by kernel_rfl
theorem made_body174 (w : World) (base : Nat) (team n px py vx vy sp : Int) (out : Bool) (hb : base ≤ w.heap.size) : (w.alloc (.cells #[.int .i64 team, .int .i64 n, .int .i64 px, .int .i64 py, .int .i64 vx, .int .i64 vy, .int .i64 sp, .bool out] 174)).ownsRow base 174 8 (.slice (some ⟨w.heap.size, 0, none⟩) 1 1) 1 [.int .i64 team, .int .i64 n, .int .i64 px, .int .i64 py, .int .i64 vx, .int .i64 vy, .int .i64 sp, .bool out] :=
  ⟨rfl, .inr ⟨w.heap.size, 1, _, rfl, hb, heap_alloc_new w _, Nat.le_refl _, by decide, rfl, rfl⟩⟩
theorem info72 : (Tryz.prog.info? 72).map (fun i => (i.zero, i.size, i.bytes)) = some (some (.agg #[.int .i64 0, .int .i64 0, .int .i64 0, .int .i64 0, .int .i64 0, .int .i64 0, .int .i64 0, .bool false]), 8, 64) := by kernel_rfl
theorem made_body72 (w : World) (base : Nat) (team n px py vx vy sp : Int) (out : Bool) (hb : base ≤ w.heap.size) : (w.alloc (.cells #[.int .i64 team, .int .i64 n, .int .i64 px, .int .i64 py, .int .i64 vx, .int .i64 vy, .int .i64 sp, .bool out] 72)).ownsRow base 72 8 (.slice (some ⟨w.heap.size, 0, none⟩) 1 1) 1 [.int .i64 team, .int .i64 n, .int .i64 px, .int .i64 py, .int .i64 vx, .int .i64 vy, .int .i64 sp, .bool out] :=
  ⟨rfl, .inr ⟨w.heap.size, 1, _, rfl, hb, heap_alloc_new w _, Nat.le_refl _, by decide, rfl, rfl⟩⟩
set_option maxRecDepth 100000 in
set_option maxHeartbeats 4000000 in
/-- contact.of. -/
theorem of40_any (v : Value) (l : List BodyD) (w : World) (hs : SlB w v l) (hl : l.length ≤ 1000) : Calls Tryz.prog 40 #[v] w fun e w' => ∃ v', e = .returned v' ∧ w'.ownsRow w.heap.size 174 8 v' l.length (l.flatMap BodyD.cells) ∧ Below w.heap.size w w' := by
  obtain ⟨a, cap, rfl, hll, hc⟩ := hs.open
  have HC := hid hc
  clear hc hs
  go_enter Tryz.func40, Tryz.ntmps40
  go_wp2_with fail
  go_loopw [3, 8] (fun x z wq => ∃ k : Nat, k ≤ l.length ∧ z = .int .i64 k ∧ wq.ownsRow w.heap.size 174 8 x k ((l.take k).flatMap BodyD.cells) ∧ Below w.heap.size w wq) (fun _ z _ => l.length - (intOf z).toNat)
  case atStart => exact ⟨0, Nat.zero_le _, rfl, World.ownsRow_nil _ _ _ _, Below.refl _ _⟩
  case round =>
    obtain ⟨k, hk, rfl, hrow, hb⟩ := hrel
    have HB := hid hb
    by_cases hlt : k < l.length
    · obtain ⟨b, off, rfl, hbl, hc⟩ := HC.out k hlt
      have hx0 := (hb.cell (p := ⟨b, off + k * 8 + 0, none⟩) hbl).trans (hc k hlt 0 (by omega))
      have hx1 := (hb.cell (p := ⟨b, off + k * 8 + 1, none⟩) hbl).trans (hc k hlt 1 (by omega))
      have hx2 := (hb.cell (p := ⟨b, off + k * 8 + 2, none⟩) hbl).trans (hc k hlt 2 (by omega))
      have hx3 := (hb.cell (p := ⟨b, off + k * 8 + 3, none⟩) hbl).trans (hc k hlt 3 (by omega))
      have hx4 := (hb.cell (p := ⟨b, off + k * 8 + 4, none⟩) hbl).trans (hc k hlt 4 (by omega))
      have hx5 := (hb.cell (p := ⟨b, off + k * 8 + 5, none⟩) hbl).trans (hc k hlt 5 (by omega))
      have hx6 := (hb.cell (p := ⟨b, off + k * 8 + 6, none⟩) hbl).trans (hc k hlt 6 (by omega))
      have hx7 := (hb.cell (p := ⟨b, off + k * 8 + 7, none⟩) hbl).trans (hc k hlt 7 (by omega))
      have HT := hid (show (l.take (k + 1)).flatMap BodyD.cells = (l.take k).flatMap BodyD.cells ++ l[k].cells by
        rw [List.take_succ_eq_append_getElem hlt, List.flatMap_append]; simp)
      clear hc hb
      obtain ⟨x, hxe⟩ : ∃ x, l[k] = x := ⟨_, rfl⟩
      rw [hxe] at hx0 hx1 hx2 hx3 hx4 hx5 hx6 hx7 HT
      clear hxe HC
      obtain ⟨team, n, ⟨px, py, vx, vy, sp⟩, out⟩ := x
      have y0 : wr.cell? ⟨b, off + k * 8, none⟩ = some (.int .i64 team) := hx0
      have y1 : wr.cell? ⟨b, off + k * 8 + 1, none⟩ = some (.int .i64 n) := hx1
      have y2 : wr.cell? ⟨b, off + k * 8 + 2, none⟩ = some (.int .i64 px) := hx2
      have y3 : wr.cell? ⟨b, off + k * 8 + 3, none⟩ = some (.int .i64 py) := hx3
      have y4 : wr.cell? ⟨b, off + k * 8 + 4, none⟩ = some (.int .i64 vx) := hx4
      have y5 : wr.cell? ⟨b, off + k * 8 + 5, none⟩ = some (.int .i64 vy) := hx5
      have y6 : wr.cell? ⟨b, off + k * 8 + 6, none⟩ = some (.int .i64 sp) := hx6
      have y7 : wr.cell? ⟨b, off + k * 8 + 7, none⟩ = some (.bool out) := hx7
      have HT := hid (show (l.take (k + 1)).flatMap BodyD.cells = (l.take k).flatMap BodyD.cells ++ [.int .i64 team, .int .i64 n, .int .i64 px, .int .i64 py, .int .i64 vx, .int .i64 vy, .int .i64 sp, .bool out] from HT.out)
      clear hx0 hx1 hx2 hx3 hx4 hx5 hx6 hx7
      obtain ⟨W1, hW1⟩ : ∃ W1, wr.alloc (.cells #[.int .i64 team, .int .i64 n, .int .i64 px, .int .i64 py, .int .i64 vx, .int .i64 vy, .int .i64 sp, .bool out] 72) = W1 := ⟨_, rfl⟩
      have HN1 := hid (show W1.heap[wr.heap.size]? = some (.cells #[.int .i64 team, .int .i64 n, .int .i64 px, .int .i64 py, .int .i64 vx, .int .i64 vy, .int .i64 sp, .bool out] 72 (0, 0)) by rw [← hW1]; exact heap_alloc_new wr _)
      have HBW := hid (show Below wr.heap.size wr W1 by rw [← hW1]; exact (Below.refl _ _).alloc (Nat.le_refl _) _)
      have HW1 := hid hW1
      have hrow1 := own_below hrow HBW.out
      have HBX := hid (HB.out.trans (HBW.out.mono HB.out.size))
      have HSX := hid HBX.out.size
      clear hW1 hrow
      go_upto_region 5 with fail
      rw [HW1.out]
      clear HW1 y0 y1 y2 y3 y4 y5 y6 y7
      have c0 := cellN (i := 0) (v := .int .i64 team) HN1.out rfl
      have c1 := cellN (i := 1) (v := .int .i64 n) HN1.out rfl
      have c2 := cellN (i := 2) (v := .int .i64 px) HN1.out rfl
      have c3 := cellN (i := 3) (v := .int .i64 py) HN1.out rfl
      have c4 := cellN (i := 4) (v := .int .i64 vx) HN1.out rfl
      have c5 := cellN (i := 5) (v := .int .i64 vy) HN1.out rfl
      have c6 := cellN (i := 6) (v := .int .i64 sp) HN1.out rfl
      have c7 := cellN (i := 7) (v := .bool out) HN1.out rfl
      obtain ⟨i0, hinf, hz0, hz1, hz2⟩ := info_parts info174
      have hmade := made_body174 W1 w.heap.size team n px py vx vy sp out HSX.out
      generalize (l.take k).flatMap BodyD.cells = xs at *
      go_wp2_with (at_builtin; refine wpList_append_own _ rfl _ _ 121 rfl w.heap.size 174 i0 (.agg #[.int .i64 0, .int .i64 0, .int .i64 0, .int .i64 0, .int .i64 0, .int .i64 0, .int .i64 0, .bool false]) 8 64 Tryz.underlying121 hinf hz0 hz1 hz2 rfl (by decide) _ _ _ rfl (hrow1.alloc _) ⟨W1.heap.size, 0, none⟩ 1 1 [.int .i64 team, .int .i64 n, .int .i64 px, .int .i64 py, .int .i64 vx, .int .i64 vy, .int .i64 sp, .bool out] rfl rfl (hmade.cells rfl) (by intro u hu; simp at hu; rcases hu with rfl | rfl | rfl | rfl | rfl | rfl | rfl | rfl <;> rfl) (by unfold maxLen; omega) (by omega) (by simp; have := HSX.out; omega) ?_; intro v' w5 hown5 hgrow5 _)
      refine ⟨⟨k + 1, hlt, by go_num, ?_, ?_⟩, by simp only [intOf]; omega⟩
      · rw [HT.out]; exact hown5
      · exact (HBX.out.alloc HSX.out _).grown hgrow5 (by simp; have := HSX.out; omega) (fun q e => (hrow1.lt q e).1)
    · obtain rfl : k = l.length := by omega
      rw [List.take_length] at hrow
      have HRW := hid hrow
      clear hrow hb
      go_wp2_with fail
      go_ret
      exact ⟨_, rfl, HRW.out, HB.out⟩
set_option maxRecDepth 100000 in
set_option maxHeartbeats 4000000 in
/-- (scene).bodies. -/
theorem bodies44_any (v : Value) (l : List BodyD) (w : World) (hs : SlB w v l) (hl : l.length ≤ 1000) : Calls Tryz.prog 44 #[v] w fun e w' => ∃ v', e = .returned v' ∧ w'.ownsRow w.heap.size 72 8 v' l.length (l.flatMap BodyD.cells) ∧ Below w.heap.size w w' := by
  obtain ⟨a, cap, rfl, hll, hc⟩ := hs.open
  have HC := hid hc
  clear hc hs
  go_enter Tryz.func44, Tryz.ntmps44
  go_wp2_with fail
  go_loopw [3, 8] (fun x z wq => ∃ k : Nat, k ≤ l.length ∧ z = .int .i64 k ∧ wq.ownsRow w.heap.size 72 8 x k ((l.take k).flatMap BodyD.cells) ∧ Below w.heap.size w wq) (fun _ z _ => l.length - (intOf z).toNat)
  case atStart => exact ⟨0, Nat.zero_le _, rfl, World.ownsRow_nil _ _ _ _, Below.refl _ _⟩
  case round =>
    obtain ⟨k, hk, rfl, hrow, hb⟩ := hrel
    have HB := hid hb
    by_cases hlt : k < l.length
    · obtain ⟨b, off, rfl, hbl, hc⟩ := HC.out k hlt
      have hx0 := (hb.cell (p := ⟨b, off + k * 8 + 0, none⟩) hbl).trans (hc k hlt 0 (by omega))
      have hx1 := (hb.cell (p := ⟨b, off + k * 8 + 1, none⟩) hbl).trans (hc k hlt 1 (by omega))
      have hx2 := (hb.cell (p := ⟨b, off + k * 8 + 2, none⟩) hbl).trans (hc k hlt 2 (by omega))
      have hx3 := (hb.cell (p := ⟨b, off + k * 8 + 3, none⟩) hbl).trans (hc k hlt 3 (by omega))
      have hx4 := (hb.cell (p := ⟨b, off + k * 8 + 4, none⟩) hbl).trans (hc k hlt 4 (by omega))
      have hx5 := (hb.cell (p := ⟨b, off + k * 8 + 5, none⟩) hbl).trans (hc k hlt 5 (by omega))
      have hx6 := (hb.cell (p := ⟨b, off + k * 8 + 6, none⟩) hbl).trans (hc k hlt 6 (by omega))
      have hx7 := (hb.cell (p := ⟨b, off + k * 8 + 7, none⟩) hbl).trans (hc k hlt 7 (by omega))
      have HT := hid (show (l.take (k + 1)).flatMap BodyD.cells = (l.take k).flatMap BodyD.cells ++ l[k].cells by
        rw [List.take_succ_eq_append_getElem hlt, List.flatMap_append]; simp)
      clear hc hb
      obtain ⟨x, hxe⟩ : ∃ x, l[k] = x := ⟨_, rfl⟩
      rw [hxe] at hx0 hx1 hx2 hx3 hx4 hx5 hx6 hx7 HT
      clear hxe HC
      obtain ⟨team, n, ⟨px, py, vx, vy, sp⟩, out⟩ := x
      have y0 : wr.cell? ⟨b, off + k * 8, none⟩ = some (.int .i64 team) := hx0
      have y1 : wr.cell? ⟨b, off + k * 8 + 1, none⟩ = some (.int .i64 n) := hx1
      have y2 : wr.cell? ⟨b, off + k * 8 + 2, none⟩ = some (.int .i64 px) := hx2
      have y3 : wr.cell? ⟨b, off + k * 8 + 3, none⟩ = some (.int .i64 py) := hx3
      have y4 : wr.cell? ⟨b, off + k * 8 + 4, none⟩ = some (.int .i64 vx) := hx4
      have y5 : wr.cell? ⟨b, off + k * 8 + 5, none⟩ = some (.int .i64 vy) := hx5
      have y6 : wr.cell? ⟨b, off + k * 8 + 6, none⟩ = some (.int .i64 sp) := hx6
      have y7 : wr.cell? ⟨b, off + k * 8 + 7, none⟩ = some (.bool out) := hx7
      have HT := hid (show (l.take (k + 1)).flatMap BodyD.cells = (l.take k).flatMap BodyD.cells ++ [.int .i64 team, .int .i64 n, .int .i64 px, .int .i64 py, .int .i64 vx, .int .i64 vy, .int .i64 sp, .bool out] from HT.out)
      clear hx0 hx1 hx2 hx3 hx4 hx5 hx6 hx7
      obtain ⟨W1, hW1⟩ : ∃ W1, wr.alloc (.cells #[.int .i64 team, .int .i64 n, .int .i64 px, .int .i64 py, .int .i64 vx, .int .i64 vy, .int .i64 sp, .bool out] 174) = W1 := ⟨_, rfl⟩
      have HN1 := hid (show W1.heap[wr.heap.size]? = some (.cells #[.int .i64 team, .int .i64 n, .int .i64 px, .int .i64 py, .int .i64 vx, .int .i64 vy, .int .i64 sp, .bool out] 174 (0, 0)) by rw [← hW1]; exact heap_alloc_new wr _)
      have HBW := hid (show Below wr.heap.size wr W1 by rw [← hW1]; exact (Below.refl _ _).alloc (Nat.le_refl _) _)
      have HW1 := hid hW1
      have hrow1 := own_below hrow HBW.out
      have HBX := hid (HB.out.trans (HBW.out.mono HB.out.size))
      have HSX := hid HBX.out.size
      clear hW1 hrow
      go_upto_region 5 with fail
      rw [HW1.out]
      clear HW1 y0 y1 y2 y3 y4 y5 y6 y7
      have c0 := cellN (i := 0) (v := .int .i64 team) HN1.out rfl
      have c1 := cellN (i := 1) (v := .int .i64 n) HN1.out rfl
      have c2 := cellN (i := 2) (v := .int .i64 px) HN1.out rfl
      have c3 := cellN (i := 3) (v := .int .i64 py) HN1.out rfl
      have c4 := cellN (i := 4) (v := .int .i64 vx) HN1.out rfl
      have c5 := cellN (i := 5) (v := .int .i64 vy) HN1.out rfl
      have c6 := cellN (i := 6) (v := .int .i64 sp) HN1.out rfl
      have c7 := cellN (i := 7) (v := .bool out) HN1.out rfl
      obtain ⟨i0, hinf, hz0, hz1, hz2⟩ := info_parts info72
      have hmade := made_body72 W1 w.heap.size team n px py vx vy sp out HSX.out
      generalize (l.take k).flatMap BodyD.cells = xs at *
      go_wp2_with (at_builtin; refine wpList_append_own _ rfl _ _ 74 rfl w.heap.size 72 i0 (.agg #[.int .i64 0, .int .i64 0, .int .i64 0, .int .i64 0, .int .i64 0, .int .i64 0, .int .i64 0, .bool false]) 8 64 Tryz.underlying74 hinf hz0 hz1 hz2 rfl (by decide) _ _ _ rfl (hrow1.alloc _) ⟨W1.heap.size, 0, none⟩ 1 1 [.int .i64 team, .int .i64 n, .int .i64 px, .int .i64 py, .int .i64 vx, .int .i64 vy, .int .i64 sp, .bool out] rfl rfl (hmade.cells rfl) (by intro u hu; simp at hu; rcases hu with rfl | rfl | rfl | rfl | rfl | rfl | rfl | rfl <;> rfl) (by unfold maxLen; omega) (by omega) (by simp; have := HSX.out; omega) ?_; intro v' w5 hown5 hgrow5 _)
      refine ⟨⟨k + 1, hlt, by go_num, ?_, ?_⟩, by simp only [intOf]; omega⟩
      · rw [HT.out]; exact hown5
      · exact (HBX.out.alloc HSX.out _).grown hgrow5 (by simp; have := HSX.out; omega) (fun q e => (hrow1.lt q e).1)
    · obtain rfl : k = l.length := by omega
      rw [List.take_length] at hrow
      have HRW := hid hrow
      clear hrow hb
      go_wp2_with fail
      go_ret
      exact ⟨_, rfl, HRW.out, HB.out⟩
end Go.Proofs.YtolnhicngepnnaaGreat
/- Great; glide.Strength of valid brooms; glide.Tick of valid things. -/
namespace Go.Proofs.YtolnhicngepnnaaGreat
open Go.RowKit

def greatI (i : IceD) (n : Int) : Bool := decide (n < i.pl.length) || decide (n < i.ql.length)
theorem great16_any (i : IceD) (pv qv : Value) (n : Int) (w : World) (hat : IceAt w i pv qv) :
    Calls Tryz.prog 16 #[i.v pv qv, .int .i64 n] w fun e w' => e = .returned (.bool (greatI i n)) ∧ Below w.heap.size w w' := by
  obtain ⟨pa, pc, hpv, -, -⟩ := hat.1.open
  obtain ⟨qa, qc, hqv, -, -⟩ := hat.2.open
  subst hpv hqv
  clear hat
  obtain ⟨cx, cy, sd, W, H, pl, ql⟩ := i
  dsimp only
  have HB := hid ((Below.refl w.heap.size w).alloc (Nat.le_refl _) (.cells #[.int .i64 cx, .int .i64 cy, .int .i64 sd, .int .i64 W, .int .i64 H, .slice pa pl.length pc, .slice qa ql.length qc] 31))
  have HR := hid (show greatI ⟨cx, cy, sd, W, H, pl, ql⟩ n = (decide (n < pl.length) || decide (n < ql.length)) from rfl)
  generalize greatI ⟨cx, cy, sd, W, H, pl, ql⟩ n = r at *
  have h0 := heap_alloc_new w (.cells #[.int .i64 cx, .int .i64 cy, .int .i64 sd, .int .i64 W, .int .i64 H, .slice pa pl.length pc, .slice qa ql.length qc] 31)
  obtain ⟨W1, hW1⟩ : ∃ W1, w.alloc (.cells #[.int .i64 cx, .int .i64 cy, .int .i64 sd, .int .i64 W, .int .i64 H, .slice pa pl.length pc, .slice qa ql.length qc] 31) = W1 := ⟨_, rfl⟩
  rw [hW1] at h0 HB
  have HW := hid hW1
  have q5 := cellN (i := 5) (v := .slice pa pl.length pc) h0 rfl
  have q6 := cellN (i := 6) (v := .slice qa ql.length qc) h0 rfl
  clear hW1 h0
  show Calls Tryz.prog 16 #[.agg #[.int .i64 cx, .int .i64 cy, .int .i64 sd, .int .i64 W, .int .i64 H, .slice pa pl.length pc, .slice qa ql.length qc], .int .i64 n] w _
  go_enter Tryz.func16, Tryz.ntmps16
  go_upto_region 1 with fail
  rw [HW.out]
  clear HW
  by_cases h1 : n < (pl.length : Int)
  · have hr : r = true := by rw [HR.out]; simp [h1]
    subst hr
    go_wp2_with fail
    go_ret
    exact ⟨rfl, HB.out⟩
  · have HR2 := hid (show r = decide (n < (ql.length : Int)) by rw [HR.out]; simp [h1])
    clear HR
    go_wp2_with fail
    go_ret
    exact ⟨by rw [HR2.out]; rfl, HB.out⟩
theorem strength132_ok (v : Value) (l : List Mach) (t : Int) (w : World) (hs : SlM w v l) (hok : broomsOk l = true) (ht : 0 ≤ t ∧ t ≤ 6000) :
    Calls Tryz.prog 132 #[v, .int .i64 t] w fun e w' => e = .returned (.tuple #[.int .i64 (strR l t), .int .i64 0]) ∧ Below w.heap.size w w' := by
  have H1 := hid (checkBrooms_any v l w hs)
  rw [hok] at H1
  have H2 := hid (fun U => within26_any t 0 6000 U)
  rw [show inB t 0 6000 = true by simp [inB, ht.1, ht.2]] at H2
  have H3 := hid (fun U (hb : Below w.heap.size w U) => strength112_any v l t U (SlM.below hs hb) (brooms_pow hok))
  obtain ⟨va, vc, rfl, -, -⟩ := hs.open
  clear hs hok ht
  generalize strR l t = r at *
  go_enter Tryz.func132, Tryz.ntmps132
  go_wp2_with fail
  refine H1.out.mono ?_
  rintro e w1 ⟨rfl, hb1⟩
  have HB1 := hid hb1
  clear hb1
  go_wp2_with fail
  refine (H2.out _).mono ?_
  rintro e w2 ⟨rfl, rfl⟩
  go_wp2_with fail
  refine (H3.out _ HB1.out).mono ?_
  rintro e w3 ⟨rfl, hb3⟩
  have HB3 := hid (HB1.out.trans (hb3.mono HB1.out.size))
  clear hb3
  go_wp2_with fail
  go_ret2
  exact ⟨rfl, HB3.out⟩
/-- How Tick$1 ends. -/
def TickP (r : Except Int Mov) (bR : Nat) (w : World) (e : Ending) (w' : World) : Prop :=
  match r with
  | .ok m => e = .returned (.tuple #[]) ∧ w'.heap[bR]? = some (.cells m.arr 39 (0, 0)) ∧ Ch (fun k => k = bR) w w'
  | .error c => e = .panicked (gmisfit c) ∧ w'.heap[bR]? = w.heap[bR]? ∧ Ch (fun k => k = bR) w w'
set_option maxRecDepth 100000 in
set_option maxHeartbeats 4000000 in
theorem tick163_any (i : IceD) (g : GrainD) (pv qv : Value) (m : Mov) (str : Nat) (bS bM bN bR : Nat) (w : World) (hi : i.ok = true) (hg : g.ok = true) (hm : m.ok = true) (hs : str ≤ 1000) (hat : IceAt w i pv qv)
    (hS : w.heap[bS]? = some (.cells (shArr i g pv qv) 94 (0, 0))) (hM : w.heap[bM]? = some (.cells m.arr 39 (0, 0))) (hN : w.heap[bN]? = some (.cells #[.int .i64 (str : Int)] 3 (0, 0))) (hR : w.heap[bR]? = some (.cells #[.int .i64 0, .int .i64 0, .int .i64 0, .int .i64 0, .int .i64 0] 39 (0, 0))) :
    Calls Tryz.prog 163 #[.pointer (some ⟨bS, 0, none⟩), .pointer (some ⟨bM, 0, none⟩), .pointer (some ⟨bN, 0, none⟩), .pointer (some ⟨bR, 0, none⟩)] w fun e w' => TickP (tickI i g str m) bR w e w' := by
  obtain ⟨pa, pc, hpv, -, -⟩ := hat.1.open
  obtain ⟨qa, qc, hqv, -, -⟩ := hat.2.open
  have HT := hid (tick113_at i g pv qv m str w hi hg hm hs hat)
  subst hpv hqv
  clear hi hg hm hs hat
  generalize tickI i g str m = r at *
  have s0 := cellN (i := 0) (v := .int .i64 i.cx) hS rfl
  have s1 := cellN (i := 1) (v := .int .i64 i.cy) hS rfl
  have s2 := cellN (i := 2) (v := .int .i64 i.sd) hS rfl
  have s3 := cellN (i := 3) (v := .int .i64 i.W) hS rfl
  have s4 := cellN (i := 4) (v := .int .i64 i.H) hS rfl
  have s5 := cellN (i := 5) (v := .slice pa i.pl.length pc) hS rfl
  have s6 := cellN (i := 6) (v := .slice qa i.ql.length qc) hS rfl
  have s7 := cellN (i := 7) (v := .int .i64 g.fl) hS rfl
  have s8 := cellN (i := 8) (v := .int .i64 g.kn) hS rfl
  have s9 := cellN (i := 9) (v := .int .i64 g.a) hS rfl
  have s10 := cellN (i := 10) (v := .int .i64 g.b) hS rfl
  have s11 := cellN (i := 11) (v := .int .i64 g.c) hS rfl
  obtain ⟨mx, my, mvx, mvy, msp⟩ := m
  have m0 := cellN (i := 0) (v := .int .i64 mx) hM rfl
  have m1 := cellN (i := 1) (v := .int .i64 my) hM rfl
  have m2 := cellN (i := 2) (v := .int .i64 mvx) hM rfl
  have m3 := cellN (i := 3) (v := .int .i64 mvy) hM rfl
  have m4 := cellN (i := 4) (v := .int .i64 msp) hM rfl
  have n0 := cellN (i := 0) (v := .int .i64 (str : Int)) hN rfl
  have HRR := hid hR
  clear hS hM hN hR
  have HT := hid (show Calls Tryz.prog 113 #[.agg #[.int .i64 i.cx, .int .i64 i.cy, .int .i64 i.sd, .int .i64 i.W, .int .i64 i.H, .slice pa i.pl.length pc, .slice qa i.ql.length qc, .int .i64 g.fl, .int .i64 g.kn, .int .i64 g.a, .int .i64 g.b, .int .i64 g.c], .agg #[.int .i64 mx, .int .i64 my, .int .i64 mvx, .int .i64 mvy, .int .i64 msp], .int .i64 (str : Int)] w fun e w' => EndsM r e ∧ Below w.heap.size w w' from HT.out)
  go_enter Tryz.func163, Tryz.ntmps163
  go_wp2_with fail
  refine HT.out.mono ?_
  rintro e w1 ⟨he, hb1⟩
  have HB := hid hb1
  have h10 := carry HRR.out hb1
  have HRL := hid (show bR < w.heap.size from (Array.getElem?_eq_some_iff.1 HRR.out).1)
  clear hb1 s0 s1 s2 s3 s4 s5 s6 s7 s8 s9 s10 s11 m0 m1 m2 m3 m4 n0 HT
  cases r with
  | error c =>
    obtain rfl := he
    exact ⟨rfl, rfl, h10.trans HRR.out.symm, Ch.of_below HB.out⟩
  | ok mm =>
    obtain rfl := he
    obtain ⟨ox, oy, ovx, ovy, osp⟩ := mm
    have H10 := hid h10
    have z0 := cellN (i := 0) (v := .int .i64 0) h10 rfl
    have z1 := cellN (i := 1) (v := .int .i64 0) h10 rfl
    have z2 := cellN (i := 2) (v := .int .i64 0) h10 rfl
    have z3 := cellN (i := 3) (v := .int .i64 0) h10 rfl
    have z4 := cellN (i := 4) (v := .int .i64 0) h10 rfl
    have f0 := frozN (i := 0) h10
    have f1 := frozN (i := 1) h10
    have f2 := frozN (i := 2) h10
    have f3 := frozN (i := 3) h10
    have f4 := frozN (i := 4) h10
    clear h10
    dsimp only [Mov.v, movV]
    go_wp2_with fail
    have hp := put5 (.int .i64 ox) (.int .i64 oy) (.int .i64 ovx) (.int .i64 ovy) (.int .i64 osp) H10.out
    have hc := put5_ch (w := w) (b := bR) (fun k => k = bR) (.inl rfl) (.int .i64 ox) (.int .i64 oy) (.int .i64 ovx) (.int .i64 ovy) (.int .i64 osp) (Ch.of_below HB.out)
    exact bodyPost_ret (results_none rfl _ _ _) rfl ⟨rfl, hp, hc⟩
/-- How Tick ends. -/
def tickE (r : Except Int Mov) : Ending :=
  match r with
  | .ok m => .returned (.tuple #[m.v, .int .i64 0])
  | .error c => .returned (.tuple #[movV 0 0 0 0 0, .int .i64 c])
def zeroM : Array Value := #[.int .i64 0, .int .i64 0, .int .i64 0, .int .i64 0, .int .i64 0]
set_option maxRecDepth 100000 in
set_option maxHeartbeats 4000000 in
theorem tick134_any (i : IceD) (g : GrainD) (pv qv : Value) (m : Mov) (str : Nat) (w : World)
    (hi : i.ok = true) (hg : g.ok = true) (hm : m.ok = true) (hs : str ≤ 1000) (hat : IceAt w i pv qv) :
    Calls Tryz.prog 134 #[i.v pv qv, g.v, m.v, .int .i64 (str : Int)] w fun e W' => e = tickE (tickI i g str m) ∧ Below w.heap.size w W' := by
  obtain ⟨pa, pc, hpv, -, -⟩ := hat.1.open
  obtain ⟨qa, qc, hqv, -, -⟩ := hat.2.open
  obtain ⟨W1, hW1, hz1, hb1, p1, p2, p3, p4⟩ := four_new w (.cells #[.int .i64 i.cx, .int .i64 i.cy, .int .i64 i.sd, .int .i64 i.W, .int .i64 i.H, pv, qv] 31) (.cells #[.int .i64 g.fl, .int .i64 g.kn, .int .i64 g.a, .int .i64 g.b, .int .i64 g.c] 24) (.cells m.arr 39) (.cells #[.int .i64 (str : Int)] 3)
  obtain ⟨W2, hW2⟩ : ∃ W2, W1.alloc (.cells #[.int .i64 0, .int .i64 0, .int .i64 0, .int .i64 0, .int .i64 0] 39) = W2 := ⟨_, rfl⟩
  have e5 : W1.heap.size = w.heap.size + 1 + 1 + 1 + 1 := by omega
  have p5 := heap_alloc_new W1 (.cells #[.int .i64 0, .int .i64 0, .int .i64 0, .int .i64 0, .int .i64 0] 39)
  rw [e5, hW2] at p5
  have hz2 : W2.heap.size = w.heap.size + 1 + 1 + 1 + 1 + 1 := by rw [← hW2]; simp; omega
  obtain ⟨W3, hW3⟩ : ∃ W3, W2.alloc (.cells (shArr i g pv qv) 94) = W3 := ⟨_, rfl⟩
  have p6 := heap_alloc_new W2 (.cells (shArr i g pv qv) 94)
  rw [hz2, hW3] at p6
  have hzW : W3.heap.size = w.heap.size + 6 := by rw [← hW3]; simp; omega
  have hb2 : Below w.heap.size w W2 := by rw [← hW2]; exact hb1.alloc hb1.size _
  have hb3 : Below w.heap.size w W3 := by rw [← hW3]; exact hb2.alloc hb2.size _
  have r1 : W2.heap[w.heap.size]? = some (.cells #[.int .i64 i.cx, .int .i64 i.cy, .int .i64 i.sd, .int .i64 i.W, .int .i64 i.H, pv, qv] 31 (0, 0)) := by rw [← hW2]; exact carryA p1 _
  have r2 : W2.heap[w.heap.size + 1]? = some (.cells #[.int .i64 g.fl, .int .i64 g.kn, .int .i64 g.a, .int .i64 g.b, .int .i64 g.c] 24 (0, 0)) := by rw [← hW2]; exact carryA p2 _
  have q3 : W3.heap[w.heap.size + 1 + 1]? = some (.cells m.arr 39 (0, 0)) := by rw [← hW3, ← hW2]; exact carryA (carryA p3 _) _
  have q4 : W3.heap[w.heap.size + 1 + 1 + 1]? = some (.cells #[.int .i64 (str : Int)] 3 (0, 0)) := by rw [← hW3, ← hW2]; exact carryA (carryA p4 _) _
  have q5 : W3.heap[w.heap.size + 1 + 1 + 1 + 1]? = some (.cells #[.int .i64 0, .int .i64 0, .int .i64 0, .int .i64 0, .int .i64 0] 39 (0, 0)) := by rw [← hW3]; exact carryA p5 _
  have HR := hid (fun W (hb : Below w.heap.size w W) => right25_any i.cx i.cy i.sd i.W i.H pv qv i.pl i.ql g.fl g.kn g.a g.b g.c m (.slice none 0 0) [] W (hat.below hb).1 (hat.below hb).2 ⟨none, 0, rfl, by simp, .inl rfl⟩)
  rw [show iceOk i.cx i.cy i.sd i.W i.H i.pl i.ql = true from hi, show grainOk g.fl g.kn g.a g.b g.c = true from hg, hm, show broomsOk [] = true from rfl] at HR
  have HT := hid (fun (W : World) (hb : Below w.heap.size w W) hS hM hN hR => tick163_any i g pv qv m str (w.heap.size + 1 + 1 + 1 + 1 + 1) (w.heap.size + 1 + 1) (w.heap.size + 1 + 1 + 1) (w.heap.size + 1 + 1 + 1 + 1) W hi hg hm hs (hat.below hb) hS hM hN hR)
  have HWI := hid (show ∀ W, Calls Tryz.prog 26 #[.int .i64 (str : Int), .int .i64 0, .int .i64 1000] W fun e w' => e = .returned (.bool true) ∧ w' = W from fun W => by
    have h := within26_any (str : Int) 0 1000 W
    rwa [show inB (str : Int) 0 1000 = true by simp [inB]; omega] at h)
  have HER := hid (show ∀ c, tickI i g str m = .error c → c = 4 from fun c h => tickI_err h)
  generalize tickI i g str m = r at *
  have HW1 := hid hW1
  have HW2 := hid hW2
  have HW3 := hid hW3
  have HR12 := hid (And.intro r1 r2)
  have HQ := hid (And.intro q3 (And.intro q4 q5))
  have HP6 := hid p6
  have HB3 := hid hb3
  have HZ := hid hzW
  have HZ2 := hid hz2
  have hmf := run_makeFunc
  subst hpv hqv
  clear hi hg hm hs hat hW1 hW2 hW3 hz1 hz2 hzW hb1 hb2 hb3 p1 p2 p3 p4 p5 p6 r1 r2 q3 q4 q5 e5
  obtain ⟨mx, my, mvx, mvy, msp⟩ := m
  dsimp only [Mov.arr] at HW1 HQ HT
  dsimp only [shArr] at HW3 HP6 HT
  show Calls Tryz.prog 134 #[iceV _ _ _ _ _ _ _, grainV _ _ _ _ _, movV mx my mvx mvy msp, _] w _
  go_enter Tryz.func134, Tryz.ntmps134
  go_upto_region 1 with fail
  rw [HW1.out, HW2.out]
  have a0 := cellN (i := 0) (v := .int .i64 i.cx) HR12.out.1 rfl
  have a1 := cellN (i := 1) (v := .int .i64 i.cy) HR12.out.1 rfl
  have a2 := cellN (i := 2) (v := .int .i64 i.sd) HR12.out.1 rfl
  have a3 := cellN (i := 3) (v := .int .i64 i.W) HR12.out.1 rfl
  have a4 := cellN (i := 4) (v := .int .i64 i.H) HR12.out.1 rfl
  have a5 := cellN (i := 5) (v := .slice pa i.pl.length pc) HR12.out.1 rfl
  have a6 := cellN (i := 6) (v := .slice qa i.ql.length qc) HR12.out.1 rfl
  have b0 := cellN (i := 0) (v := .int .i64 g.fl) HR12.out.2 rfl
  have b1 := cellN (i := 1) (v := .int .i64 g.kn) HR12.out.2 rfl
  have b2 := cellN (i := 2) (v := .int .i64 g.a) HR12.out.2 rfl
  have b3 := cellN (i := 3) (v := .int .i64 g.b) HR12.out.2 rfl
  have b4 := cellN (i := 4) (v := .int .i64 g.c) HR12.out.2 rfl
  have hz2 := HZ2.out
  go_upto_region 2 with fail
  rw [HW3.out]
  clear a0 a1 a2 a3 a4 a5 a6 b0 b1 b2 b3 b4 hz2 HW1 HW2 HW3 HZ2 HR12
  have s0 := cellN (i := 0) (v := .int .i64 i.cx) HP6.out rfl
  have s1 := cellN (i := 1) (v := .int .i64 i.cy) HP6.out rfl
  have s2 := cellN (i := 2) (v := .int .i64 i.sd) HP6.out rfl
  have s3 := cellN (i := 3) (v := .int .i64 i.W) HP6.out rfl
  have s4 := cellN (i := 4) (v := .int .i64 i.H) HP6.out rfl
  have s5 := cellN (i := 5) (v := .slice pa i.pl.length pc) HP6.out rfl
  have s6 := cellN (i := 6) (v := .slice qa i.ql.length qc) HP6.out rfl
  have s7 := cellN (i := 7) (v := .int .i64 g.fl) HP6.out rfl
  have s8 := cellN (i := 8) (v := .int .i64 g.kn) HP6.out rfl
  have s9 := cellN (i := 9) (v := .int .i64 g.a) HP6.out rfl
  have s10 := cellN (i := 10) (v := .int .i64 g.b) HP6.out rfl
  have s11 := cellN (i := 11) (v := .int .i64 g.c) HP6.out rfl
  have m0 := cellN (i := 0) (v := .int .i64 mx) HQ.out.1 rfl
  have m1 := cellN (i := 1) (v := .int .i64 my) HQ.out.1 rfl
  have m2 := cellN (i := 2) (v := .int .i64 mvx) HQ.out.1 rfl
  have m3 := cellN (i := 3) (v := .int .i64 mvy) HQ.out.1 rfl
  have m4 := cellN (i := 4) (v := .int .i64 msp) HQ.out.1 rfl
  go_wp2_with fail
  refine (HR.out _ HB3.out).mono ?_
  rintro e w4 ⟨rfl, hb4⟩
  have HB4 := hid (HB3.out.trans (hb4.mono HB3.out.size))
  have HP6 := hid (carry HP6.out hb4)
  have HQ4 := hid (And.intro (carry HQ.out.1 hb4) (And.intro (carry HQ.out.2.1 hb4) (carry HQ.out.2.2 hb4)))
  have HS4 := hid (show w.heap.size + 6 ≤ w4.heap.size by have := hb4.size; have := HZ.out; omega)
  clear hb4 s0 s1 s2 s3 s4 s5 s6 s7 s8 s9 s10 s11 m0 m1 m2 m3 m4 HR HQ HB3
  have n0 := cellN (i := 0) (v := .int .i64 (str : Int)) HQ4.out.2.1 rfl
  go_wp2_with fail
  refine (HWI.out _).mono ?_
  rintro e w5 ⟨rfl, rfl⟩
  have HTR := hid (tried_g 163 #[.pointer (some ⟨w.heap.size + 1 + 1 + 1 + 1 + 1, 0, none⟩), .pointer (some ⟨w.heap.size + 1 + 1, 0, none⟩), .pointer (some ⟨w.heap.size + 1 + 1 + 1, 0, none⟩), .pointer (some ⟨w.heap.size + 1 + 1 + 1 + 1, 0, none⟩)]
    (fun W' => (∃ mm, r = .ok mm ∧ W'.heap[w.heap.size + 1 + 1 + 1 + 1]? = some (.cells mm.arr 39 (0, 0))) ∧ Ch (fun k => k = w.heap.size + 1 + 1 + 1 + 1) w5 W')
    (fun c W' => (r = .error c ∧ W'.heap[w.heap.size + 1 + 1 + 1 + 1]? = some (.cells #[.int .i64 0, .int .i64 0, .int .i64 0, .int .i64 0, .int .i64 0] 39 (0, 0))) ∧ Ch (fun k => k = w.heap.size + 1 + 1 + 1 + 1) w5 W') w5
    (enters_of Tryz.func163 (by kernel_rfl) rfl)
    ((HT.out (w5.alloc (.cells #[.int .i64 0] 33)) (HB4.out.alloc HB4.out.size _) (carryA HP6.out _) (carryA HQ4.out.1 _) (carryA HQ4.out.2.1 _) (carryA HQ4.out.2.2 _)).mono (by
      intro e W' h
      have hca : Ch (fun k => k = w.heap.size + 1 + 1 + 1 + 1) w5 (w5.alloc (.cells #[.int .i64 0] 33)) := Ch.of_below ((Below.refl _ w5).alloc (Nat.le_refl _) _)
      have hn := heap_alloc_new w5 (.cells #[.int .i64 0] 33)
      have hlt : w5.heap.size < (w5.alloc (.cells #[.int .i64 0] 33)).heap.size := by simp
      have hs4 := HS4.out
      cases r with
      | ok mm =>
        obtain ⟨h1, h2, h3⟩ := h
        exact ⟨(h3.2 w5.heap.size hlt (by omega)).trans hn, .inl ⟨h1, ⟨mm, rfl, h2⟩, hca.trans h3⟩⟩
      | error c =>
        obtain ⟨h1, h2, h3⟩ := h
        exact ⟨(h3.2 w5.heap.size hlt (by omega)).trans hn, .inr ⟨c, h1, ⟨rfl, h2.trans (carryA HQ4.out.2.2 _)⟩, hca.trans h3⟩⟩)))
  clear n0 HT HWI HP6 HQ4
  go_wp2_with fail
  refine HTR.out.mono ?_
  rintro e w6 ⟨c, W', rfl, hAB, hch⟩
  clear HTR
  have key : ∃ mm : Mov, W'.heap[w.heap.size + 1 + 1 + 1 + 1]? = some (.cells mm.arr 39 (0, 0)) ∧ Ch (fun k => k = w.heap.size + 1 + 1 + 1 + 1) w5 W' ∧ tickE r = .returned (.tuple #[mm.v, .int .i64 c]) := by
    rcases hAB with ⟨rfl, ⟨mm, h1, h2⟩, h3⟩ | ⟨⟨h1, h2⟩, h3⟩
    · exact ⟨mm, h2, h3, by rw [h1]; rfl⟩
    · exact ⟨⟨0, 0, 0, 0, 0⟩, h2, h3, by rw [h1]; rfl⟩
  obtain ⟨mm, h2, h3, h4⟩ := key
  have h10 : w6.heap[w.heap.size + 1 + 1 + 1 + 1]? = some (.cells mm.arr 39 (0, 0)) := (hch.2 _ (Array.getElem?_eq_some_iff.1 h2).1 (by have := HS4.out; omega)).trans h2
  have HB6 := hid (show Below w.heap.size w w6 from by
    have hs4 := HS4.out
    refine ⟨hch.1.os.trans (h3.1.os.trans HB4.out.os), hch.1.tape.trans (h3.1.tape.trans HB4.out.tape), hch.1.output.trans (h3.1.output.trans HB4.out.output), Nat.le_trans HB4.out.size (Nat.le_trans h3.1.size hch.1.size), fun k hk => ?_⟩
    have hk5 : k < w5.heap.size := by omega
    exact (hch.2 k (Nat.lt_of_lt_of_le hk5 h3.1.size) (by omega)).trans ((h3.2 k hk5 (by omega)).trans (HB4.out.block k hk)))
  have HTE := hid h4
  clear hAB hch h2 h3 h4 HB4 HS4 HER
  obtain ⟨ox, oy, ovx, ovy, osp⟩ := mm
  have H10 := hid h10
  have m0 := cellN (i := 0) (v := .int .i64 ox) h10 rfl
  have m1 := cellN (i := 1) (v := .int .i64 oy) h10 rfl
  have m2 := cellN (i := 2) (v := .int .i64 ovx) h10 rfl
  have m3 := cellN (i := 3) (v := .int .i64 ovy) h10 rfl
  have m4 := cellN (i := 4) (v := .int .i64 osp) h10 rfl
  have f0 := frozN (i := 0) h10
  have f1 := frozN (i := 1) h10
  have f2 := frozN (i := 2) h10
  have f3 := frozN (i := 3) h10
  have f4 := frozN (i := 4) h10
  clear h10
  go_wp2_with fail
  have hp := put5 (.int .i64 ox) (.int .i64 oy) (.int .i64 ovx) (.int .i64 ovy) (.int .i64 osp) H10.out
  have hbz := put5_below (b := w.heap.size + 1 + 1 + 1 + 1) (.int .i64 ox) (.int .i64 oy) (.int .i64 ovx) (.int .i64 ovy) (.int .i64 osp) HB6.out (by omega)
  clear m0 m1 m2 m3 m4 f0 f1 f2 f3 f4
  generalize (((((w6.setCell ⟨w.heap.size + 1 + 1 + 1 + 1, 0, none⟩ (.int .i64 ox)).setCell ⟨w.heap.size + 1 + 1 + 1 + 1, 1, none⟩ (.int .i64 oy)).setCell ⟨w.heap.size + 1 + 1 + 1 + 1, 2, none⟩ (.int .i64 ovx)).setCell ⟨w.heap.size + 1 + 1 + 1 + 1, 3, none⟩ (.int .i64 ovy)).setCell ⟨w.heap.size + 1 + 1 + 1 + 1, 4, none⟩ (.int .i64 osp)) = w7 at *
  exact bodyPost_ret (results_w2m rfl _ w7 (w.heap.size + 1 + 1 + 1 + 1) ⟨ox, oy, ovx, ovy, osp⟩ rfl hp) rfl ⟨by rw [HTE.out]; rfl, hbz⟩
end Go.Proofs.YtolnhicngepnnaaGreat
/- contact: the plain law of a tick of a scene. -/
namespace Go.Proofs.YtolnhicngepnnaaGreat
open Go.RowKit

/-- How strong the brooms are for a body. -/
def powR (r : RinkD) (t : Int) (k : Nat) : Nat := if (k : Int) = r.who then (strR r.bl t).toNat else 0
/-- A body after a tick on its own. -/
def oneT (r : RinkD) (t : Int) (k : Nat) (b : BodyD) : Except Int BodyD :=
  if (b.out || restM b.m) = true then .ok b
  else match tickI r.i r.g (powR r t k) b.m with
    | .ok m => .ok { b with m := m }
    | .error c => .error c
def setOk (l : List BodyD) (k : Nat) : Except Int BodyD → Except Int (List BodyD)
  | .ok b => .ok (l.set k b)
  | .error c => .error c
def glideStep (r : RinkD) (t : Int) (k : Nat) : Except Int (List BodyD) → Except Int (List BodyD)
  | .error c => .error c
  | .ok s => match s[k]? with
    | none => .ok s
    | some b => setOk s k (oneT r t k b)
/-- The scene when its first bodies have glided. -/
def glideTo (r : RinkD) (t : Int) (l : List BodyD) : Nat → Except Int (List BodyD)
  | 0 => .ok l
  | k + 1 => glideStep r t k (glideTo r t l k)
/-- A hit. -/
structure HitD where
  t : Int
  a : Int
  b : Int
  deriving DecidableEq
def HitD.cells (h : HitD) : List Value := [.int .i64 h.t, .int .i64 h.a, .int .i64 h.b]
/-- A scene in its rounds: whether two bodies met, and the hits. -/
structure RS where
  s : List BodyD
  met : Bool
  hits : List HitD
def pairM (t : Int) (a b : Nat) (st : RS) : Except Int (Option (BodyD × BodyD)) → Except Int RS
  | .error c => .error c
  | .ok none => .ok st
  | .ok (some p) => .ok ⟨(st.s.set a p.1).set b p.2, true, st.hits ++ [⟨t, a, b⟩]⟩
def pairS (el t : Int) (a b : Nat) (st : RS) : Except Int RS :=
  match st.s[a]?, st.s[b]? with
  | some x, some y => if touchB x y = true then pairM t a b st (meetR el x y) else .ok st
  | _, _ => .ok st
def thenR (x : Except Int RS) (f : RS → Except Int RS) : Except Int RS :=
  match x with
  | .error c => .error c
  | .ok q => f q
def innTo (el t : Int) (a : Nat) (st : RS) : Nat → Except Int RS
  | 0 => .ok st
  | n + 1 => thenR (innTo el t a st n) (pairS el t a (a + 1 + n))
def outTo (el t : Int) (N : Nat) (st : RS) : Nat → Except Int RS
  | 0 => .ok st
  | n + 1 => thenR (outTo el t N st n) (fun q => innTo el t n q (N - (n + 1)))
def roundS (el t : Int) (q : RS) : Except Int RS := outTo el t q.s.length ⟨q.s, false, q.hits⟩ q.s.length
def passS (el t : Int) (q : RS) : Except Int RS := if q.met = true then roundS el t q else .ok q
def passTo (el t : Int) (s : List BodyD) : Nat → Except Int RS
  | 0 => .ok ⟨s, true, []⟩
  | n + 1 => thenR (passTo el t s n) (passS el t)
def outB (b : BodyD) : BodyD := if (!b.out && goneM b.m) = true then { b with out := true, m := ⟨b.m.x, b.m.y, 0, 0, 0⟩ } else b
def afterS (x : Except Int RS) : Except Int (List BodyD × List HitD) :=
  match x with
  | .error c => .error c
  | .ok q => .ok (q.s.map outB, q.hits)
def tickP (r : RinkD) (t : Int) : Except Int (List BodyD) → Except Int (List BodyD × List HitD)
  | .error c => .error c
  | .ok s => afterS (passTo r.el t s 8)
/-- A tick of a scene, and its hits. -/
def tickS (r : RinkD) (t : Int) (l : List BodyD) : Except Int (List BodyD × List HitD) := tickP r t (glideTo r t l l.length)

/-- All bodies of a scene are of a good kind, and as in an other scene. -/
def Like (l s : List BodyD) : Prop := s.length = l.length ∧ (∀ b ∈ s, b.m.ok = true) ∧ s.map nameB = l.map nameB
theorem Like.refl {l : List BodyD} (h : ∀ b ∈ l, b.m.ok = true) : Like l l := ⟨rfl, h, rfl⟩
theorem map_set_same {α β : Type} (f : α → β) (l : List α) (k : Nat) (x y : α) (h : l[k]? = some x) (hf : f y = f x) : (l.set k y).map f = l.map f := by
  apply List.ext_getElem?
  intro i
  simp only [List.getElem?_map, List.getElem?_set]
  by_cases e : k = i
  · subst e
    obtain ⟨h1, h2⟩ := List.getElem?_eq_some_iff.1 h
    simp [h1, hf, h2]
  · simp [e]
theorem Like.set {l s : List BodyD} {k : Nat} {x y : BodyD} (h : Like l s) (hx : s[k]? = some x) (hm : y.m.ok = true) (hn : nameB y = nameB x) : Like l (s.set k y) :=
  ⟨by simp [h.1], fun b hb => by rcases List.mem_or_eq_of_mem_set hb with h1 | rfl
                                 · exact h.2.1 b h1
                                 · exact hm, by rw [map_set_same nameB s k x y hx hn, h.2.2]⟩
theorem oneT_like {r : RinkD} {t : Int} {k : Nat} {b b' : BodyD} (hb : b.m.ok = true) (h : oneT r t k b = .ok b') : b'.m.ok = true ∧ nameB b' = nameB b := by
  unfold oneT at h
  split at h
  · obtain rfl : b = b' := by simpa using h
    exact ⟨hb, rfl⟩
  · cases hx : tickI r.i r.g (powR r t k) b.m with
    | error c => rw [hx] at h; simp at h
    | ok m =>
      rw [hx] at h
      simp only [Except.ok.injEq] at h
      subst h
      exact ⟨tickI_ok hb hx, rfl⟩
theorem glideStep_like {r : RinkD} {t : Int} {k : Nat} {l s s' : List BodyD} (hs : Like l s) (h : glideStep r t k (.ok s) = .ok s') : Like l s' := by
  unfold glideStep at h
  cases hx : s[k]? with
  | none => simp only [hx, Except.ok.injEq] at h; subst h; exact hs
  | some b =>
    simp only [hx] at h
    cases ho : oneT r t k b with
    | error c => rw [ho] at h; simp [setOk] at h
    | ok b' =>
      rw [ho] at h
      simp only [setOk, Except.ok.injEq] at h
      subst h
      have h1 := oneT_like (hs.2.1 b (List.mem_of_getElem? hx)) ho
      exact hs.set hx h1.1 h1.2
theorem glideTo_like {r : RinkD} {t : Int} {l s : List BodyD} (hl : ∀ b ∈ l, b.m.ok = true) : ∀ {k : Nat}, glideTo r t l k = .ok s → Like l s
  | 0, h => by simp only [glideTo, Except.ok.injEq] at h; subst h; exact Like.refl hl
  | k + 1, h => by
    simp only [glideTo] at h
    cases hx : glideTo r t l k with
    | error c => rw [hx] at h; simp [glideStep] at h
    | ok q => rw [hx] at h; exact glideStep_like (glideTo_like hl hx) h
theorem glideTo_err {r : RinkD} {t c : Int} {l : List BodyD} {k : Nat} (h : glideTo r t l k = .error c) : ∀ n, k ≤ n → glideTo r t l n = .error c := by
  intro n hn
  induction n with
  | zero => obtain rfl : k = 0 := by omega
            exact h
  | succ n ih =>
    by_cases e : k = n + 1
    · subst e; exact h
    · simp only [glideTo, ih (by omega), glideStep]
theorem thenR_ok {x : Except Int RS} {f : RS → Except Int RS} {q : RS} (h : thenR x f = .ok q) : ∃ p, x = .ok p ∧ f p = .ok q := by
  unfold thenR at h
  cases x with
  | error c => simp at h
  | ok p => exact ⟨p, rfl, h⟩
theorem innTo_err {el t c : Int} {a : Nat} {st : RS} {k : Nat} (h : innTo el t a st k = .error c) : ∀ n, k ≤ n → innTo el t a st n = .error c := by
  intro n hn
  induction n with
  | zero => obtain rfl : k = 0 := by omega
            exact h
  | succ n ih =>
    by_cases e : k = n + 1
    · subst e; exact h
    · simp only [innTo, ih (by omega), thenR]
theorem outTo_err {el t c : Int} {N : Nat} {st : RS} {k : Nat} (h : outTo el t N st k = .error c) : ∀ n, k ≤ n → outTo el t N st n = .error c := by
  intro n hn
  induction n with
  | zero => obtain rfl : k = 0 := by omega
            exact h
  | succ n ih =>
    by_cases e : k = n + 1
    · subst e; exact h
    · simp only [outTo, ih (by omega), thenR]
theorem passTo_err {el t c : Int} {s : List BodyD} {k : Nat} (h : passTo el t s k = .error c) : ∀ n, k ≤ n → passTo el t s n = .error c := by
  intro n hn
  induction n with
  | zero => obtain rfl : k = 0 := by omega
            exact h
  | succ n ih =>
    by_cases e : k = n + 1
    · subst e; exact h
    · simp only [passTo, ih (by omega), thenR]
/-- Once no two bodies met, the passes are over. -/
theorem passTo_stop {el t : Int} {s : List BodyD} {q : RS} {k : Nat} (h : passTo el t s k = .ok q) (hm : q.met = false) : ∀ n, k ≤ n → passTo el t s n = .ok q := by
  intro n hn
  induction n with
  | zero => obtain rfl : k = 0 := by omega
            exact h
  | succ n ih =>
    by_cases e : k = n + 1
    · subst e; exact h
    · simp only [passTo, ih (by omega), thenR, passS, hm]; rfl
theorem valid_ok {b : BodyD} (h : b.valid = true) : b.m.ok = true := by
  simp only [BodyD.valid, Bool.and_eq_true] at h; exact h.2.2
theorem meetR_ok {el : Int} {x y : BodyD} {p : BodyD × BodyD} (h : meetR el x y = .ok (some p)) : p = (meetA el x y, meetB el x y) ∧ (meetA el x y).valid = true ∧ (meetB el x y).valid = true := by
  unfold meetR at h
  split at h
  · simp at h
  · split at h
    · rename_i h2
      simp only [Except.ok.injEq, Option.some.injEq] at h
      simp only [Bool.and_eq_true] at h2
      exact ⟨h.symm, h2⟩
    · simp at h
theorem pairS_like {el t : Int} {a b : Nat} {l : List BodyD} {st q : RS} (hab : a ≠ b) (hs : Like l st.s) (h : pairS el t a b st = .ok q) : Like l q.s := by
  unfold pairS at h
  split at h
  · rename_i x y hx hy
    split at h
    · cases hm : meetR el x y with
      | error c => rw [hm] at h; simp [pairM] at h
      | ok o =>
        rw [hm] at h
        cases o with
        | none => simp only [pairM, Except.ok.injEq] at h; subst h; exact hs
        | some p =>
          obtain ⟨rfl, h1, h2⟩ := meetR_ok hm
          simp only [pairM, Except.ok.injEq] at h
          subst h
          refine (hs.set hx (valid_ok h1) rfl).set (x := y) ?_ (valid_ok h2) rfl
          rw [List.getElem?_set_ne hab]; exact hy
    · simp only [Except.ok.injEq] at h; subst h; exact hs
  · simp only [Except.ok.injEq] at h; subst h; exact hs
theorem innTo_like {el t : Int} {a : Nat} {l : List BodyD} {st : RS} (hs : Like l st.s) : ∀ {n : Nat} {q : RS}, innTo el t a st n = .ok q → Like l q.s
  | 0, q, h => by simp only [innTo, Except.ok.injEq] at h; subst h; exact hs
  | n + 1, q, h => by
    obtain ⟨p, h1, h2⟩ := thenR_ok h
    exact pairS_like (by omega) (innTo_like hs h1) h2
theorem outTo_like {el t : Int} {N : Nat} {l : List BodyD} {st : RS} (hs : Like l st.s) : ∀ {n : Nat} {q : RS}, outTo el t N st n = .ok q → Like l q.s
  | 0, q, h => by simp only [outTo, Except.ok.injEq] at h; subst h; exact hs
  | n + 1, q, h => by
    obtain ⟨p, h1, h2⟩ := thenR_ok h
    exact innTo_like (outTo_like hs h1) h2
theorem roundS_like {el t : Int} {l : List BodyD} {st q : RS} (hs : Like l st.s) (h : roundS el t st = .ok q) : Like l q.s := outTo_like (st := ⟨st.s, false, st.hits⟩) hs h
theorem passTo_like {el t : Int} {l s : List BodyD} (hs : Like l s) : ∀ {n : Nat} {q : RS}, passTo el t s n = .ok q → Like l q.s
  | 0, q, h => by simp only [passTo, Except.ok.injEq] at h; subst h; exact hs
  | n + 1, q, h => by
    obtain ⟨p, h1, h2⟩ := thenR_ok h
    have h3 := passTo_like hs h1
    unfold passS at h2
    split at h2
    · exact roundS_like h3 h2
    · simp only [Except.ok.injEq] at h2; subst h2; exact h3
theorem outB_ok {b : BodyD} (h : b.m.ok = true) : (outB b).m.ok = true ∧ nameB (outB b) = nameB b := by
  unfold outB
  split
  · have := movOk_b h
    refine ⟨?_, rfl⟩
    simp only [Mov.ok, movOk, inB, Bool.and_eq_true, decide_eq_true_eq]
    omega
  · exact ⟨h, rfl⟩
theorem tickS_like {r : RinkD} {t : Int} {l s : List BodyD} {hh : List HitD} (hl : ∀ b ∈ l, b.m.ok = true) (h : tickS r t l = .ok (s, hh)) : Like l s := by
  unfold tickS at h
  cases hg : glideTo r t l l.length with
  | error c => rw [hg] at h; simp [tickP] at h
  | ok s1 =>
    rw [hg] at h
    simp only [tickP] at h
    have h1 := glideTo_like hl hg
    cases hp : passTo r.el t s1 8 with
    | error c => rw [hp] at h; simp [afterS] at h
    | ok q =>
      rw [hp] at h
      simp only [afterS, Except.ok.injEq, Prod.mk.injEq] at h
      have h2 := passTo_like h1 hp
      obtain ⟨rfl, rfl⟩ := h
      refine ⟨by simp [h2.1], fun b hb => ?_, ?_⟩
      · obtain ⟨x, hx, rfl⟩ := List.mem_map.1 hb
        exact (outB_ok (h2.2.1 x hx)).1
      · rw [← h2.2.2, List.map_map]
        exact List.map_congr_left fun x hx => (outB_ok (h2.2.1 x hx)).2
end Go.Proofs.YtolnhicngepnnaaGreat
