/- glide.tick: what it computes. -/
import Derived.Test.YtolnhicngepnnaaGreatT7
namespace Go.Proofs.YtolnhicngepnnaaGreat
open Go.RowKit

/-- A stone that moves. -/
structure Mov where
  x : Int
  y : Int
  vx : Int
  vy : Int
  sp : Int
  deriving DecidableEq
def Mov.v (m : Mov) : Value := movV m.x m.y m.vx m.vy m.sp
def Mov.ok (m : Mov) : Bool := movOk m.x m.y m.vx m.vy m.sp
def brakeN (sN str : Nat) : Nat := nearN (sN * (5000 - str)) 5000
def bend2N (bN str : Nat) : Nat := nearN (bN * (2000 - str)) 2000
/-- A stone that goes on for a tick. -/
def goM (sN bN str : Nat) (m : Mov) : Mov :=
  let s := sqN m.vx m.vy
  let br : Int := brakeN sN str
  let k := cutZ br (cutZ (bend2N bN str) m.sp 1000) 65536
  let qx := m.vx - cutZ (unitF m.vx s) br 65536 + cutZ (-unitF m.vy s) k 65536
  let qy := m.vy - cutZ (unitF m.vy s) br 65536 + cutZ (unitF m.vx s) k 65536
  ⟨m.x + qx, m.y + qy, qx, qy, m.sp⟩
/-- A tick. -/
def tickR (sN bN str : Nat) (m : Mov) : Except Int Mov :=
  if isq (sqN m.vx m.vy) ≤ brakeN sN str then .ok ⟨m.x, m.y, 0, 0, 0⟩ else if (goM sN bN str m).ok then .ok (goM sN bN str m) else .error 4
def EndsM (r : Except Int Mov) (e : Ending) : Prop := match r with | .ok m => e = .returned m.v | .error c => e = .panicked (gmisfit c)
theorem movOk_b {m : Mov} (h : m.ok = true) : ((-6553600000 ≤ m.x ∧ m.x ≤ 6553600000) ∧ -6553600000 ≤ m.y ∧ m.y ≤ 6553600000) ∧ ((-65536000 ≤ m.vx ∧ m.vx ≤ 65536000) ∧ -65536000 ≤ m.vy ∧ m.vy ≤ 65536000) ∧ -1000 ≤ m.sp ∧ m.sp ≤ 1000 := by
  simp only [Mov.ok, movOk, inB, Bool.and_eq_true, decide_eq_true_eq] at h
  exact ⟨h.1, h.2.1, h.2.2⟩
theorem okF_of {a : Int} (h1 : -70368744177664 ≤ a) (h2 : a ≤ 70368744177664) : okF a = true := by simp [okF, h1, h2]
theorem isq_le {s n : Nat} (h : s ≤ n * n) : isq s ≤ n := by
  have h1 := (isq_is s).1
  exact Nat.le_of_not_lt fun hlt => by
    have : (n + 1) * (n + 1) ≤ isq s * isq s := Nat.mul_le_mul hlt hlt
    have h2 : (n + 1) * (n + 1) = n * n + 2 * n + 1 := by rw [Nat.add_mul, Nat.mul_add]; omega
    omega
theorem lenR_down {x y : Int} (hx : okF x = true) (hy : okF y = true) (h : isq (sqN x y) ≤ 70368744177664) : lenR 1 x y = .ok (isq (sqN x y) : Int) := by
  unfold lenR
  rw [hx, hy, show wayF 1 = some 96 from rfl, show x.natAbs * x.natAbs + y.natAbs * y.natAbs = sqN x y from rfl]
  simp only [Bool.and_self, if_true]
  have h1 : rootM 96 (sqN x y) (isq (sqN x y)) = isq (sqN x y) := by
    unfold rootM roundR
    simp
  rw [h1]
  unfold signX
  rw [if_pos h]
  rfl
theorem each_ok {F : Int → Int → Except Int Int} {ax ay bx by' rx ry : Int} (h1 : okF ax = true) (h2 : okF ay = true) (h3 : okF bx = true) (h4 : okF by' = true) (h5 : F ax bx = .ok rx) (h6 : F ay by' = .ok ry) : eachR F ax ay bx by' = .ok (rx, ry) := by
  unfold eachR
  rw [h1, h2, h3, h4]
  simp only [Bool.and_self, if_true]
  rw [h5, h6]
theorem add_ok {a b : Int} (h1 : okF a = true) (h2 : okF b = true) (h3 : okF (a + b) = true) : addR a b = .ok (a + b) := by
  unfold addR
  rw [h1, h2]
  simp only [Bool.and_self, if_true]
  rw [if_pos (by simpa [okF] using h3)]
theorem sub_ok {a b : Int} (h1 : okF a = true) (h2 : okF b = true) (h3 : okF (a - b) = true) : subR a b = .ok (a - b) := by
  unfold subR
  rw [h1, h2]
  simp only [Bool.and_self, if_true]
  rw [if_pos (by simpa [okF] using h3)]
theorem plus_ok {ax ay bx by' : Int} (h1 : okF ax = true) (h2 : okF ay = true) (h3 : okF bx = true) (h4 : okF by' = true) (h5 : okF (ax + bx) = true) (h6 : okF (ay + by') = true) (w : World) :
    Calls Tryz.prog 142 #[.agg #[.int .i64 ax, .int .i64 ay], .agg #[.int .i64 bx, .int .i64 by']] w fun e w' => e = .returned (.tuple #[.agg #[.int .i64 (ax + bx), .int .i64 (ay + by')], .int .i64 0]) ∧ Below w.heap.size w w' := by
  have h := plus142_any ax ay bx by' w
  rw [each_ok h1 h2 h3 h4 (add_ok h1 h3 h5) (add_ok h2 h4 h6)] at h
  exact h
theorem minus_ok {ax ay bx by' : Int} (h1 : okF ax = true) (h2 : okF ay = true) (h3 : okF bx = true) (h4 : okF by' = true) (h5 : okF (ax - bx) = true) (h6 : okF (ay - by') = true) (w : World) :
    Calls Tryz.prog 135 #[.agg #[.int .i64 ax, .int .i64 ay], .agg #[.int .i64 bx, .int .i64 by']] w fun e w' => e = .returned (.tuple #[.agg #[.int .i64 (ax - bx), .int .i64 (ay - by')], .int .i64 0]) ∧ Below w.heap.size w w' := by
  have h := minus135_any ax ay bx by' w
  rw [each_ok h1 h2 h3 h4 (sub_ok h1 h3 h5) (sub_ok h2 h4 h6)] at h
  exact h
theorem natAbs_le' {a : Int} {n : Nat} (h1 : -(n : Int) ≤ a) (h2 : a ≤ n) : a.natAbs ≤ n := by omega
theorem sq_le {x : Int} {n : Nat} (h : x.natAbs ≤ n) : x.natAbs * x.natAbs ≤ n * n := Nat.mul_le_mul h h
theorem cut16 {u b : Int} (hu : u.natAbs ≤ 65536) (hb : b.natAbs ≤ 65536) : -65536 ≤ cutZ u b 65536 ∧ cutZ u b 65536 ≤ 65536 :=
  cutZ_le (d := 65536) (m := 65536) (Nat.mul_le_mul hu hb)
set_option maxHeartbeats 2000000 in
theorem tick113_any (cx cy sd W H fl kn a b c : Int) (pa qa : Option Addr) (pn pc qn qc : Nat) (m : Mov) (sN bN str : Nat) (hm : m.ok = true) (hs : str ≤ 1000) (hsN : sN ≤ 65536) (hbN : bN ≤ 65536) (w : World)
    (H1 : ∀ U, Below w.heap.size w U → Calls Tryz.prog 9 #[iceV cx cy sd W H (.slice pa pn pc) (.slice qa qn qc), grainV fl kn a b c, .agg #[.int .i64 m.x, .int .i64 m.y]] U fun e U' => e = .returned (.tuple #[.int .i64 (sN : Int), .int .i64 0]) ∧ Below U.heap.size U U')
    (H4 : ∀ U, Below w.heap.size w U → Calls Tryz.prog 155 #[iceV cx cy sd W H (.slice pa pn pc) (.slice qa qn qc), grainV fl kn a b c, .agg #[.int .i64 m.x, .int .i64 m.y]] U fun e U' => e = .returned (.tuple #[.int .i64 (bN : Int), .int .i64 0]) ∧ Below U.heap.size U U') :
    Calls Tryz.prog 113 #[.agg #[.int .i64 cx, .int .i64 cy, .int .i64 sd, .int .i64 W, .int .i64 H, .slice pa pn pc, .slice qa qn qc, .int .i64 fl, .int .i64 kn, .int .i64 a, .int .i64 b, .int .i64 c], m.v, .int .i64 (str : Int)] w fun e w' => EndsM (tickR sN bN str m) e ∧ Below w.heap.size w w' := by
  obtain ⟨⟨⟨x1, x2⟩, y1, y2⟩, ⟨⟨vx1, vx2⟩, vy1, vy2⟩, sp1, sp2⟩ := movOk_b hm
  have okx := okF_of (a := m.x) (by omega) (by omega)
  have oky := okF_of (a := m.y) (by omega) (by omega)
  have okvx := okF_of (a := m.vx) (by omega) (by omega)
  have okvy := okF_of (a := m.vy) (by omega) (by omega)
  have hbr : brakeN sN str ≤ 65536 := Nat.le_trans (nearN_le (m := sN) (by omega) (Nat.mul_le_mul (Nat.le_refl _) (by omega))) hsN
  have hb2 : bend2N bN str ≤ 65536 := Nat.le_trans (nearN_le (m := bN) (by omega) (Nat.mul_le_mul (Nat.le_refl _) (by omega))) hbN
  have h5 : sN * (5000 - str) ≤ 65536 * 5000 := Nat.mul_le_mul hsN (by omega)
  have h6 : bN * (2000 - str) ≤ 65536 * 2000 := Nat.mul_le_mul hbN (by omega)
  have H2 : ∀ U, Calls Tryz.prog 55 #[.int .i64 (sN : Int), .int .i64 (5000 - (str : Int)), .int .i64 5000, .int .i64 3] U fun e U' => e = .returned (.tuple #[.int .i64 (brakeN sN str : Int), .int .i64 0]) ∧ Below U.heap.size U U' := fun U => by
    have h := scaleN_any sN (5000 - str) 5000 (by omega) (by omega) (by omega) (by omega) (by omega) (by show brakeN sN str ≤ _; omega) U
    rwa [show ((5000 - str : Nat) : Int) = 5000 - (str : Int) by omega] at h
  have H5 : ∀ U, Calls Tryz.prog 55 #[.int .i64 (bN : Int), .int .i64 (2000 - (str : Int)), .int .i64 2000, .int .i64 3] U fun e U' => e = .returned (.tuple #[.int .i64 (bend2N bN str : Int), .int .i64 0]) ∧ Below U.heap.size U U' := fun U => by
    have h := scaleN_any bN (2000 - str) 2000 (by omega) (by omega) (by omega) (by omega) (by omega) (by show bend2N bN str ≤ _; omega) U
    rwa [show ((2000 - str : Nat) : Int) = 2000 - (str : Int) by omega] at h
  have a1 := sq_le (natAbs_le' (n := 65536000) vx1 vx2)
  have a2 := sq_le (natAbs_le' (n := 65536000) vy1 vy2)
  have hlen : isq (sqN m.vx m.vy) ≤ 100000000 := isq_le (by unfold sqN; omega)
  have H3 : ∀ U, Calls Tryz.prog 154 #[.agg #[.int .i64 m.vx, .int .i64 m.vy], .int .i64 1] U fun e U' => e = .returned (.tuple #[.int .i64 (isq (sqN m.vx m.vy) : Int), .int .i64 0]) ∧ Below U.heap.size U U' := fun U => by
    have h := length16_any m.vx m.vy 1 U
    rwa [lenR_down okvx okvy (by omega)] at h
  unfold tickR
  by_cases hle : isq (sqN m.vx m.vy) ≤ brakeN sN str
  · rw [if_pos hle]
    exact tick113_stop cx cy sd W H fl kn a b c pa qa pn pc qn qc m.x m.y m.vx m.vy m.sp str sN (brakeN sN str) (isq (sqN m.vx m.vy)) (by omega) w H1 H2 H3 (by omega)
  · rw [if_neg hle]
    have hpos : 0 < sqN m.vx m.vy := Nat.pos_of_ne_zero fun h => by rw [h] at hle; exact hle (Nat.zero_le _)
    have H7 := fun U => unit138_any m.vx m.vy okvx okvy hpos U
    obtain ⟨ux1, ux2⟩ := unitF_le m.vx (sqN m.vx m.vy)
    obtain ⟨uy1, uy2⟩ := unitF_le m.vy (sqN m.vx m.vy)
    have hgo : goM sN bN str m = ⟨m.x + (m.vx - cutZ (unitF m.vx (sqN m.vx m.vy)) (brakeN sN str) 65536 + cutZ (-unitF m.vy (sqN m.vx m.vy)) (cutZ (brakeN sN str) (cutZ (bend2N bN str) m.sp 1000) 65536) 65536), m.y + (m.vy - cutZ (unitF m.vy (sqN m.vx m.vy)) (brakeN sN str) 65536 + cutZ (unitF m.vx (sqN m.vx m.vy)) (cutZ (brakeN sN str) (cutZ (bend2N bN str) m.sp 1000) 65536) 65536), m.vx - cutZ (unitF m.vx (sqN m.vx m.vy)) (brakeN sN str) 65536 + cutZ (-unitF m.vy (sqN m.vx m.vy)) (cutZ (brakeN sN str) (cutZ (bend2N bN str) m.sp 1000) 65536) 65536, m.vy - cutZ (unitF m.vy (sqN m.vx m.vy)) (brakeN sN str) 65536 + cutZ (unitF m.vx (sqN m.vx m.vy)) (cutZ (brakeN sN str) (cutZ (bend2N bN str) m.sp 1000) 65536) 65536, m.sp⟩ := rfl
    rw [hgo]
    clear hgo
    generalize unitF m.vx (sqN m.vx m.vy) = ux at *
    generalize unitF m.vy (sqN m.vx m.vy) = uy at *
    generalize brakeN sN str = br at *
    generalize bend2N bN str = d1 at *
    have bd2 := cutZ_le (a := (d1 : Int)) (b := m.sp) (d := 1000) (m := 65536) (Nat.mul_le_mul (by omega) (by omega))
    have H6 : ∀ U, Calls Tryz.prog 55 #[.int .i64 (d1 : Int), .int .i64 m.sp, .int .i64 1000, .int .i64 0] U fun e U' => e = .returned (.tuple #[.int .i64 (cutZ d1 m.sp 1000), .int .i64 0]) ∧ Below U.heap.size U U' := fun U => by
      have hp : (d1 : Int).natAbs * m.sp.natAbs ≤ 65536 * 1000 := Nat.mul_le_mul (by omega) (by omega)
      have h := scale23_any (d1 : Int) m.sp 1000 0 95 rfl (okF_of (by omega) (by omega)) (by omega) (by omega) (by omega) (by omega) U
      have h2 : scaleX 95 (d1 : Int) m.sp 1000 = .ok (cutZ d1 m.sp 1000) := scale_cut (d1 : Int) m.sp 1000 (by omega) (Nat.le_trans (Nat.div_le_self _ _) (by omega))
      rwa [h2] at h
    have bd2' : -65536 ≤ cutZ d1 m.sp 1000 ∧ cutZ d1 m.sp 1000 ≤ 65536 := bd2
    clear bd2
    generalize cutZ d1 m.sp 1000 = d2 at *
    have hbr2 : (br : Int).natAbs ≤ 65536 := by omega
    have hd2' : d2.natAbs ≤ 65536 := by omega
    have hux' : ux.natAbs ≤ 65536 := by omega
    have huy' : uy.natAbs ≤ 65536 := by omega
    have huy2 : (-uy).natAbs ≤ 65536 := by omega
    have bk := cut16 hbr2 hd2'
    have mulb : ∀ u v : Int, u.natAbs ≤ 65536 → v.natAbs ≤ 65536 → u.natAbs * v.natAbs ≤ 65536 * 65536 := fun u v h1 h2 => Nat.mul_le_mul h1 h2
    have H10 : ∀ U, Calls Tryz.prog 22 #[.int .i64 (br : Int), .int .i64 d2, .int .i64 0] U fun e U' => e = .returned (.tuple #[.int .i64 (cutZ br d2 65536), .int .i64 0]) ∧ Below U.heap.size U U' := fun U => by
      have hp := mulb br d2 hbr2 hd2'
      have h := mul22_any 95 0 (br : Int) d2 rfl (okF_of (by omega) (by omega)) (okF_of (by omega) (by omega)) (by omega) U
      rwa [mul_cut (br : Int) d2 (Nat.le_trans (Nat.div_le_self _ _) (by omega))] at h
    generalize cutZ br d2 65536 = kk at *
    have hkk' : kk.natAbs ≤ 65536 := by omega
    have bx := cut16 hux' hbr2
    have bY := cut16 huy' hbr2
    have axb := cut16 huy2 hkk'
    have ayb := cut16 hux' hkk'
    have H8 := fun U => times141_cut ux uy br (okF_of (by omega) (by omega)) (okF_of (by omega) (by omega)) (okF_of (by omega) (by omega)) (by have := mulb ux br hux' hbr2; omega) (by have := mulb uy br huy' hbr2; omega) U
    have H9 := fun U => left157_ok ux uy (okF_of (by omega) (by omega)) (okF_of (by omega) (by omega)) U
    have H11 := fun U => times141_cut (-uy) ux kk (okF_of (by omega) (by omega)) (okF_of (by omega) (by omega)) (okF_of (by omega) (by omega)) (by have := mulb (-uy) kk huy2 hkk'; omega) (by have := mulb ux kk hux' hkk'; omega) U
    generalize cutZ ux br 65536 = px at *
    generalize cutZ uy br 65536 = py at *
    generalize cutZ (-uy) kk 65536 = ax at *
    generalize cutZ ux kk 65536 = ay at *
    have H12 := fun U => minus_ok (ax := m.vx) (ay := m.vy) (bx := px) (by' := py) okvx okvy (okF_of (by omega) (by omega)) (okF_of (by omega) (by omega)) (okF_of (by omega) (by omega)) (okF_of (by omega) (by omega)) U
    have H13 := fun U => plus_ok (ax := m.vx - px) (ay := m.vy - py) (bx := ax) (by' := ay) (okF_of (by omega) (by omega)) (okF_of (by omega) (by omega)) (okF_of (by omega) (by omega)) (okF_of (by omega) (by omega)) (okF_of (by omega) (by omega)) (okF_of (by omega) (by omega)) U
    have H14 := fun U => plus_ok (ax := m.x) (ay := m.y) (bx := m.vx - px + ax) (by' := m.vy - py + ay) okx oky (okF_of (by omega) (by omega)) (okF_of (by omega) (by omega)) (okF_of (by omega) (by omega)) (okF_of (by omega) (by omega)) U
    have H15 := fun U => check61_any (m.x + (m.vx - px + ax)) (m.y + (m.vy - py + ay)) (m.vx - px + ax) (m.vy - py + ay) m.sp U
    have key := tick113_go cx cy sd W H fl kn a b c pa qa pn pc qn qc m.x m.y m.vx m.vy m.sp str sN br (isq (sqN m.vx m.vy)) bN d1 d2 ux uy px py (-uy) ux kk ax ay (m.vx - px) (m.vy - py) (m.vx - px + ax) (m.vy - py + ay) (m.x + (m.vx - px + ax)) (m.y + (m.vy - py + ay)) (movOk (m.x + (m.vx - px + ax)) (m.y + (m.vy - py + ay)) (m.vx - px + ax) (m.vy - py + ay) m.sp) (by omega) w H1 H2 H3 (by omega) H4 H5 H6 H7 H8 H9 H10 H11 H12 H13 H14 H15
    refine key.mono ?_
    rintro e w' ⟨he, hb⟩
    refine ⟨?_, hb⟩
    unfold Mov.ok
    dsimp only
    generalize movOk (m.x + (m.vx - px + ax)) (m.y + (m.vy - py + ay)) (m.vx - px + ax) (m.vy - py + ay) m.sp = ok at *
    cases ok
    · exact he
    · exact he
end Go.Proofs.YtolnhicngepnnaaGreat
