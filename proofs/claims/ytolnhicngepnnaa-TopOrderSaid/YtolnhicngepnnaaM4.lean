/- sheet.Nearest, indices; the plain law of the order. -/
import Derived.Test.YtolnhicngepnnaaM3
namespace Go.Proofs.Ytolnhicngepnnaa
open Go.RowKit

set_option maxRecDepth 100000 in
theorem sheetNearest_ok (a : Option Addr) (cap : Nat) (l : List StoneD) (w : World) (hs : SlS w (.slice a l.length cap) l) (haw : ∀ ad, a = some ad → ad.block < w.heap.size) (hcap : l.length ≤ cap) (hck : checkR l = true) :
    Calls Try.prog 5 #[.slice a l.length cap] w fun e w' => (∃ v B, e = .returned (.tuple #[v, .int .i64 0]) ∧ w.heap.size ≤ B ∧ w'.ownsRow B 3 1 v (nearR l).length (natsV (nearR l))) ∧ Below w.heap.size w w' := by
  have H1 := hid (check_any (.slice a l.length cap) l w hs (fun a' c' e => by obtain ⟨-, -, rfl⟩ := Value.slice.inj e; exact hcap))
  rw [hck] at H1
  obtain ⟨h16, hok⟩ := checkR_ok hck
  have H2 := hid (fun W (hb : Below w.heap.size w W) => nearest_any a cap l (by omega) hok W (hs.below hb) (fun ad h => Nat.lt_of_lt_of_le (haw ad h) hb.size))
  clear hs haw hck hok
  go_enter Try.func5, Try.ntmps5
  go_wp2_with fail
  refine H1.out.mono ?_
  rintro e w1 ⟨rfl, hb1⟩
  have HB1 := hid hb1
  clear hb1
  go_wp2_with fail
  refine (H2.out _ HB1.out).mono ?_
  rintro e w2 ⟨v, rfl, hown, hb2⟩
  have HO := hid hown
  have HB2 := hid (HB1.out.trans (hb2.mono HB1.out.size))
  obtain ⟨ad, c, rfl, -⟩ := own_cap hown
  clear hown hb2
  go_wp2_with fail
  go_ret2
  exact ⟨⟨_, _, rfl, by have := HB1.out.size; omega, HO.out⟩, HB2.out⟩
set_option maxRecDepth 100000 in
theorem sheetNearest_bad (v : Value) (l : List StoneD) (w : World) (hs : SlS w v l) (hcap : ∀ a cap, v = .slice a l.length cap → l.length ≤ cap) (hck : checkR l = false) :
    Calls Try.prog 5 #[v] w fun e w' => e = .returned (.tuple #[.slice none 0 0, .int .i64 2]) ∧ Below w.heap.size w w' := by
  have H1 := hid (check_any v l w hs hcap)
  rw [hck] at H1
  clear hs hcap hck
  go_enter Try.func5, Try.ntmps5
  go_wp2_with fail
  refine H1.out.mono ?_
  rintro e w1 ⟨rfl, hb1⟩
  go_wp2_with fail
  go_ret2
  exact ⟨rfl, hb1⟩
set_option maxRecDepth 100000 in
theorem indices_ok (base : Nat) (v : Value) (a : List Nat) (n : Nat) (w : World) (ha : a.length ≤ 1000) (_hn : n ≤ 1000) (hown : w.ownsRow base 3 1 v a.length (natsV a)) (hall : ∀ x ∈ a, x < n) :
    Calls Try.prog 8 #[v, .int .i64 (n : Int)] w fun e w' => e = .returned (.bool true) ∧ w' = w := by
  obtain ⟨ad, cap, rfl, hcap⟩ := own_cap hown
  have HOW := hid hown
  have HA := hid hall
  clear hown hall
  go_enter Try.func8, Try.ntmps8
  go_wp2_with fail
  go_loopw [9] (fun i wr => ∃ k : Nat, k ≤ a.length ∧ i = .int .i64 k ∧ wr = w) (fun i _ => a.length - (intOf i).toNat)
  case atStart => exact ⟨0, Nat.zero_le _, rfl, rfl⟩
  case round =>
    obtain ⟨k, hk, rfl, rfl⟩ := hrel
    by_cases hlt : k < a.length
    · have hltI : (k : Int) < (a.length : Int) := by omega
      obtain ⟨g, cap2, e, -, -⟩ := HOW.out.form (by omega)
      obtain ⟨rfl, -, rfl⟩ := Value.slice.inj e
      have hx0 : wr.cell? ⟨g, k, none⟩ = some (.int .i64 (a[k] : Nat)) := by
        rw [HOW.out.cellAt k (by omega)]
        simp [natsV, hlt]
      have hb := HA.out a[k] (List.getElem_mem _)
      generalize a[k] = x at *
      have x0 : ¬ (x : Int) < 0 := by omega
      have x1 : ¬ (n : Int) ≤ (x : Int) := by omega
      go_wp2_with fail
      exact ⟨⟨k + 1, hlt, by go_num, by first | rfl | trivial⟩, by simp only [intOf]; omega⟩
    · have hltI : ¬ (k : Int) < (a.length : Int) := by omega
      go_wp2_with fail
      go_ret
      exact ⟨rfl, by first | rfl | trivial⟩
theorem isq_mono {a b : Nat} (h : a ≤ b) : isq a ≤ isq b := by
  obtain ⟨h1, -⟩ := isq_is a
  obtain ⟨-, h4⟩ := isq_is b
  refine Nat.le_of_not_lt fun hlt => ?_
  have : (isq b + 1) * (isq b + 1) ≤ isq a * isq a := Nat.mul_le_mul hlt hlt
  omega
theorem isq_le {a m : Nat} (h : a < (m + 1) * (m + 1)) : isq a ≤ m := by
  obtain ⟨h1, -⟩ := isq_is a
  refine Nat.le_of_not_lt fun hlt => ?_
  have : (m + 1) * (m + 1) ≤ isq a * isq a := Nat.mul_le_mul hlt hlt
  omega
def sqN (x y : Int) : Nat := x.natAbs * x.natAbs + y.natAbs * y.natAbs
theorem sqN_eq (x y : Int) : (sqN x y : Int) = x * x + y * y := by
  unfold sqN
  rw [Int.natCast_add, Int.natAbs_mul_self, Int.natAbs_mul_self]
theorem sqN_b {x y : Int} (h : spotOk x y = true) : isq (sqN x y) ≤ 9999999999 ∧ (okF x && okF y) = true := by
  obtain ⟨⟨x1, x2⟩, y1, y2⟩ := spotOk_b h
  have hx : x.natAbs * x.natAbs ≤ 6553600000 * 6553600000 := Nat.mul_le_mul (by omega) (by omega)
  have hy : y.natAbs * y.natAbs ≤ 6553600000 * 6553600000 := Nat.mul_le_mul (by omega) (by omega)
  refine ⟨isq_le (by unfold sqN; omega), ?_⟩
  simp [okF]
  omega
theorem len_low {x y : Int} (h : spotOk x y = true) : valX (lenR 1 x y) = (isq (sqN x y) : Int) := by
  obtain ⟨h1, h2⟩ := sqN_b h
  unfold lenR
  rw [h2, if_pos rfl]
  show valX (signX (rootM 54 (sqN x y) (isq (sqN x y))) false) = _
  have e : rootM 54 (sqN x y) (isq (sqN x y)) = isq (sqN x y) := by
    unfold rootM roundR
    simp
  rw [e, signX, if_pos (by omega)]
  rfl
theorem len_high {x y : Int} (h : spotOk x y = true) : (isq (sqN x y) : Int) ≤ valX (lenR 2 x y) := by
  obtain ⟨h1, h2⟩ := sqN_b h
  unfold lenR
  rw [h2, if_pos rfl]
  show _ ≤ valX (signX (rootM 55 (sqN x y) (isq (sqN x y))) false)
  have e : rootM 55 (sqN x y) (isq (sqN x y)) = isq (sqN x y) ∨ rootM 55 (sqN x y) (isq (sqN x y)) = isq (sqN x y) + 1 := by
    unfold rootM
    repeat' split
    all_goals simp
  rcases e with e | e <;> (rw [e, signX, if_pos (by omega)]; simp [valX] <;> omega)
/-- The low bound of a nearer stone is not above the high bound of a farther one. -/
theorem low_high {a b : StoneD} (ha : a.ok = true) (hb : b.ok = true) (h : a.x * a.x + a.y * a.y ≤ b.x * b.x + b.y * b.y) (i k : Nat) : (rdOf i a).power ≤ (rdOf k b).start := by
  show valX (lenR 1 a.x a.y) ≤ valX (lenR 2 b.x b.y)
  rw [len_low ha]
  refine Int.le_trans ?_ (len_high hb)
  have : isq (sqN a.x a.y) ≤ isq (sqN b.x b.y) := isq_mono (by have h1 := sqN_eq a.x a.y; have h2 := sqN_eq b.x b.y; omega)
  omega
theorem near_mem {l : List StoneD} {i : Nat} (h : i < (nearR l).length) : (nearR l).getD i 0 < l.length := by
  have h1 : (nearR l).getD i 0 ∈ nearR l := by simp [List.getD_eq_getElem?_getD, h]
  exact (houseTo_mem ((nearR_perm l).mem_iff.1 h1)).1
/-- What Count answers of a valid position. -/
theorem count_plain {l : List StoneD} (h : checkR l = true) : (countR l).2.2 = 0 ∧ ((countR l).2.1 = 0 ∨ (0 < (nearR l).length ∧ (countR l).2.1 ≠ 0 ∧ (countR l).2.1 ≤ (nearR l).length ∧ (stAt l ((nearR l).getD 0 0)).team = (countR l).1)) := by
  unfold countR
  rw [if_neg (by rw [h]; simp)]
  cases hn : nearR l with
  | nil => exact ⟨rfl, .inl rfl⟩
  | cons k0 ks =>
    simp only []
    split
    · exact ⟨rfl, .inr ⟨by simp, by simp; omega, by simp, by simp⟩⟩
    · split
      · exact ⟨rfl, .inl rfl⟩
      · next h2 =>
        refine ⟨rfl, .inr ⟨by simp, by simpa using h2, ?_, by simp⟩⟩
        have h3 : ∀ s f, leadS l (k0 :: ks) s f ≤ (k0 :: ks).length := fun s f => by
          unfold leadS
          refine Nat.le_trans (List.Sublist.length_le (List.takeWhile_sublist _)) ?_
          exact List.length_take_le' ..
        have := h3 (sqS l ((k0 :: ks).getD (idxOf (fun k => decide ((stAt l k).team ≠ (stAt l k0).team)) (k0 :: ks)).toNat 0)) (idxOf (fun k => decide ((stAt l k).team ≠ (stAt l k0).team)) (k0 :: ks)).toNat
        show ((leadS _ _ _ _ : Nat) : Int) ≤ _
        omega
end Go.Proofs.Ytolnhicngepnnaa
