/- Sorting stones by their distance: the plain law, and the comparison. -/
import Derived.Test.YtolnhicngepnnaaS6
import Derived.Deep.RegionHeld3
namespace Go.Proofs.Ytolnhicngepnnaa
open Go.RowKit

theorem Below.trans2 {w w1 w2 : World} {B : Nat} (h : Below B w w1) (hb : B ≤ w.heap.size) (h2 : Below w1.heap.size w1 w2) : Below B w w2 := h.trans (h2.mono (Nat.le_trans hb h.size))
/-- The square of a stone's distance. -/
def sqS (l : List StoneD) (k : Nat) : Int := (stAt l k).x * (stAt l k).x + (stAt l k).y * (stAt l k).y
def cmpR (l : List StoneD) (i k : Nat) : Int := if sqS l i < sqS l k then -1 else if sqS l k < sqS l i then 1 else 0
/-- Insertion sort: an element goes down while it is less. -/
def downS (lt : Nat → Nat → Bool) : Nat → List Nat → List Nat
  | 0, a => a
  | j + 1, a => if lt (a.getD (j + 1) 0) (a.getD j 0) then downS lt j (swapL a (j + 1) j) else a
def isort (lt : Nat → Nat → Bool) (a : List Nat) : Nat → List Nat
  | 0 => a
  | i + 1 => downS lt i (isort lt a i)
theorem downS_perm (lt : Nat → Nat → Bool) : ∀ (j : Nat) (a : List Nat), j < a.length → (downS lt j a).Perm a
  | 0, a, _ => List.Perm.refl _
  | j + 1, a, h => by
    unfold downS
    split
    · exact (downS_perm lt j _ (by rw [swapL_length]; omega)).trans (swapL_perm a (j + 1) j h (by omega))
    · exact List.Perm.refl _
theorem isort_perm (lt : Nat → Nat → Bool) (a : List Nat) : ∀ i, i ≤ a.length → (isort lt a i).Perm a
  | 0, _ => List.Perm.refl _
  | i + 1, h => by
    have ih := isort_perm lt a i (by omega)
    exact (downS_perm lt i _ (by rw [ih.length_eq]; omega)).trans ih
/-- The first n elements are in order by a key. -/
def SortN (key : Nat → Int) (a : List Nat) (n : Nat) : Prop := ∀ p q, p < q → q < n → key (a.getD p 0) ≤ key (a.getD q 0)
theorem downS_sort (key : Nat → Int) (lt : Nat → Nat → Bool) (hlt : ∀ x y, lt x y = true ↔ key x < key y) : ∀ (j : Nat) (a : List Nat) (n : Nat), j < n → n ≤ a.length →
    (∀ p q, p < q → q < n → q ≠ j → key (a.getD p 0) ≤ key (a.getD q 0)) → SortN key (downS lt j a) n
  | 0, a, n, _, _, h => fun p q hp hq => h p q hp hq (by omega)
  | j + 1, a, n, hj, hn, h => by
    unfold downS
    by_cases hl : lt (a.getD (j + 1) 0) (a.getD j 0) = true
    · rw [if_pos hl]
      have hk := (hlt _ _).1 hl
      refine downS_sort key lt hlt j _ n (by omega) (by rw [swapL_length]; omega) (fun p q hpq hq hqj => ?_)
      rw [swapL_get a (j + 1) j p (by omega) (by omega), swapL_get a (j + 1) j q (by omega) (by omega)]
      by_cases q1 : q = j
      · exact absurd q1 hqj
      · rw [if_neg q1]
        by_cases q2 : q = j + 1
        · rw [if_pos q2]
          by_cases p1 : p = j
          · rw [if_pos p1]; omega
          · rw [if_neg p1, if_neg (by omega)]
            exact h p j (by omega) (by omega) (by omega)
        · rw [if_neg q2]
          by_cases p1 : p = j
          · rw [if_pos p1]; exact h (j + 1) q (by omega) hq (by omega)
          · rw [if_neg p1]
            by_cases p2 : p = j + 1
            · rw [if_pos p2]; exact h j q (by omega) hq (by omega)
            · rw [if_neg p2]; exact h p q hpq hq (by omega)
    · rw [if_neg hl]
      have hk : ¬ key (a.getD (j + 1) 0) < key (a.getD j 0) := fun e => hl ((hlt _ _).2 e)
      intro p q hpq hq
      by_cases q1 : q = j + 1
      · subst q1
        by_cases p1 : p = j
        · subst p1; omega
        · have := h p j (by omega) (by omega) (by omega)
          omega
      · exact h p q hpq hq q1
theorem isort_sort (key : Nat → Int) (lt : Nat → Nat → Bool) (hlt : ∀ x y, lt x y = true ↔ key x < key y) (a : List Nat) : ∀ i, i ≤ a.length → SortN key (isort lt a i) i
  | 0, _ => fun p q _ hq => by omega
  | i + 1, h => by
    have ih := isort_sort key lt hlt a i (by omega)
    have hl := (isort_perm lt a i (by omega)).length_eq
    exact downS_sort key lt hlt i _ (i + 1) (by omega) (by omega) (fun p q hpq hq hqi => ih p q hpq (by omega))
/-- The order of stones by distance. -/
def ltS (l : List StoneD) (i k : Nat) : Bool := decide (sqS l i < sqS l k)
def nearR (l : List StoneD) : List Nat := isort (ltS l) (houseTo l l.length) (houseTo l l.length).length
theorem nearR_perm (l : List StoneD) : (nearR l).Perm (houseTo l l.length) := isort_perm _ _ _ (Nat.le_refl _)
theorem nearR_sort (l : List StoneD) : SortN (sqS l) (nearR l) (nearR l).length := by
  have h := isort_sort (sqS l) (ltS l) (fun x y => by simp [ltS]) (houseTo l l.length) _ (Nat.le_refl _)
  have e : (nearR l).length = (houseTo l l.length).length := (nearR_perm l).length_eq
  rw [e]; exact h
theorem houseTo_mem {l : List StoneD} {n k : Nat} (h : k ∈ houseTo l n) : k < n ∧ inH l k = true := by
  unfold houseTo at h
  obtain ⟨h1, h2⟩ := List.mem_filter.1 h
  exact ⟨List.mem_range.1 h1, h2⟩
theorem inH_b {l : List StoneD} {k : Nat} (h : inH l k = true) : (-500000000 ≤ (stAt l k).x ∧ (stAt l k).x ≤ 500000000) ∧ -500000000 ≤ (stAt l k).y ∧ (stAt l k).y ≤ 500000000 := by
  refine awayB_b ?_
  unfold inH zoneR at h
  cases ha : awayB (stAt l k).x (stAt l k).y with
  | false => rfl
  | true => rw [ha] at h; simp at h
set_option maxRecDepth 100000 in
set_option maxHeartbeats 2000000 in
theorem near1_any (bS : Nat) (v : Value) (l : List StoneD) (i k : Nat) (hi : i < l.length) (hk : k < l.length) (hib : inH l i = true) (hkb : inH l k = true) (w : World) (hs : SlS w v l) (hc : w.cell? ⟨bS, 0, none⟩ = some v) :
    Calls Try.prog 40 #[.int .i64 (i : Int), .int .i64 (k : Int), .pointer (some ⟨bS, 0, none⟩)] w fun e w' => e = .returned (.int .i64 (cmpR l i k)) ∧ Below w.heap.size w w' := by
  obtain ⟨a, cap, rfl, hll, hcs⟩ := hs.open
  obtain ⟨b, off, rfl, hbl, hx⟩ := hcs i hi
  have i2 := (hx i hi).2.2.1
  have i3 := (hx i hi).2.2.2
  have k2 := (hx k hk).2.2.1
  have k3 := (hx k hk).2.2.2
  have ei : l[i] = stAt l i := by simp [stAt, List.getD_eq_getElem?_getD, hi]
  have ek : l[k] = stAt l k := by simp [stAt, List.getD_eq_getElem?_getD, hk]
  rw [ei] at i2 i3
  rw [ek] at k2 k3
  have HCM := hid (show cmpR l i k = if sqS l i < sqS l k then -1 else if sqS l k < sqS l i then 1 else 0 from rfl)
  have hib' := inH_b hib
  have hkb' := inH_b hkb
  have HCM2 := hid (show sqS l i = (stAt l i).x * (stAt l i).x + (stAt l i).y * (stAt l i).y from rfl)
  have HCM3 := hid (show sqS l k = (stAt l k).x * (stAt l k).x + (stAt l k).y * (stAt l k).y from rfl)
  generalize (stAt l i).x = xi at *
  generalize (stAt l i).y = yi at *
  generalize (stAt l k).x = xk at *
  generalize (stAt l k).y = yk at *
  rw [HCM2.out, HCM3.out] at HCM
  obtain ⟨⟨bi1, bi2⟩, bi3, bi4⟩ := hib'
  obtain ⟨⟨bk1, bk2⟩, bk3, bk4⟩ := hkb'
  clear hs hcs hx ei ek hib hkb HCM2 HCM3
  have i0 : (0 : Int) ≤ (i : Int) := by omega
  have i1 : (i : Int) < (l.length : Int) := by omega
  have k0 : (0 : Int) ≤ (k : Int) := by omega
  have k1 : (k : Int) < (l.length : Int) := by omega
  have hH : Hid (w.cell? ⟨bS, 0, none⟩ = some (.slice (some ⟨b, off, none⟩) l.length cap) ∧ w.cell? ⟨b, off + i * 4 + 2, none⟩ = some (.int .i64 xi) ∧ w.cell? ⟨b, off + i * 4 + 3, none⟩ = some (.int .i64 yi) ∧ w.cell? ⟨b, off + k * 4 + 2, none⟩ = some (.int .i64 xk) ∧ w.cell? ⟨b, off + k * 4 + 3, none⟩ = some (.int .i64 yk)) := ⟨hc, i2, i3, k2, k3⟩
  have HST : Hid (∀ W, Below w.heap.size w W → W.cell? ⟨bS, 0, none⟩ = some (.slice (some ⟨b, off, none⟩) l.length cap) ∧ W.cell? ⟨b, off + i * 4 + 2, none⟩ = some (.int .i64 xi) ∧ W.cell? ⟨b, off + i * 4 + 3, none⟩ = some (.int .i64 yi) ∧ W.cell? ⟨b, off + k * 4 + 2, none⟩ = some (.int .i64 xk) ∧ W.cell? ⟨b, off + k * 4 + 3, none⟩ = some (.int .i64 yk)) :=
    fun W h => ⟨bcs h hH.out.1, bcs h hH.out.2.1, bcs h hH.out.2.2.1, bcs h hH.out.2.2.2.1, bcs h hH.out.2.2.2.2⟩
  go_enter Try.func40, Try.ntmps40
  go_upto_region 1 with fail
  go_cut [6, 7] (fun x y wx => x = .int .i64 (xi * xi + yi * yi) ∧ y = .int .i64 (xk * xk + yk * yk) ∧ Below w.heap.size w wx)
  case first =>
    go_region_held3 (fun W => W.cell? ⟨bS, 0, none⟩ = some (.slice (some ⟨b, off, none⟩) l.length cap) ∧ W.cell? ⟨b, off + i * 4 + 2, none⟩ = some (.int .i64 xi) ∧ W.cell? ⟨b, off + i * 4 + 3, none⟩ = some (.int .i64 yi) ∧ W.cell? ⟨b, off + k * 4 + 2, none⟩ = some (.int .i64 xk) ∧ W.cell? ⟨b, off + k * 4 + 3, none⟩ = some (.int .i64 yk))
      (exact HST.out _ (by repeat' (first | exact Below.refl _ _ | apply Below.drew | refine Below.trans2 ?_ (Nat.le_refl _) (by assumption))))
      ((go_at_call 28; refine (square_any _ _ (by omega) (by omega) _).mono ?_; rintro e w1 ⟨rfl, hb1⟩))
    all_goals
      go_wp2_with fail
      go_meet
      refine ⟨rfl, rfl, ?_⟩
      repeat' (first | exact Below.refl _ _ | apply Below.drew | refine Below.trans2 ?_ (Nat.le_refl _) (by assumption))
  case rest =>
    obtain ⟨rfl, rfl, hb⟩ := hcut
    obtain ⟨si, hsi⟩ : ∃ s, xi * xi + yi * yi = s := ⟨_, rfl⟩
    obtain ⟨sk, hsk⟩ : ∃ s, xk * xk + yk * yk = s := ⟨_, rfl⟩
    rw [hsi, hsk] at HCM
    rw [hsi, hsk]
    clear hsi hsk
    have HB := hid hb
    clear hb hc i2 i3 k2 k3
    by_cases h1 : si < sk
    · rw [if_pos h1] at HCM
      go_wp2_with fail
      go_ret
      exact ⟨by rw [HCM.out]; rfl, HB.out⟩
    · rw [if_neg h1] at HCM
      by_cases h2 : sk < si
      · rw [if_pos h2] at HCM
        go_wp2_with fail
        go_ret
        exact ⟨by rw [HCM.out]; rfl, HB.out⟩
      · rw [if_neg h2] at HCM
        go_wp2_with fail
        go_ret
        exact ⟨by rw [HCM.out]; rfl, HB.out⟩
end Go.Proofs.Ytolnhicngepnnaa
