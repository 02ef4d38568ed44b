/- The first pair of stones that overlaps. -/
import Derived.Test.YtolnhicngepnnaaS2
namespace Go.Proofs.Ytolnhicngepnnaa
open Go.RowKit

def SlS (w : World) (v : Value) (l : List StoneD) : Prop := SlV w v l.length (l.flatMap StoneD.cells)
theorem SlS.below {w w' : World} {v : Value} {l : List StoneD} (h : SlS w v l) (hb : Below w.heap.size w w') : SlS w' v l := SlV.below h hb
theorem stone_cells_get : ∀ (l : List StoneD) (j : Nat) (h : j < l.length) (c : Nat) (_hc : c < 4), (l.flatMap StoneD.cells)[j * 4 + c]? = (l[j]).cells[c]?
  | x :: l, 0, _, c, hc => by
    simp only [List.flatMap_cons, Nat.zero_mul, Nat.zero_add, List.getElem_cons_zero]
    rw [List.getElem?_append_left (by simpa [StoneD.cells] using hc)]
  | x :: l, j + 1, h, c, hc => by
    have := stone_cells_get l j (by simpa using h) c hc
    simp only [List.flatMap_cons, List.getElem_cons_succ]
    rw [List.getElem?_append_right (by simp [StoneD.cells]; omega), ← this]
    congr 1
    simp [StoneD.cells]; omega
theorem stone_cells_len (l : List StoneD) : (l.flatMap StoneD.cells).length = l.length * 4 := by
  induction l with
  | nil => rfl
  | cons x l ih => simp [ih, StoneD.cells]; omega
theorem SlS.open {w : World} {v : Value} {l : List StoneD} (h : SlS w v l) :
    ∃ a cap, v = .slice a l.length cap ∧ l.length ≤ 140737488351232 ∧ ∀ k, k < l.length → ∃ b off, a = some ⟨b, off, none⟩ ∧ b < w.heap.size ∧
      ∀ j (h : j < l.length), w.cell? ⟨b, off + j * 4, none⟩ = some (.int .i64 l[j].team) ∧ w.cell? ⟨b, off + j * 4 + 1, none⟩ = some (.int .i64 l[j].n) ∧ w.cell? ⟨b, off + j * 4 + 2, none⟩ = some (.int .i64 l[j].x) ∧ w.cell? ⟨b, off + j * 4 + 3, none⟩ = some (.int .i64 l[j].y) := by
  obtain ⟨a, cap, rfl, hn, hc⟩ := h
  refine ⟨a, cap, rfl, hn, fun k hk => ?_⟩
  rcases hc with hc | ⟨b, off, rfl, hlt, hc⟩
  · omega
  · refine ⟨b, off, rfl, hlt, fun j hj => ?_⟩
    have key : ∀ c (hc4 : c < 4) u, (l[j]).cells[c]? = some u → w.cell? ⟨b, off + (j * 4 + c), none⟩ = some u := by
      intro c hc4 u hu
      rw [← stone_cells_get l j hj c hc4] at hu
      obtain ⟨h2, h3⟩ := List.getElem?_eq_some_iff.1 hu
      rw [hc _ h2, h3]
    exact ⟨key 0 (by omega) _ rfl, key 1 (by omega) _ rfl, key 2 (by omega) _ rfl, key 3 (by omega) _ rfl⟩
/-- What comes behind in a slice of stones. -/
theorem SlS.rest {w : World} {b off cap : Nat} {l : List StoneD} (h : SlS w (.slice (some ⟨b, off, none⟩) l.length cap) l) (i : Nat) (hi : i < l.length) (a : Option Addr) (ha : i + 1 < l.length → a = some ⟨b, off + (i + 1) * 4, none⟩) (c : Nat) :
    SlS w (.slice a (l.length - (i + 1)) c) (l.drop (i + 1)) := by
  obtain ⟨a0, cap0, e1, hn, hc⟩ := h
  obtain ⟨e3, -, -⟩ := Value.slice.inj e1
  have hlen : (l.drop (i + 1)).length = l.length - (i + 1) := by simp
  refine ⟨a, c, by rw [hlen], by omega, ?_⟩
  by_cases h0 : i + 1 < l.length
  · rcases hc with hc | ⟨b2, o2, e2, hlt, hc⟩
    · omega
    rw [← e3] at e2
    injection e2 with e2
    injection e2 with e4 e5
    subst e4 e5
    refine .inr ⟨b, off + (i + 1) * 4, ha h0, hlt, fun j hj => ?_⟩
    have hdrop : ∀ (l : List StoneD) (i : Nat), (l.drop i).flatMap StoneD.cells = (l.flatMap StoneD.cells).drop (i * 4) := by
      intro l
      induction l with
      | nil => intro i; simp
      | cons x l ih =>
        intro i
        cases i with
        | zero => simp
        | succ i =>
          rw [List.drop_succ_cons, ih, List.flatMap_cons, Nat.succ_mul]
          rfl
    have hj2 := hj
    simp only [hdrop] at hj2 ⊢
    rw [List.length_drop] at hj2
    have hx := hc ((i + 1) * 4 + j) (by omega)
    rw [Nat.add_assoc, hx]
    simp
  · exact .inl (by omega)

set_option maxHeartbeats 400000 in
/-- The function that pair hands to IndexFunc. -/
theorem pair1_any (a b : StoneD) (pf pa : Nat) (w : World) (hf : w.cell? ⟨pf, 0, none⟩ = some (.func (.func 46) #[] #[])) (ha : w.heap[pa]? = some (.cells a.cells.toArray 49 (0, 0))) :
    Calls Try.prog 70 #[b.agg, .pointer (some ⟨pf, 0, none⟩), .pointer (some ⟨pa, 0, none⟩)] w fun e w' => e = .returned (.bool (ovl a b)) ∧ Below w.heap.size w w' := by
  have H := hid (fun W => overlap1_any a b W)
  generalize ovl a b = r at *
  obtain ⟨ta, na, xa, ya⟩ := a
  obtain ⟨tb, nb, xb, yb⟩ := b
  have a0 : w.cell? ⟨pa, 0, none⟩ = some (.int .i64 ta) := by simp [World.cell?, ha, StoneD.cells]
  have a1 : w.cell? ⟨pa, 1, none⟩ = some (.int .i64 na) := by simp [World.cell?, ha, StoneD.cells]
  have a2 : w.cell? ⟨pa, 2, none⟩ = some (.int .i64 xa) := by simp [World.cell?, ha, StoneD.cells]
  have a3 : w.cell? ⟨pa, 3, none⟩ = some (.int .i64 ya) := by simp [World.cell?, ha, StoneD.cells]
  have hpa := World.block_lt_of_cell? w ⟨pa, 0, none⟩ a0
  have hpf := World.block_lt_of_cell? w ⟨pf, 0, none⟩ hf
  have hb0 : Below w.heap.size w (w.alloc (.cells #[.int .i64 tb, .int .i64 nb, .int .i64 xb, .int .i64 yb] 49)) := (Below.refl _ w).alloc (Nat.le_refl _) _
  have f0 := bcs hb0 hf
  have b0 := bcs hb0 a0
  have b1 := bcs hb0 a1
  have b2 := bcs hb0 a2
  have b3 := bcs hb0 a3
  have d0 := cell_new' w #[.int .i64 tb, .int .i64 nb, .int .i64 xb, .int .i64 yb] 49 0 _ rfl
  have d1 := cell_new' w #[.int .i64 tb, .int .i64 nb, .int .i64 xb, .int .i64 yb] 49 1 _ rfl
  have d2 := cell_new' w #[.int .i64 tb, .int .i64 nb, .int .i64 xb, .int .i64 yb] 49 2 _ rfl
  have d3 := cell_new' w #[.int .i64 tb, .int .i64 nb, .int .i64 xb, .int .i64 yb] 49 3 _ rfl
  clear a0 a1 a2 a3 hf ha hpa hpf
  go_enter Try.func70, Try.ntmps70
  go_upto_region 1 with fail
  generalize w.alloc (.cells #[.int .i64 tb, .int .i64 nb, .int .i64 xb, .int .i64 yb] 49) = W at *
  have HB := hid hb0
  clear hb0
  go_wp2_with fail
  refine (H.out _).mono ?_
  rintro e w1 ⟨rfl, hb1⟩
  have HB1 := hid (HB.out.trans (hb1.mono HB.out.size))
  clear hb1 f0 b0 b1 b2 b3 d0 d1 d2 d3
  go_wp2_with fail
  go_ret
  exact ⟨rfl, HB1.out⟩
set_option maxHeartbeats 1000000 in
/-- slices.IndexFunc over stones. -/
theorem index_stone (p : StoneD → Bool) (c1 c2 : Value) (v : Value) (l : List StoneD) (w : World) (hs : SlS w v l)
    (hf : ∀ x ∈ l, ∀ w1, Below w.heap.size w w1 → Calls Try.prog 70 #[x.agg, c1, c2] w1 fun e w2 => e = .returned (.bool (p x)) ∧ Below w1.heap.size w1 w2) :
    Calls Try.prog 69 #[v, .func (.func 70) #[] #[c1, c2]] w fun e w' => e = .returned (.int .i64 (idxOf p l)) ∧ Below w.heap.size w w' := by
  obtain ⟨a, cap, rfl, hl, hc⟩ := hs.open
  clear hs
  have HF := hid hf
  have HC := hid hc
  clear hf hc
  go_enter Try.func69, Try.ntmps69
  go_wp2
  go_loopw [8] (fun i wr => ∃ k : Nat, k ≤ l.length ∧ i = .int .i64 k ∧ Below w.heap.size w wr ∧ ∀ j (h : j < l.length), j < k → p l[j] = false) (fun i _ => l.length - (intOf i).toNat)
  case atStart => exact ⟨0, Nat.zero_le _, rfl, Below.refl _ _, by omega⟩
  case round =>
    obtain ⟨k, hk, rfl, hb, hno⟩ := hrel
    have HN := hid hno
    clear hno
    by_cases hlt : k < l.length
    · obtain ⟨b, off, rfl, hbl, hc⟩ := HC.out k hlt
      have hx0 := (hb.cell (p := ⟨b, off + k * 4, none⟩) hbl).trans (hc k hlt).1
      have hx1 := (hb.cell (p := ⟨b, off + k * 4 + 1, none⟩) hbl).trans (hc k hlt).2.1
      have hx2 := (hb.cell (p := ⟨b, off + k * 4 + 2, none⟩) hbl).trans (hc k hlt).2.2.1
      have hx3 := (hb.cell (p := ⟨b, off + k * 4 + 3, none⟩) hbl).trans (hc k hlt).2.2.2
      have hcall := hid (HF.out l[k] (List.getElem_mem _) wr hb)
      clear hc HC
      generalize hxe : l[k] = x at *
      have HX := hid hxe
      clear hxe
      go_wp2_with fail
      refine hcall.out.mono ?_
      rintro e w' ⟨rfl, hb2⟩
      clear hcall
      by_cases hp : p x = true
      · go_wp2
        go_ret
        exact ⟨ret_int (idxOf_hit p l k hlt HN.out (by rw [HX.out]; exact hp)).symm, hb.trans (hb2.mono hb.size)⟩
      · have hp' : p x = false := by simpa using hp
        go_wp2
        go_roundw
        case rel =>
          refine ⟨k + 1, by omega, by go_num, hb.trans (hb2.mono hb.size), ?_⟩
          intro j hj hjk
          by_cases e : j = k
          · subst e; rw [HX.out]; exact hp'
          · exact HN.out j hj (by omega)
        case measure => simp [intOf]; omega
    · go_wp2
      go_ret
      have hkl : k = l.length := by omega
      exact ⟨ret_int (idxOf_none p l (fun j hj => HN.out j hj (by omega))).symm, hb⟩
end Go.Proofs.Ytolnhicngepnnaa
