/- besomtop.sheetOf. -/
import Derived.Test.YtolnhicngepnnaaGreatU9
import Derived.BigRegion
import Derived.Deep.RegionLaw
namespace Go.Proofs.YtolnhicngepnnaaGreat
open Go.RowKit Go.Maps

theorem info_part1 {P : Program} {t : TypeId} {z : Value} {s b : Nat} (h : (P.info? t).map (fun i => (i.zero, i.size, i.bytes)) = some (some z, s, b)) : ∃ i, P.info? t = some i ∧ i.zero = some z ∧ i.size = s ∧ i.bytes = b := by
  obtain ⟨i, h1, h2⟩ := Option.map_eq_some_iff.1 h
  simp only [Prod.mk.injEq] at h2
  exact ⟨i, h1, h2.1, h2.2.1, h2.2.2⟩
theorem grown_blk {wr Wa w5 : World} {r : Option Nat} (hb : Below wr.heap.size wr Wa) (hg : Wa.grownBy w5 r) {X : Nat} {o : Obj} (h : wr.heap[X]? = some o) (hne : some X ≠ r) : w5.heap[X]? = some o := by
  have hX : X < wr.heap.size := (Array.getElem?_eq_some_iff.1 h).1
  rw [hg.block X (Nat.lt_of_lt_of_le hX hb.size) hne, hb.block X hX, h]
theorem grown_own {wr Wa w5 : World} {r : Option Nat} (hb : Below wr.heap.size wr Wa) (hg : Wa.grownBy w5 r) {B sz n : Nat} {t : TypeId} {v : Value} {xs : List Value} (h : wr.ownsRow B t sz v n xs) (hne : v.ownBlock = none ∨ v.ownBlock ≠ r) : w5.ownsRow B t sz v n xs :=
  (own_below h hb).kept hg hne
/-- Where an appended row lies: in the row that there was, or in a block that is new. -/
theorem blk_set {w : World} {X j : Nat} {cs : Array Value} {t : TypeId} (v : Value) (h : w.heap[X]? = some (.cells cs t (0, 0))) : (w.setCell ⟨X, j, none⟩ v).heap[X]? = some (.cells (cs.setIfInBounds j v) t (0, 0)) :=
  heap_setCell_same w X j cs t v h
theorem own_set {w : World} {B sz n : Nat} {t : TypeId} {v : Value} {xs : List Value} (h : w.ownsRow B t sz v n xs) {X j : Nat} (u : Value) (hX : X < B) : (w.setCell ⟨X, j, none⟩ u).ownsRow B t sz v n xs :=
  ownsRow_setCell_below h (a := ⟨X, j, none⟩) hX u


/-- Two rows of the call's own, appended to one behind the other, and laid into two cells of a box. -/
theorem two_rows {wr Wa w5 Wb w6 : World} {B X k cap5 cap6 g5 g6 Bd : Nat} {Wd : World} {vc vw a b c d e : Value} {t : TypeId} {xs ys xs' ys' : List Value}
    (hbWa : Below wr.heap.size wr Wa) (hg5 : Wa.grownBy w5 vc.ownBlock) (hl5 : vc.ownBlock = some g5 ∨ g5 = Wa.heap.size) (hlt5 : g5 < w5.heap.size)
    (h5 : w5.ownsRow B 3 1 (.slice (some ⟨g5, 0, none⟩) (k + 1) cap5) (k + 1) xs')
    (hbWb : Below w5.heap.size w5 Wb) (hg6 : Wb.grownBy w6 vw.ownBlock) (hl6 : vw.ownBlock = some g6 ∨ g6 = Wb.heap.size)
    (h6 : w6.ownsRow B 3 1 (.slice (some ⟨g6, 0, none⟩) (k + 1) cap6) (k + 1) ys')
    (g0 : wr.ownsRow B 3 1 vc k xs) (g1 : wr.ownsRow B 3 1 vw k ys) (hn1 : vc.ownBlock = none ∨ vc.ownBlock ≠ vw.ownBlock)
    (hX : w6.heap[X]? = some (.cells #[a, b, c, d, e, vc, vw] t (0, 0))) (hXB : X < B) (hd : Below Bd Wd wr) (hdX : Bd ≤ X) (hdw : Bd ≤ wr.heap.size) :
    ∀ wF, (wF = (w6.setCell ⟨X, 5, none⟩ (.slice (some ⟨g5, 0, none⟩) (k + 1) cap5)).setCell ⟨X, 6, none⟩ (.slice (some ⟨g6, 0, none⟩) (k + 1) cap6) ∨
        wF = (w6.setCell ⟨X, 6, none⟩ (.slice (some ⟨g6, 0, none⟩) (k + 1) cap6)).setCell ⟨X, 5, none⟩ (.slice (some ⟨g5, 0, none⟩) (k + 1) cap5)) →
      wF.heap[X]? = some (.cells #[a, b, c, d, e, .slice (some ⟨g5, 0, none⟩) (k + 1) cap5, .slice (some ⟨g6, 0, none⟩) (k + 1) cap6] t (0, 0)) ∧
      wF.ownsRow B 3 1 (.slice (some ⟨g5, 0, none⟩) (k + 1) cap5) (k + 1) xs' ∧ wF.ownsRow B 3 1 (.slice (some ⟨g6, 0, none⟩) (k + 1) cap6) (k + 1) ys' ∧
      ((Value.slice (some ⟨g5, 0, none⟩) (k + 1) cap5).ownBlock = none ∨ (Value.slice (some ⟨g5, 0, none⟩) (k + 1) cap5).ownBlock ≠ (Value.slice (some ⟨g6, 0, none⟩) (k + 1) cap6).ownBlock) ∧
      ((Value.slice (some ⟨g6, 0, none⟩) (k + 1) cap6).ownBlock = none ∨ (Value.slice (some ⟨g6, 0, none⟩) (k + 1) cap6).ownBlock ≠ (Value.slice (some ⟨g5, 0, none⟩) (k + 1) cap5).ownBlock) ∧ Below Bd Wd wF := by
  have hsz1 := hbWa.size
  have hsz2 := hg5.size
  have hsz3 := hbWb.size
  have hne : g5 ≠ g6 := by
    intro hh
    subst hh
    rcases hl6 with hl6 | hl6
    · rcases hl5 with hl5 | hl5
      · rcases hn1 with h | h
        · rw [hl5] at h; cases h
        · exact h (by rw [hl5, hl6])
      · have := g1.lt _ hl6; omega
    · omega
  have hk5 : w6.ownsRow B 3 1 (.slice (some ⟨g5, 0, none⟩) (k + 1) cap5) (k + 1) xs' := by
    refine (own_below h5 hbWb).kept hg6 (.inr ?_)
    intro hh
    have hh' : some g5 = vw.ownBlock := hh
    rcases hl5 with hl5 | hl5
    · rcases hn1 with h | h
      · rw [hl5] at h; cases h
      · exact h (by rw [hl5, hh'])
    · have := g1.lt _ hh'.symm; omega
  have hb6 : Below Bd Wd w6 := by
    have h1 := hd.trans (hbWa.mono (by omega : Bd ≤ wr.heap.size))
    have h2 : Below Bd Wd w5 := h1.grown hg5 (by omega) (fun j hj => by have := (g0.lt j hj).1; omega)
    have h3 := h2.trans (hbWb.mono (by omega : Bd ≤ w5.heap.size))
    exact h3.grown hg6 (by omega) (fun j hj => by have := (g1.lt j hj).1; omega)
  intro wF hF
  refine ⟨?_, ?_, ?_, .inr ?_, .inr ?_, ?_⟩
  · rcases hF with rfl | rfl
    · exact blk_set _ (blk_set _ hX)
    · exact blk_set _ (blk_set _ hX)
  · rcases hF with rfl | rfl
    · exact own_set (own_set hk5 _ hXB) _ hXB
    · exact own_set (own_set hk5 _ hXB) _ hXB
  · rcases hF with rfl | rfl
    · exact own_set (own_set h6 _ hXB) _ hXB
    · exact own_set (own_set h6 _ hXB) _ hXB
  · simp [Value.ownBlock, hne]
  · simp [Value.ownBlock, Ne.symm hne]
  · rcases hF with rfl | rfl
    · exact (hb6.setCell (p := ⟨X, 5, none⟩) hdX _).setCell (p := ⟨X, 6, none⟩) hdX _
    · exact (hb6.setCell (p := ⟨X, 6, none⟩) hdX _).setCell (p := ⟨X, 5, none⟩) hdX _

theorem load31 (w : World) (b : Nat) (x0 x1 x2 x3 x4 x5 x6 : Value) (t : TypeId) (h : w.heap[b]? = some (.cells #[x0, x1, x2, x3, x4, x5, x6] t (0, 0))) : (loadVar 31 ⟨b, 0, none⟩).run Tryz.prog w = .ok (.agg #[x0, x1, x2, x3, x4, x5, x6]) w := by
  simp [go_sem, World.cell?, h]
theorem put7 {w : World} {b : Nat} {t : TypeId} {a0 a1 a2 a3 a4 a5 a6 : Value} (u0 u1 u2 u3 u4 u5 u6 : Value) (h : w.heap[b]? = some (.cells #[a0, a1, a2, a3, a4, a5, a6] t (0, 0))) :
    (((((((w.setCell ⟨b, 0, none⟩ u0).setCell ⟨b, 1, none⟩ u1).setCell ⟨b, 2, none⟩ u2).setCell ⟨b, 3, none⟩ u3).setCell ⟨b, 4, none⟩ u4).setCell ⟨b, 5, none⟩ u5).setCell ⟨b, 6, none⟩ u6).heap[b]? = some (.cells #[u0, u1, u2, u3, u4, u5, u6] t (0, 0)) := by
  have h1 := heap_setCell_same _ b 0 _ _ u0 h
  have h2 := heap_setCell_same _ b 1 _ _ u1 h1
  have h3 := heap_setCell_same _ b 2 _ _ u2 h2
  have h4 := heap_setCell_same _ b 3 _ _ u3 h3
  have h5 := heap_setCell_same _ b 4 _ _ u4 h4
  have h6 := heap_setCell_same _ b 5 _ _ u5 h5
  have h7 := heap_setCell_same _ b 6 _ _ u6 h6
  rw [h7]; simp
theorem put7_below {w w' : World} {B b : Nat} (u0 u1 u2 u3 u4 u5 u6 : Value) (h : Below B w w') (hb : B ≤ b) : Below B w (((((((w'.setCell ⟨b, 0, none⟩ u0).setCell ⟨b, 1, none⟩ u1).setCell ⟨b, 2, none⟩ u2).setCell ⟨b, 3, none⟩ u3).setCell ⟨b, 4, none⟩ u4).setCell ⟨b, 5, none⟩ u5).setCell ⟨b, 6, none⟩ u6) :=
  ((((((h.setCell (p := ⟨b, 0, none⟩) hb u0).setCell (p := ⟨b, 1, none⟩) hb u1).setCell (p := ⟨b, 2, none⟩) hb u2).setCell (p := ⟨b, 3, none⟩) hb u3).setCell (p := ⟨b, 4, none⟩) hb u4).setCell (p := ⟨b, 5, none⟩) hb u5).setCell (p := ⟨b, 6, none⟩) hb u6
theorem put7_oth {w : World} {b k : Nat} (u0 u1 u2 u3 u4 u5 u6 : Value) (h : k ≠ b) : (((((((w.setCell ⟨b, 0, none⟩ u0).setCell ⟨b, 1, none⟩ u1).setCell ⟨b, 2, none⟩ u2).setCell ⟨b, 3, none⟩ u3).setCell ⟨b, 4, none⟩ u4).setCell ⟨b, 5, none⟩ u5).setCell ⟨b, 6, none⟩ u6).heap[k]? = w.heap[k]? := by
  rw [heap_setCell_other _ ⟨b, 6, none⟩ k _ h, heap_setCell_other _ ⟨b, 5, none⟩ k _ h, heap_setCell_other _ ⟨b, 4, none⟩ k _ h, heap_setCell_other _ ⟨b, 3, none⟩ k _ h, heap_setCell_other _ ⟨b, 2, none⟩ k _ h, heap_setCell_other _ ⟨b, 1, none⟩ k _ h, heap_setCell_other _ ⟨b, 0, none⟩ k _ h]
theorem own_put7 {w : World} {B sz n b : Nat} {t : TypeId} {v : Value} {xs : List Value} (u0 u1 u2 u3 u4 u5 u6 : Value) (h : w.ownsRow B t sz v n xs) (hb : b < B) : (((((((w.setCell ⟨b, 0, none⟩ u0).setCell ⟨b, 1, none⟩ u1).setCell ⟨b, 2, none⟩ u2).setCell ⟨b, 3, none⟩ u3).setCell ⟨b, 4, none⟩ u4).setCell ⟨b, 5, none⟩ u5).setCell ⟨b, 6, none⟩ u6).ownsRow B t sz v n xs :=
  own_set (own_set (own_set (own_set (own_set (own_set (own_set h u0 hb) u1 hb) u2 hb) u3 hb) u4 hb) u5 hb) u6 hb
set_option maxRecDepth 100000 in
set_option maxHeartbeats 16000000 in
theorem sheet7_any (p q : Nat) (hp : p < 65536) (hq : q < 65536) (w : World) :
    Calls Tryz.prog 7 #[.int .u16 (p : Int), .int .u16 (q : Int)] w fun e w' => ∃ pv qv, e = .returned (iceV (-6553600000) (-6553600000) 6553600000 3 3 pv qv) ∧ SlI w' pv (List.replicate 9 ((p % 1001 : Nat) : Int)) ∧ SlI w' qv (List.replicate 9 ((q % 1001 : Nat) : Int)) ∧ Below w.heap.size w w' := by
  obtain ⟨i0, hi, hz0, hz1, hz2⟩ := info_part1 info3
  obtain ⟨W1, hW1⟩ : ∃ W1, w.alloc (.cells #[.int .i64 0, .int .i64 0, .int .i64 0, .int .i64 0, .int .i64 0, .slice none 0 0, .slice none 0 0] 31) = W1 := ⟨_, rfl⟩
  have hz1' : W1.heap.size = w.heap.size + 1 := by rw [← hW1]; simp
  have hb1 : Below w.heap.size w W1 := by rw [← hW1]; exact (Below.refl _ _).alloc (Nat.le_refl _) _
  have hY1 : W1.heap[w.heap.size]? = some (.cells #[.int .i64 0, .int .i64 0, .int .i64 0, .int .i64 0, .int .i64 0, .slice none 0 0, .slice none 0 0] 31 (0, 0)) := by rw [← hW1]; exact heap_alloc_new w _
  obtain ⟨W2, hW2⟩ : ∃ W2, W1.alloc (.cells #[.int .i64 (-6553600000), .int .i64 (-6553600000), .int .i64 6553600000, .int .i64 3, .int .i64 3, .slice none 0 0, .slice none 0 0] 31) = W2 := ⟨_, rfl⟩
  have hz2' : W2.heap.size = w.heap.size + 2 := by rw [← hW2]; simp; omega
  have hb2 : Below W1.heap.size W1 W2 := by rw [← hW2]; exact (Below.refl _ _).alloc (Nat.le_refl _) _
  have hX : W2.heap[W1.heap.size]? = some (.cells #[.int .i64 (-6553600000), .int .i64 (-6553600000), .int .i64 6553600000, .int .i64 3, .int .i64 3, .slice none 0 0, .slice none 0 0] 31 (0, 0)) := by rw [← hW2]; exact heap_alloc_new W1 _
  obtain ⟨X, hXE⟩ : ∃ X, w.heap.size + 1 = X := ⟨_, rfl⟩
  have hXE2 : W1.heap.size = X := by omega
  rw [hXE2] at hX
  have HW1 := hid hW1
  have HW2 := hid hW2
  have HB1 := hid hb1
  have HY1 := hid hY1
  have HXE := hid hXE
  have HXE2 := hid hXE2
  have hc1 : IntKind.i64.wrap (p : Int) = (p : Int) := by rw [IntKind.wrap_i64]; omega
  have hc2 : IntKind.i64.wrap (q : Int) = (q : Int) := by rw [IntKind.wrap_i64]; omega
  clear hW1 hW2 hb1 hY1
  go_enter Tryz.func7, Tryz.ntmps7
  go_upto_region 1 with fail
  rw [HW1.out]
  clear hXE hXE2
  go_upto_region 2 with fail
  rw [HW2.out, HXE.out]
  clear HW1 HW2
  have HNE := hid (show w.heap.size ≠ X by have := HXE.out; omega)
  have HBD := hid (show X + 1 = W2.heap.size by have := HXE.out; omega)
  have HB1X := hid (show Below X W1 W2 by have := HXE2.out; rw [← this]; exact hb2)
  have HXX := hid hX
  clear hb2 hX hz1' hz2'
  go_wp2_with fail
  go_loopw [8] (fun i wr => ∃ (k : Nat) (vc vw : Value), k ≤ 9 ∧ i = .int .i64 k ∧ Hid (wr.heap[X]? = some (.cells #[.int .i64 (-6553600000), .int .i64 (-6553600000), .int .i64 6553600000, .int .i64 3, .int .i64 3, vc, vw] 31 (0, 0)) ∧ wr.ownsRow W2.heap.size 3 1 vc k ((List.replicate k ((p % 1001 : Nat) : Int)).map (.int .i64)) ∧ wr.ownsRow W2.heap.size 3 1 vw k ((List.replicate k ((q % 1001 : Nat) : Int)).map (.int .i64)) ∧ (vc.ownBlock = none ∨ vc.ownBlock ≠ vw.ownBlock) ∧ (vw.ownBlock = none ∨ vw.ownBlock ≠ vc.ownBlock) ∧ Below X W1 wr)) (fun i _ => 9 - (intOf i).toNat)
  case atStart => exact ⟨0, .slice none 0 0, .slice none 0 0, by omega, rfl, hid ⟨HXX.out, World.ownsRow_nil _ _ _ _, World.ownsRow_nil _ _ _ _, .inl rfl, .inl rfl, HB1X.out⟩⟩
  case round =>
    obtain ⟨k, vc, vw, hk, rfl, HI⟩ := hrel
    obtain ⟨wo, rfl⟩ : ∃ wo, wo = wr := ⟨_, rfl⟩
    by_cases hlt : k < 9
    · obtain ⟨hXr, hownc, hownw, hne1, hne2, hbX⟩ := HI.out
      have g0 := hid hownc
      have g1 := hid hownw
      have HN1 := hid hne1
      have HN2 := hid hne2
      have GX := hid hXr
      have HBX := hid hbX
      have hBX : X < W2.heap.size := by have := HBD.out; omega
      have hW2 : W2.heap.size ≤ wo.heap.size := by have := (Array.getElem?_eq_some_iff.1 hXr).1; have := HBD.out; omega
      have hXw : X < wo.heap.size := (Array.getElem?_eq_some_iff.1 hXr).1
      have e6 := cellN (i := 5) (v := vc) hXr rfl
      have e7 := cellN (i := 6) (v := vw) hXr rfl
      have ef6 := frozN (i := 5) hXr
      have ef7 := frozN (i := 6) hXr
      have hltI : (k : Int) < 9 := by omega
      clear hXr hownc hownw hne1 hne2 hbX HI
      go_upto_region 4 with fail
      obtain ⟨C, hC⟩ : ∃ C, Int.tmod (p : Int) 1001 = C := ⟨_, rfl⟩
      obtain ⟨D, hD⟩ : ∃ D, Int.tmod (q : Int) 1001 = D := ⟨_, rfl⟩
      go_region_law (first
        | (refine step_append_lies _ rfl (.tmp 11) (.tmp 15) 29 rfl W2.heap.size 3 i0 (.int .i64 0) 1 8 Tryz.underlying29 hi hz0 hz1 hz2 rfl (by decide) vc k _ rfl (own_below g0.out (by repeat first | exact Below.refl _ _ | refine Below.drew ?_ | refine Below.alloc ?_ (by simp) _)) _ 1 1 [.int .i64 C] rfl rfl (by intro j u hj; match j, hj with | 0, hj => simp at hj; subst hj; simp [Addr.add, go_sem]) (ones _ rfl) (by decide) (by unfold maxLen; omega) (by omega) (by first | omega | (simp; omega)) _ rfl ?_; intro g5 cap5 w5 h5 hg5 hl5 hlt5; have kX := grown_blk (wr := wo) (by repeat first | exact Below.refl _ _ | refine Below.drew ?_ | refine Below.alloc ?_ (by simp) _) hg5 GX.out (own_ne g0.out hBX); have kw := grown_own (wr := wo) (by repeat first | exact Below.refl _ _ | refine Below.drew ?_ | refine Below.alloc ?_ (by simp) _) hg5 g1.out HN2.out; have kx := (Array.getElem?_eq_some_iff.1 kX).1; have k6 := cellN (i := 5) (v := vc) kX rfl; have k7 := cellN (i := 6) (v := vw) kX rfl; have KX := hid kX; clear kX; have n5 := fun (b : Nat) (v : Value) (hbb : wo.heap.size ≤ b) hv => hg5.cell (a := ⟨b, 0, none⟩) (v := v) hv (own_new g0.out hbb); have N5 := hid n5; clear n5; have hsz5 := hg5.size; simp at hsz5)
        | (have n5 := N5.out; clear N5; refine step_append_lies _ rfl (.tmp 18) (.tmp 22) 29 rfl W2.heap.size 3 i0 (.int .i64 0) 1 8 Tryz.underlying29 hi hz0 hz1 hz2 rfl (by decide) vw k _ rfl (own_below kw (by repeat first | exact Below.refl _ _ | refine Below.drew ?_ | refine Below.alloc ?_ (by simp) _)) _ 1 1 [.int .i64 D] rfl rfl (by intro j u hj; match j, hj with | 0, hj => simp at hj; subst hj; first | (show w5.cell? ⟨_, 0, none⟩ = _; refine n5 _ _ ?_ ?_ <;> simp [go_sem]) | (simp [Addr.add, go_sem])) (ones _ rfl) (by decide) (by unfold maxLen; omega) (by omega) (by first | omega | (simp; omega)) _ rfl ?_; intro g6 cap6 w6 h6 hg6 hl6 hlt6; have kX6 := grown_blk (wr := w5) (by repeat first | exact Below.refl _ _ | refine Below.drew ?_ | refine Below.alloc ?_ (by simp) _) hg6 KX.out (own_ne kw hBX); have q6 := cellN (i := 5) (v := vc) kX6 rfl; have q7 := cellN (i := 6) (v := vw) kX6 rfl; have qf6 := frozN (i := 5) kX6; have qf7 := frozN (i := 6) kX6; have KX6 := hid kX6; clear kX6; have hsz6 := hg6.size; (try simp at hsz6))
        )
      all_goals (have R := two_rows (Bd := X) (Wd := W1) (wr := wo) (by repeat first | exact Below.refl _ _ | refine Below.drew ?_ | refine Below.alloc ?_ (by simp) _) hg5 hl5 hlt5 h5 (w5 := w5) (by repeat first | exact Below.refl _ _ | refine Below.drew ?_ | refine Below.alloc ?_ (by simp) _) hg6 hl6 h6 g0.out g1.out HN1.out KX6.out hBX HBX.out (Nat.le_refl _) (by omega) _ (by first | exact .inl rfl | exact .inr rfl); have RR := hid R; clear R h5 hg5 hl5 hlt5 kw kx k6 k7 KX h6 hg6 hl6 hlt6 q6 q7 qf6 qf7 KX6 e6 e7 ef6 ef7 n5 hsz5 hsz6)
      all_goals go_wp2_with fail
      all_goals go_roundw
      all_goals first
        | (simp [intOf]; omega)
        | (obtain ⟨r1, r2, r3, r4, r5, r6⟩ := RR.out; exact ⟨k + 1, _, _, by omega, by go_num, hid ⟨r1, by rw [List.replicate_succ', List.map_append]; rw [← hC] at r2; exact r2, by rw [List.replicate_succ', List.map_append]; rw [← hD] at r3; exact r3, r4, r5, r6⟩⟩)
    · have HK := hid (show k = 9 by omega)
      obtain ⟨hXr, hownc, hownw, -, -, hbX⟩ := HI.out
      have hY : wo.heap[w.heap.size]? = some (.cells #[.int .i64 0, .int .i64 0, .int .i64 0, .int .i64 0, .int .i64 0, .slice none 0 0, .slice none 0 0] 31 (0, 0)) := (hbX.block w.heap.size (by have := HXE.out; omega)).trans HY1.out
      have HY := hid hY
      have HBW := hid (show Below w.heap.size w wo from HB1.out.trans (hbX.mono (by have := HXE.out; omega)))
      have HOWN := hid (And.intro hownc hownw)
      have HOC := hid (own_SlI hownc (by simp; omega))
      have HOW := hid (own_SlI hownw (by simp; omega))
      have x0 := cellN (i := 0) (v := .int .i64 (-6553600000)) hXr rfl
      have x1 := cellN (i := 1) (v := .int .i64 (-6553600000)) hXr rfl
      have x2 := cellN (i := 2) (v := .int .i64 6553600000) hXr rfl
      have x3 := cellN (i := 3) (v := .int .i64 3) hXr rfl
      have x4 := cellN (i := 4) (v := .int .i64 3) hXr rfl
      have x5 := cellN (i := 5) (v := vc) hXr rfl
      have x6 := cellN (i := 6) (v := vw) hXr rfl
      have y0 := cellN (i := 0) (v := .int .i64 0) hY rfl
      have y1 := cellN (i := 1) (v := .int .i64 0) hY rfl
      have y2 := cellN (i := 2) (v := .int .i64 0) hY rfl
      have y3 := cellN (i := 3) (v := .int .i64 0) hY rfl
      have y4 := cellN (i := 4) (v := .int .i64 0) hY rfl
      have y5 := cellN (i := 5) (v := .slice none 0 0) hY rfl
      have y6 := cellN (i := 6) (v := .slice none 0 0) hY rfl
      have f0 := frozN (i := 0) hY
      have f1 := frozN (i := 1) hY
      have f2 := frozN (i := 2) hY
      have f3 := frozN (i := 3) hY
      have f4 := frozN (i := 4) hY
      have f5 := frozN (i := 5) hY
      have f6 := frozN (i := 6) hY
      obtain ⟨ac, cc, rfl, -, -⟩ := HOC.out.open
      obtain ⟨aw, cw, rfl, -, -⟩ := HOW.out.open
      clear hXr hownc hownw hbX hY HI
      go_wp2_with fail
      have hp7 := put7 (.int .i64 (-6553600000)) (.int .i64 (-6553600000)) (.int .i64 6553600000) (.int .i64 3) (.int .i64 3) (.slice ac k cc) (.slice aw k cw) HY.out
      have hb7 := put7_below (b := w.heap.size) (.int .i64 (-6553600000)) (.int .i64 (-6553600000)) (.int .i64 6553600000) (.int .i64 3) (.int .i64 3) (.slice ac k cc) (.slice aw k cw) HBW.out (Nat.le_refl _)
      have hB : w.heap.size < W2.heap.size := by have := HBD.out; have := HXE.out; omega
      have ho := HOWN.out
      rw [List.length_replicate, List.length_replicate] at ho
      have h1 := own_put7 (.int .i64 (-6553600000)) (.int .i64 (-6553600000)) (.int .i64 6553600000) (.int .i64 3) (.int .i64 3) (.slice ac k cc) (.slice aw k cw) ho.1 hB
      have h2 := own_put7 (.int .i64 (-6553600000)) (.int .i64 (-6553600000)) (.int .i64 6553600000) (.int .i64 3) (.int .i64 3) (.slice ac k cc) (.slice aw k cw) ho.2 hB
      generalize (((((((wo.setCell ⟨w.heap.size, 0, none⟩ (.int .i64 (-6553600000))).setCell ⟨w.heap.size, 1, none⟩ (.int .i64 (-6553600000))).setCell ⟨w.heap.size, 2, none⟩ (.int .i64 6553600000)).setCell ⟨w.heap.size, 3, none⟩ (.int .i64 3)).setCell ⟨w.heap.size, 4, none⟩ (.int .i64 3)).setCell ⟨w.heap.size, 5, none⟩ (.slice ac k cc)).setCell ⟨w.heap.size, 6, none⟩ (.slice aw k cw)) = w9 at *
      refine bodyPost_ret (results_c1 rfl _ _ _ ⟨w.heap.size, 0, none⟩ _ rfl (load31 w9 w.heap.size _ _ _ _ _ _ _ _ hp7)) rfl ⟨.slice ac k cc, .slice aw k cw, rfl, ?_, ?_, hb7⟩
      · rw [← HK.out]; exact own_SlI h1 (by simp; omega)
      · rw [← HK.out]; exact own_SlI h2 (by simp; omega)
end Go.Proofs.YtolnhicngepnnaaGreat
