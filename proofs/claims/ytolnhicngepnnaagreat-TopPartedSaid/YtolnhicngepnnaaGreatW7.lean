/- fixed: bits3, below, share. -/
import Derived.Test.YtolnhicngepnnaaGreatW6
namespace Go.Proofs.YtolnhicngepnnaaGreat
open Go.RowKit

theorem carry {W W' : World} {b : Nat} {o : Obj} (h : W.heap[b]? = some o) (hb : Below W.heap.size W W') : W'.heap[b]? = some o := (hb.block b (Array.getElem?_eq_some_iff.1 h).1).trans h
theorem nameWx {B : Nat} {w w' : World} (_h : Below B w w') : ∃ x, x = w' := ⟨_, rfl⟩
theorem put2_oth {w : World} {b k : Nat} (u v : Value) (h : k ≠ b) : ((w.setCell ⟨b, 0, none⟩ u).setCell ⟨b, 1, none⟩ v).heap[k]? = w.heap[k]? := by
  rw [heap_setCell_other _ ⟨b, 1, none⟩ k _ h, heap_setCell_other _ ⟨b, 0, none⟩ k _ h]
theorem put2_below {w w' : World} {B b : Nat} (u v : Value) (h : Below B w w') (hb : B ≤ b) : Below B w ((w'.setCell ⟨b, 0, none⟩ u).setCell ⟨b, 1, none⟩ v) := (h.setCell (p := ⟨b, 0, none⟩) hb u).setCell (p := ⟨b, 1, none⟩) hb v
set_option maxRecDepth 100000 in
set_option maxHeartbeats 8000000 in
theorem bits3_core (a bh bl x1 x0 y1 y0 z1 z0 : Int) (w : World) (h0 : ∀ W, Calls Tryz.prog 60 #[.int .u64 a, .int .u64 bl] W fun e W' => e = .returned (.agg #[.int .u64 x1, .int .u64 x0]) ∧ Below W.heap.size W W')
    (h1 : ∀ W, Calls Tryz.prog 60 #[.int .u64 a, .int .u64 bh] W fun e W' => e = .returned (.agg #[.int .u64 y1, .int .u64 y0]) ∧ Below W.heap.size W W')
    (hp : ∀ W, Calls Tryz.prog 148 #[.agg #[.int .u64 y1, .int .u64 y0], .agg #[.int .u64 0, .int .u64 x1]] W fun e W' => e = .returned (.agg #[.int .u64 z1, .int .u64 z0]) ∧ Below W.heap.size W W') :
    Calls Tryz.prog 207 #[.int .u64 a, .agg #[.int .u64 bh, .int .u64 bl]] w fun e w' => e = .returned (.tuple #[.agg #[.int .u64 z1, .int .u64 z0], .int .u64 x0]) ∧ Below w.heap.size w w' := by
  have HP0 := hid h0
  have HP1 := hid h1
  have HPL := hid hp
  clear h0 h1 hp
  obtain ⟨W1, hW1⟩ : ∃ W1, (w.alloc (.cells #[.int .u64 bh, .int .u64 bl] 149)).alloc (.cells #[.int .u64 0, .int .u64 0] 149) = W1 := ⟨_, rfl⟩
  have hz : W1.heap.size = w.heap.size + 2 := by rw [← hW1]; simp
  have HB := hid (show Below w.heap.size w W1 by rw [← hW1]; exact ((Below.refl _ w).alloc (Nat.le_refl _) _).alloc (by simp) _)
  have p0 : W1.heap[w.heap.size]? = some (.cells #[.int .u64 bh, .int .u64 bl] 149 (0, 0)) := by
    rw [← hW1, Below.heap_alloc _ _ _ (by simp)]; exact heap_alloc_new w _
  have p1 : W1.heap[w.heap.size + 1]? = some (.cells #[.int .u64 0, .int .u64 0] 149 (0, 0)) := by
    rw [← hW1]
    simpa using heap_alloc_new (w.alloc (.cells #[.int .u64 bh, .int .u64 bl] 149)) (.cells #[.int .u64 0, .int .u64 0] 149)
  have HP := hid p1
  have HQ := hid (show ∀ W, Below W1.heap.size W1 W → W.cell? ⟨w.heap.size, 0, none⟩ = some (.int .u64 bh) ∧ W.cell? ⟨w.heap.size, 1, none⟩ = some (.int .u64 bl) from fun W h => by
    obtain ⟨g0, g1, -, -⟩ := cells2 (carry p0 h)
    exact ⟨g0, g1⟩)
  have HW := hid hW1
  clear hW1 p0 p1
  go_enter Tryz.func207, Tryz.ntmps207
  go_upto_region 1 with fail
  rw [HW.out]
  clear HW
  go_cut [6, 7] (fun a6 a7 wx => ∃ B6 B7, a6 = .pointer (some ⟨B6, 0, none⟩) ∧ a7 = .pointer (some ⟨B7, 0, none⟩) ∧ wx.heap[B6]? = some (.cells #[.int .u64 x1, .int .u64 x0] 149 (0, 0)) ∧ wx.heap[B7]? = some (.cells #[.int .u64 y1, .int .u64 y0] 149 (0, 0)) ∧ W1.heap.size ≤ B6 ∧ W1.heap.size ≤ B7 ∧ Below W1.heap.size W1 wx)
  case rest =>
    obtain ⟨B6, B7, rfl, rfl, k6, k7, hg6, hg7, hb3⟩ := hcut
    obtain ⟨wx, rfl⟩ := nameWx hb3
    have HS := hid (show ∀ W, Below wx.heap.size wx W → (W.heap[B6]? = some (.cells #[.int .u64 x1, .int .u64 x0] 149 (0, 0)) ∧ W.heap[B7]? = some (.cells #[.int .u64 y1, .int .u64 y0] 149 (0, 0))) ∧ ∃ u v, W.heap[w.heap.size + 1]? = some (.cells #[u, v] 149 (0, 0)) from fun W h => ⟨⟨carry k6 h, carry k7 h⟩, _, _, carry (carry HP.out hb3) h⟩)
    have HB3 := hid (HB.out.trans (hb3.mono HB.out.size))
    have HT := hid (show ∀ (U : World) (u v : Value), ((U.heap[B6]? = some (.cells #[.int .u64 x1, .int .u64 x0] 149 (0, 0)) ∧ U.heap[B7]? = some (.cells #[.int .u64 y1, .int .u64 y0] 149 (0, 0))) ∧ ∃ u v, U.heap[w.heap.size + 1]? = some (.cells #[u, v] 149 (0, 0))) → ((((U.setCell ⟨w.heap.size + 1, 0, none⟩ u).setCell ⟨w.heap.size + 1, 1, none⟩ v).heap[B6]? = some (.cells #[.int .u64 x1, .int .u64 x0] 149 (0, 0)) ∧ ((U.setCell ⟨w.heap.size + 1, 0, none⟩ u).setCell ⟨w.heap.size + 1, 1, none⟩ v).heap[B7]? = some (.cells #[.int .u64 y1, .int .u64 y0] 149 (0, 0))) ∧ ∃ u' v', ((U.setCell ⟨w.heap.size + 1, 0, none⟩ u).setCell ⟨w.heap.size + 1, 1, none⟩ v).heap[w.heap.size + 1]? = some (.cells #[u', v'] 149 (0, 0))) from fun U u v ⟨⟨g0, g1⟩, _, _, g5⟩ => ⟨⟨(put2_oth u v (by omega)).trans g0, (put2_oth u v (by omega)).trans g1⟩, _, _, put2_same u v g5⟩)
    clear k6 k7 hb3 hg6 hg7
    go_upto_region 2 with fail
    refine wp_region_held_drew (S := (fun W => (W.heap[B6]? = some (.cells #[.int .u64 x1, .int .u64 x0] 149 (0, 0)) ∧ W.heap[B7]? = some (.cells #[.int .u64 y1, .int .u64 y0] 149 (0, 0))) ∧ ∃ u v, W.heap[w.heap.size + 1]? = some (.cells #[u, v] 149 (0, 0)))) (by kernel_rfl) (HS.out _ (Below.refl _ _).drew) (fun hH => ?_)
    refine wpAnyH_take (i := 0) (oi := { dst := some 16, op := Go.Op.load 149 (Go.Operand.tmp 7), type := 149, pos := "fixed.go:280", after := #[], guard := none }) (v := (.agg #[.int .u64 y1, .int .u64 y0])) rfl (by kernel_rfl) (by kernel_rfl) (by kernel_rfl) (fun _ _ _ h => h) (Or.inl ⟨by rfl, ?_⟩) hH ?_
    · intro w hSw
      (try dsimp only at hSw)
      obtain ⟨⟨hx, hy⟩, -⟩ := hSw
      obtain ⟨k0, k1, k2, k3⟩ := cells2 hx
      obtain ⟨k4, k5, k6, k7⟩ := cells2 hy
      go_simp
    (try simp only [Act.put, List.setIfInBounds_toArray, List.set_cons_zero, List.set_cons_succ])
    refine wpAnyH_take (i := 1) (oi := { dst := some 17, op := Go.Op.fieldAddr 149 (Go.Operand.tmp 6) 0, type := 0, pos := "fixed.go:280", after := #[], guard := none }) (v := (.pointer (some ⟨B6, 0, none⟩))) rfl (by kernel_rfl) (by kernel_rfl) (by kernel_rfl) (fun _ _ _ h => h) (Or.inl ⟨by rfl, ?_⟩) hH ?_
    · intro w hSw
      (try dsimp only at hSw)
      obtain ⟨⟨hx, hy⟩, -⟩ := hSw
      obtain ⟨k0, k1, k2, k3⟩ := cells2 hx
      obtain ⟨k4, k5, k6, k7⟩ := cells2 hy
      go_simp
    (try simp only [Act.put, List.setIfInBounds_toArray, List.set_cons_zero, List.set_cons_succ])
    refine wpAnyH_take (i := 2) (oi := { dst := some 18, op := Go.Op.load 147 (Go.Operand.tmp 17), type := 147, pos := "fixed.go:280", after := #[{ on := 1, ground := Go.Ground.data }], guard := none }) (v := (.int .u64 x1)) rfl (by kernel_rfl) (by kernel_rfl) (by kernel_rfl) (fun _ _ _ h => h) (Or.inl ⟨by rfl, ?_⟩) hH ?_
    · intro w hSw
      (try dsimp only at hSw)
      obtain ⟨⟨hx, hy⟩, -⟩ := hSw
      obtain ⟨k0, k1, k2, k3⟩ := cells2 hx
      obtain ⟨k4, k5, k6, k7⟩ := cells2 hy
      go_simp
    (try simp only [Act.put, List.setIfInBounds_toArray, List.set_cons_zero, List.set_cons_succ])
    refine wpAnyH_take (i := 3) (oi := { dst := some 19, op := Go.Op.build 149 #[(1, Go.Operand.tmp 18)], type := 149, pos := "fixed.go:280", after := #[{ on := 2, ground := Go.Ground.data }], guard := none }) (v := (.agg #[.int .u64 0, .int .u64 x1])) rfl (by kernel_rfl) (by kernel_rfl) (by kernel_rfl) (fun _ _ _ h => h) (Or.inl ⟨by rfl, ?_⟩) hH ?_
    · intro w hSw
      (try dsimp only at hSw)
      obtain ⟨⟨hx, hy⟩, -⟩ := hSw
      obtain ⟨k0, k1, k2, k3⟩ := cells2 hx
      obtain ⟨k4, k5, k6, k7⟩ := cells2 hy
      go_simp
    (try simp only [Act.put, List.setIfInBounds_toArray, List.set_cons_zero, List.set_cons_succ])
    refine wpAnyH_take (i := 5) (oi := { dst := some 21, op := Go.Op.fieldAddr 149 (Go.Operand.tmp 6) 1, type := 0, pos := "fixed.go:280", after := #[{ on := 7, ground := Go.Ground.gcOnly Go.Departure.lateStores }], guard := none }) (v := (.pointer (some ⟨B6, 1, none⟩))) rfl (by kernel_rfl) (by kernel_rfl) (by kernel_rfl) (fun _ _ _ h => h) (Or.inl ⟨by rfl, ?_⟩) hH ?_
    · intro w hSw
      (try dsimp only at hSw)
      obtain ⟨⟨hx, hy⟩, -⟩ := hSw
      obtain ⟨k0, k1, k2, k3⟩ := cells2 hx
      obtain ⟨k4, k5, k6, k7⟩ := cells2 hy
      go_simp
    (try simp only [Act.put, List.setIfInBounds_toArray, List.set_cons_zero, List.set_cons_succ])
    refine wpAnyH_take (i := 6) (oi := { dst := some 22, op := Go.Op.load 147 (Go.Operand.tmp 21), type := 147, pos := "fixed.go:280", after := #[{ on := 5, ground := Go.Ground.data }, { on := 7, ground := Go.Ground.gcOnly Go.Departure.lateStores }], guard := none }) (v := (.int .u64 x0)) rfl (by kernel_rfl) (by kernel_rfl) (by kernel_rfl) (fun _ _ _ h => h) (Or.inl ⟨by rfl, ?_⟩) hH ?_
    · intro w hSw
      (try dsimp only at hSw)
      obtain ⟨⟨hx, hy⟩, -⟩ := hSw
      obtain ⟨k0, k1, k2, k3⟩ := cells2 hx
      obtain ⟨k4, k5, k6, k7⟩ := cells2 hy
      go_simp
    (try simp only [Act.put, List.setIfInBounds_toArray, List.set_cons_zero, List.set_cons_succ])
    refine wpAnyH_ready (rs := [4]) (by kernel_rfl) (by simp) ?_
    refine AllReadyH.cons rfl (fun K hK => ?_) AllReadyH.nil
    (try dsimp only at hH)
    go_simp
    refine (HPL.out _).mono ?_
    rintro e w4 ⟨rfl, hb4⟩
    refine hK.out _ _ (HS.out _ (btrans (Below.refl _ _).drew (Nat.le_refl _) hb4)) (fun hH1 => ?_)
    clear hK K
    (try simp only [Act.put, List.setIfInBounds_toArray, List.set_cons_zero, List.set_cons_succ])
    refine wpAnyH_ready (rs := [7]) (by kernel_rfl) (by simp) ?_
    refine AllReadyH.cons rfl (fun K hK => ?_) AllReadyH.nil
    (try dsimp only at hH1)
    obtain ⟨-, u, v, hS3⟩ := hH1
    obtain ⟨h4, h5, h6, h7⟩ := cells2 hS3
    go_simp
    refine hK.out _ _ (HT.out _ _ _ (HS.out _ (btrans (Below.refl _ _).drew (Nat.le_refl _) hb4))) (fun hH2 => ?_)
    clear hK K
    (try simp only [Act.put, List.setIfInBounds_toArray, List.set_cons_zero, List.set_cons_succ])
    refine wpAnyH_take (i := 8) (oi := { dst := some 5, op := Go.Op.assign (Go.Operand.tmp 22), type := 147, pos := "fixed.go:280", after := #[{ on := 6, ground := Go.Ground.data }, { on := 7, ground := Go.Ground.chain }, { on := 0, ground := Go.Ground.phase }, { on := 1, ground := Go.Ground.phase }, { on := 2, ground := Go.Ground.phase }, { on := 3, ground := Go.Ground.phase }, { on := 4, ground := Go.Ground.phase }, { on := 5, ground := Go.Ground.phase }, { on := 6, ground := Go.Ground.phase }, { on := 7, ground := Go.Ground.phase }], guard := none }) (v := (.int .u64 x0)) rfl (by kernel_rfl) (by kernel_rfl) (by kernel_rfl) (fun _ _ _ h => h) (Or.inl ⟨by rfl, ?_⟩) hH2 ?_
    · intro w hSw
      (try dsimp only at hSw)
      obtain ⟨⟨hx, hy⟩, -⟩ := hSw
      obtain ⟨k0, k1, k2, k3⟩ := cells2 hx
      obtain ⟨k4, k5, k6, k7⟩ := cells2 hy
      go_simp
    (try simp only [Act.put, List.setIfInBounds_toArray, List.set_cons_zero, List.set_cons_succ])
    refine wpAnyH_done (by kernel_rfl) ?_ _
    go_wp2_with fail
    have hp := put2_same (.int .u64 z1) (.int .u64 z0) hS3
    have hb9 := put2_below (.int .u64 z1) (.int .u64 z0) (HB3.out.trans ((btrans (Below.refl _ _).drew (Nat.le_refl _) hb4).mono HB3.out.size)) (B := w.heap.size) (b := w.heap.size + 1) (by simp)
    generalize (w4.setCell ⟨w.heap.size + 1, 0, none⟩ (.int .u64 z1)).setCell ⟨w.heap.size + 1, 1, none⟩ (.int .u64 z0) = W9 at *
    refine bodyPost_ret (results_w2 rfl _ _ _ ⟨w.heap.size + 1, 0, none⟩ _ rfl (load85 W9 (w.heap.size + 1) (.int .u64 z1) (.int .u64 z0) (by simp [World.cell?, hp]) (by simp [World.cell?, hp]))) rfl ⟨rfl, hb9⟩
  case first =>
    refine wp_region_held_drew (S := (fun W => W.cell? ⟨w.heap.size, 0, none⟩ = some (.int .u64 bh) ∧ W.cell? ⟨w.heap.size, 1, none⟩ = some (.int .u64 bl))) (by kernel_rfl) (HQ.out _ (Below.refl _ _).drew) (fun hH => ?_)
    obtain ⟨v0, hv0⟩ : ∃ v0, v0 = W1.drew := ⟨_, rfl⟩
    have hB : Below W1.heap.size W1 W1.drew := (Below.refl _ _).drew
    have hBs : W1.heap.size ≤ W1.drew.heap.size := Nat.le_refl _
    rw [← hv0] at hB hBs hH ⊢
    clear hv0
    refine wpAnyH_take (i := 0) (oi := { dst := some 8, op := Go.Op.move (Go.Operand.tmp 0), type := 147, pos := "fixed.go:279", after := #[], guard := none }) (v := (.int .u64 a)) rfl (by kernel_rfl) (by kernel_rfl) (by kernel_rfl) (fun _ _ _ h => h) (Or.inl ⟨by rfl, ?_⟩) hH ?_
    · intro w hSw
      (try dsimp only at hSw)
      go_simp
    (try simp only [Act.put, List.setIfInBounds_toArray, List.set_cons_zero, List.set_cons_succ])
    refine wpAnyH_take (i := 1) (oi := { dst := some 9, op := Go.Op.fieldAddr 149 (Go.Operand.tmp 3) 1, type := 0, pos := "fixed.go:279", after := #[], guard := none }) (v := (.pointer (some ⟨w.heap.size, 1, none⟩))) rfl (by kernel_rfl) (by kernel_rfl) (by kernel_rfl) (fun _ _ _ h => h) (Or.inl ⟨by rfl, ?_⟩) hH ?_
    · intro w hSw
      (try dsimp only at hSw)
      go_simp
    (try simp only [Act.put, List.setIfInBounds_toArray, List.set_cons_zero, List.set_cons_succ])
    refine wpAnyH_take (i := 2) (oi := { dst := some 10, op := Go.Op.load 147 (Go.Operand.tmp 9), type := 147, pos := "fixed.go:279", after := #[{ on := 1, ground := Go.Ground.data }], guard := none }) (v := (.int .u64 bl)) rfl (by kernel_rfl) (by kernel_rfl) (by kernel_rfl) (fun _ _ _ h => h) (Or.inl ⟨by rfl, ?_⟩) hH ?_
    · intro w hSw
      (try dsimp only at hSw)
      go_simp
    (try simp only [Act.put, List.setIfInBounds_toArray, List.set_cons_zero, List.set_cons_succ])
    refine wpAnyH_take (i := 4) (oi := { dst := some 12, op := Go.Op.move (Go.Operand.tmp 0), type := 147, pos := "fixed.go:279", after := #[], guard := none }) (v := (.int .u64 a)) rfl (by kernel_rfl) (by kernel_rfl) (by kernel_rfl) (fun _ _ _ h => h) (Or.inl ⟨by rfl, ?_⟩) hH ?_
    · intro w hSw
      (try dsimp only at hSw)
      go_simp
    (try simp only [Act.put, List.setIfInBounds_toArray, List.set_cons_zero, List.set_cons_succ])
    refine wpAnyH_take (i := 5) (oi := { dst := some 13, op := Go.Op.fieldAddr 149 (Go.Operand.tmp 3) 0, type := 0, pos := "fixed.go:279", after := #[], guard := none }) (v := (.pointer (some ⟨w.heap.size, 0, none⟩))) rfl (by kernel_rfl) (by kernel_rfl) (by kernel_rfl) (fun _ _ _ h => h) (Or.inl ⟨by rfl, ?_⟩) hH ?_
    · intro w hSw
      (try dsimp only at hSw)
      go_simp
    (try simp only [Act.put, List.setIfInBounds_toArray, List.set_cons_zero, List.set_cons_succ])
    refine wpAnyH_take (i := 6) (oi := { dst := some 14, op := Go.Op.load 147 (Go.Operand.tmp 13), type := 147, pos := "fixed.go:279", after := #[{ on := 5, ground := Go.Ground.data }], guard := none }) (v := (.int .u64 bh)) rfl (by kernel_rfl) (by kernel_rfl) (by kernel_rfl) (fun _ _ _ h => h) (Or.inl ⟨by rfl, ?_⟩) hH ?_
    · intro w hSw
      (try dsimp only at hSw)
      go_simp
    (try simp only [Act.put, List.setIfInBounds_toArray, List.set_cons_zero, List.set_cons_succ])
    refine wpAnyH_ready (rs := [3, 8, 9]) (by kernel_rfl) (by simp) ?_
    refine AllReadyH.cons rfl (fun K hK => ?_) (AllReadyH.cons rfl (fun K hK => ?_) (AllReadyH.cons rfl (fun K hK => ?_) AllReadyH.nil))
    · skip
      (try dsimp only at hH)
      go_simp
      refine (HP0.out _).mono ?_
      rintro e v1 ⟨rfl, hb1⟩
      refine hK.out _ _ (HQ.out _ (btrans hB (Nat.le_refl _) hb1)) (fun hH1 => ?_)
      clear hK K
      have hB := btrans hB (Nat.le_refl _) hb1
      have hz1 := hb1.size
      have hBs := hB.size
      (try simp only [Act.put, List.setIfInBounds_toArray, List.set_cons_zero, List.set_cons_succ])
      refine wpAnyH_ready (rs := [7, 8, 9]) (by kernel_rfl) (by simp) ?_
      refine AllReadyH.cons rfl (fun K hK => ?_) (AllReadyH.cons rfl (fun K hK => ?_) (AllReadyH.cons rfl (fun K hK => ?_) AllReadyH.nil))
      · skip
        (try dsimp only at hH1)
        go_simp
        refine (HP1.out _).mono ?_
        rintro e v2 ⟨rfl, hb2⟩
        refine hK.out _ _ (HQ.out _ (btrans hB (Nat.le_refl _) hb2)) (fun hH2 => ?_)
        clear hK K
        have hB := btrans hB (Nat.le_refl _) hb2
        have hz2 := hb2.size
        have hBs := hB.size
        (try simp only [Act.put, List.setIfInBounds_toArray, List.set_cons_zero, List.set_cons_succ])
        refine wpAnyH_ready (rs := [8, 9]) (by kernel_rfl) (by simp) ?_
        refine AllReadyH.cons rfl (fun K hK => ?_) (AllReadyH.cons rfl (fun K hK => ?_) AllReadyH.nil)
        · skip
          (try dsimp only at hH2)
          go_simp
          refine hK.out _ _ (HQ.out _ (hB.alloc hBs (.cells #[.int .u64 0, .int .u64 0] 149))) (fun hH3 => ?_)
          clear hK K
          have ha8 := heap_alloc_new v2 (.cells #[.int .u64 0, .int .u64 0] 149)
          have hb3 : Below v2.heap.size v2 (v2.alloc (.cells #[.int .u64 0, .int .u64 0] 149)) := (Below.refl _ _).alloc (Nat.le_refl _) (.cells #[.int .u64 0, .int .u64 0] 149)
          have hl8 : v2.heap.size < (v2.alloc (.cells #[.int .u64 0, .int .u64 0] 149)).heap.size := by simp
          generalize v2.alloc (.cells #[.int .u64 0, .int .u64 0] 149) = v3 at *
          have hB := btrans hB (Nat.le_refl _) hb3
          have hz3 := hb3.size
          have hBs := hB.size
          (try simp only [Act.put, List.setIfInBounds_toArray, List.set_cons_zero, List.set_cons_succ])
          refine wpAnyH_ready (rs := [9]) (by kernel_rfl) (by simp) ?_
          refine AllReadyH.cons rfl (fun K hK => ?_) AllReadyH.nil
          (try dsimp only at hH3)
          go_simp
          refine hK.out _ _ (HQ.out _ (hB.alloc hBs (.cells #[.int .u64 0, .int .u64 0] 149))) (fun hH4 => ?_)
          clear hK K
          have ha9 := heap_alloc_new v3 (.cells #[.int .u64 0, .int .u64 0] 149)
          have hb4 : Below v3.heap.size v3 (v3.alloc (.cells #[.int .u64 0, .int .u64 0] 149)) := (Below.refl _ _).alloc (Nat.le_refl _) (.cells #[.int .u64 0, .int .u64 0] 149)
          have hl9 : v3.heap.size < (v3.alloc (.cells #[.int .u64 0, .int .u64 0] 149)).heap.size := by simp
          generalize v3.alloc (.cells #[.int .u64 0, .int .u64 0] 149) = v4 at *
          have ha8 := carry ha8 hb4
          have hB := btrans hB (Nat.le_refl _) hb4
          have hz4 := hb4.size
          have hBs := hB.size
          (try simp only [Act.put, List.setIfInBounds_toArray, List.set_cons_zero, List.set_cons_succ])
          refine wpAnyH_ready (rs := [10]) (by kernel_rfl) (by simp) ?_
          refine AllReadyH.cons rfl (fun K hK => ?_) AllReadyH.nil
          (try dsimp only at hH4)
          obtain ⟨q0, q1, q2, q3⟩ := cells2 ha8
          have hne : v3.heap.size ≠ v2.heap.size := by omega
          have hge : W1.heap.size ≤ v2.heap.size := by omega
          have hge9 : W1.heap.size ≤ v3.heap.size := by omega
          go_simp
          refine hK.out _ _ (HQ.out _ (put2_below (.int .u64 x1) (.int .u64 x0) hB hge)) (fun hH5 => ?_)
          clear hK K
          have ha9 := (put2_oth (w := v4) (.int .u64 x1) (.int .u64 x0) hne).trans ha9
          have ha8 := put2_same (.int .u64 x1) (.int .u64 x0) ha8
          have hB := put2_below (.int .u64 x1) (.int .u64 x0) hB hge
          generalize ((v4.setCell ⟨v2.heap.size, 0, none⟩ (.int .u64 x1)).setCell ⟨v2.heap.size, 1, none⟩ (.int .u64 x0)) = v5 at *
          (try simp only [Act.put, List.setIfInBounds_toArray, List.set_cons_zero, List.set_cons_succ])
          refine wpAnyH_ready (rs := [11]) (by kernel_rfl) (by simp) ?_
          refine AllReadyH.cons rfl (fun K hK => ?_) AllReadyH.nil
          (try dsimp only at hH5)
          clear q0 q1 q2 q3
          obtain ⟨q0, q1, q2, q3⟩ := cells2 ha9
          go_simp
          refine hK.out _ _ (HQ.out _ (put2_below (.int .u64 y1) (.int .u64 y0) hB hge9)) (fun hH6 => ?_)
          clear hK K
          have ha8 := (put2_oth (w := v5) (.int .u64 y1) (.int .u64 y0) (Ne.symm hne)).trans ha8
          have ha9 := put2_same (.int .u64 y1) (.int .u64 y0) ha9
          have hB := put2_below (.int .u64 y1) (.int .u64 y0) hB hge9
          generalize ((v5.setCell ⟨v3.heap.size, 0, none⟩ (.int .u64 y1)).setCell ⟨v3.heap.size, 1, none⟩ (.int .u64 y0)) = v6 at *
          (try simp only [Act.put, List.setIfInBounds_toArray, List.set_cons_zero, List.set_cons_succ])
          refine wpAnyH_done (by kernel_rfl) ?_ _
          go_wp2_with fail
          go_meet
          exact ⟨_, _, rfl, rfl, ha8, ha9, hge, hge9, hB⟩
        · skip
          (try dsimp only at hH2)
          go_simp
          refine hK.out _ _ (HQ.out _ (hB.alloc hBs (.cells #[.int .u64 0, .int .u64 0] 149))) (fun hH7 => ?_)
          clear hK K
          have ha9 := heap_alloc_new v2 (.cells #[.int .u64 0, .int .u64 0] 149)
          have hb3 : Below v2.heap.size v2 (v2.alloc (.cells #[.int .u64 0, .int .u64 0] 149)) := (Below.refl _ _).alloc (Nat.le_refl _) (.cells #[.int .u64 0, .int .u64 0] 149)
          have hl9 : v2.heap.size < (v2.alloc (.cells #[.int .u64 0, .int .u64 0] 149)).heap.size := by simp
          generalize v2.alloc (.cells #[.int .u64 0, .int .u64 0] 149) = v3 at *
          have hB := btrans hB (Nat.le_refl _) hb3
          have hz3 := hb3.size
          have hBs := hB.size
          (try simp only [Act.put, List.setIfInBounds_toArray, List.set_cons_zero, List.set_cons_succ])
          refine wpAnyH_ready (rs := [8]) (by kernel_rfl) (by simp) ?_
          refine AllReadyH.cons rfl (fun K hK => ?_) AllReadyH.nil
          (try dsimp only at hH7)
          go_simp
          refine hK.out _ _ (HQ.out _ (hB.alloc hBs (.cells #[.int .u64 0, .int .u64 0] 149))) (fun hH8 => ?_)
          clear hK K
          have ha8 := heap_alloc_new v3 (.cells #[.int .u64 0, .int .u64 0] 149)
          have hb4 : Below v3.heap.size v3 (v3.alloc (.cells #[.int .u64 0, .int .u64 0] 149)) := (Below.refl _ _).alloc (Nat.le_refl _) (.cells #[.int .u64 0, .int .u64 0] 149)
          have hl8 : v3.heap.size < (v3.alloc (.cells #[.int .u64 0, .int .u64 0] 149)).heap.size := by simp
          generalize v3.alloc (.cells #[.int .u64 0, .int .u64 0] 149) = v4 at *
          have ha9 := carry ha9 hb4
          have hB := btrans hB (Nat.le_refl _) hb4
          have hz4 := hb4.size
          have hBs := hB.size
          (try simp only [Act.put, List.setIfInBounds_toArray, List.set_cons_zero, List.set_cons_succ])
          refine wpAnyH_ready (rs := [10]) (by kernel_rfl) (by simp) ?_
          refine AllReadyH.cons rfl (fun K hK => ?_) AllReadyH.nil
          (try dsimp only at hH8)
          obtain ⟨q0, q1, q2, q3⟩ := cells2 ha8
          have hne : v2.heap.size ≠ v3.heap.size := by omega
          have hge : W1.heap.size ≤ v3.heap.size := by omega
          have hge9 : W1.heap.size ≤ v2.heap.size := by omega
          go_simp
          refine hK.out _ _ (HQ.out _ (put2_below (.int .u64 x1) (.int .u64 x0) hB hge)) (fun hH9 => ?_)
          clear hK K
          have ha9 := (put2_oth (w := v4) (.int .u64 x1) (.int .u64 x0) hne).trans ha9
          have ha8 := put2_same (.int .u64 x1) (.int .u64 x0) ha8
          have hB := put2_below (.int .u64 x1) (.int .u64 x0) hB hge
          generalize ((v4.setCell ⟨v3.heap.size, 0, none⟩ (.int .u64 x1)).setCell ⟨v3.heap.size, 1, none⟩ (.int .u64 x0)) = v5 at *
          (try simp only [Act.put, List.setIfInBounds_toArray, List.set_cons_zero, List.set_cons_succ])
          refine wpAnyH_ready (rs := [11]) (by kernel_rfl) (by simp) ?_
          refine AllReadyH.cons rfl (fun K hK => ?_) AllReadyH.nil
          (try dsimp only at hH9)
          clear q0 q1 q2 q3
          obtain ⟨q0, q1, q2, q3⟩ := cells2 ha9
          go_simp
          refine hK.out _ _ (HQ.out _ (put2_below (.int .u64 y1) (.int .u64 y0) hB hge9)) (fun hH10 => ?_)
          clear hK K
          have ha8 := (put2_oth (w := v5) (.int .u64 y1) (.int .u64 y0) (Ne.symm hne)).trans ha8
          have ha9 := put2_same (.int .u64 y1) (.int .u64 y0) ha9
          have hB := put2_below (.int .u64 y1) (.int .u64 y0) hB hge9
          generalize ((v5.setCell ⟨v2.heap.size, 0, none⟩ (.int .u64 y1)).setCell ⟨v2.heap.size, 1, none⟩ (.int .u64 y0)) = v6 at *
          (try simp only [Act.put, List.setIfInBounds_toArray, List.set_cons_zero, List.set_cons_succ])
          refine wpAnyH_done (by kernel_rfl) ?_ _
          go_wp2_with fail
          go_meet
          exact ⟨_, _, rfl, rfl, ha8, ha9, hge, hge9, hB⟩
      · skip
        (try dsimp only at hH1)
        go_simp
        refine hK.out _ _ (HQ.out _ (hB.alloc hBs (.cells #[.int .u64 0, .int .u64 0] 149))) (fun hH11 => ?_)
        clear hK K
        have ha8 := heap_alloc_new v1 (.cells #[.int .u64 0, .int .u64 0] 149)
        have hb2 : Below v1.heap.size v1 (v1.alloc (.cells #[.int .u64 0, .int .u64 0] 149)) := (Below.refl _ _).alloc (Nat.le_refl _) (.cells #[.int .u64 0, .int .u64 0] 149)
        have hl8 : v1.heap.size < (v1.alloc (.cells #[.int .u64 0, .int .u64 0] 149)).heap.size := by simp
        generalize v1.alloc (.cells #[.int .u64 0, .int .u64 0] 149) = v2 at *
        have hB := btrans hB (Nat.le_refl _) hb2
        have hz2 := hb2.size
        have hBs := hB.size
        (try simp only [Act.put, List.setIfInBounds_toArray, List.set_cons_zero, List.set_cons_succ])
        refine wpAnyH_ready (rs := [7, 9]) (by kernel_rfl) (by simp) ?_
        refine AllReadyH.cons rfl (fun K hK => ?_) (AllReadyH.cons rfl (fun K hK => ?_) AllReadyH.nil)
        · skip
          (try dsimp only at hH11)
          go_simp
          refine (HP1.out _).mono ?_
          rintro e v3 ⟨rfl, hb3⟩
          refine hK.out _ _ (HQ.out _ (btrans hB (Nat.le_refl _) hb3)) (fun hH12 => ?_)
          clear hK K
          have ha8 := carry ha8 hb3
          have hB := btrans hB (Nat.le_refl _) hb3
          have hz3 := hb3.size
          have hBs := hB.size
          (try simp only [Act.put, List.setIfInBounds_toArray, List.set_cons_zero, List.set_cons_succ])
          refine wpAnyH_ready (rs := [9]) (by kernel_rfl) (by simp) ?_
          refine AllReadyH.cons rfl (fun K hK => ?_) AllReadyH.nil
          (try dsimp only at hH12)
          go_simp
          refine hK.out _ _ (HQ.out _ (hB.alloc hBs (.cells #[.int .u64 0, .int .u64 0] 149))) (fun hH13 => ?_)
          clear hK K
          have ha9 := heap_alloc_new v3 (.cells #[.int .u64 0, .int .u64 0] 149)
          have hb4 : Below v3.heap.size v3 (v3.alloc (.cells #[.int .u64 0, .int .u64 0] 149)) := (Below.refl _ _).alloc (Nat.le_refl _) (.cells #[.int .u64 0, .int .u64 0] 149)
          have hl9 : v3.heap.size < (v3.alloc (.cells #[.int .u64 0, .int .u64 0] 149)).heap.size := by simp
          generalize v3.alloc (.cells #[.int .u64 0, .int .u64 0] 149) = v4 at *
          have ha8 := carry ha8 hb4
          have hB := btrans hB (Nat.le_refl _) hb4
          have hz4 := hb4.size
          have hBs := hB.size
          (try simp only [Act.put, List.setIfInBounds_toArray, List.set_cons_zero, List.set_cons_succ])
          refine wpAnyH_ready (rs := [10]) (by kernel_rfl) (by simp) ?_
          refine AllReadyH.cons rfl (fun K hK => ?_) AllReadyH.nil
          (try dsimp only at hH13)
          obtain ⟨q0, q1, q2, q3⟩ := cells2 ha8
          have hne : v3.heap.size ≠ v1.heap.size := by omega
          have hge : W1.heap.size ≤ v1.heap.size := by omega
          have hge9 : W1.heap.size ≤ v3.heap.size := by omega
          go_simp
          refine hK.out _ _ (HQ.out _ (put2_below (.int .u64 x1) (.int .u64 x0) hB hge)) (fun hH14 => ?_)
          clear hK K
          have ha9 := (put2_oth (w := v4) (.int .u64 x1) (.int .u64 x0) hne).trans ha9
          have ha8 := put2_same (.int .u64 x1) (.int .u64 x0) ha8
          have hB := put2_below (.int .u64 x1) (.int .u64 x0) hB hge
          generalize ((v4.setCell ⟨v1.heap.size, 0, none⟩ (.int .u64 x1)).setCell ⟨v1.heap.size, 1, none⟩ (.int .u64 x0)) = v5 at *
          (try simp only [Act.put, List.setIfInBounds_toArray, List.set_cons_zero, List.set_cons_succ])
          refine wpAnyH_ready (rs := [11]) (by kernel_rfl) (by simp) ?_
          refine AllReadyH.cons rfl (fun K hK => ?_) AllReadyH.nil
          (try dsimp only at hH14)
          clear q0 q1 q2 q3
          obtain ⟨q0, q1, q2, q3⟩ := cells2 ha9
          go_simp
          refine hK.out _ _ (HQ.out _ (put2_below (.int .u64 y1) (.int .u64 y0) hB hge9)) (fun hH15 => ?_)
          clear hK K
          have ha8 := (put2_oth (w := v5) (.int .u64 y1) (.int .u64 y0) (Ne.symm hne)).trans ha8
          have ha9 := put2_same (.int .u64 y1) (.int .u64 y0) ha9
          have hB := put2_below (.int .u64 y1) (.int .u64 y0) hB hge9
          generalize ((v5.setCell ⟨v3.heap.size, 0, none⟩ (.int .u64 y1)).setCell ⟨v3.heap.size, 1, none⟩ (.int .u64 y0)) = v6 at *
          (try simp only [Act.put, List.setIfInBounds_toArray, List.set_cons_zero, List.set_cons_succ])
          refine wpAnyH_done (by kernel_rfl) ?_ _
          go_wp2_with fail
          go_meet
          exact ⟨_, _, rfl, rfl, ha8, ha9, hge, hge9, hB⟩
        · skip
          (try dsimp only at hH11)
          go_simp
          refine hK.out _ _ (HQ.out _ (hB.alloc hBs (.cells #[.int .u64 0, .int .u64 0] 149))) (fun hH16 => ?_)
          clear hK K
          have ha9 := heap_alloc_new v2 (.cells #[.int .u64 0, .int .u64 0] 149)
          have hb3 : Below v2.heap.size v2 (v2.alloc (.cells #[.int .u64 0, .int .u64 0] 149)) := (Below.refl _ _).alloc (Nat.le_refl _) (.cells #[.int .u64 0, .int .u64 0] 149)
          have hl9 : v2.heap.size < (v2.alloc (.cells #[.int .u64 0, .int .u64 0] 149)).heap.size := by simp
          generalize v2.alloc (.cells #[.int .u64 0, .int .u64 0] 149) = v3 at *
          have ha8 := carry ha8 hb3
          have hB := btrans hB (Nat.le_refl _) hb3
          have hz3 := hb3.size
          have hBs := hB.size
          (try simp only [Act.put, List.setIfInBounds_toArray, List.set_cons_zero, List.set_cons_succ])
          refine wpAnyH_ready (rs := [7]) (by kernel_rfl) (by simp) ?_
          refine AllReadyH.cons rfl (fun K hK => ?_) AllReadyH.nil
          (try dsimp only at hH16)
          go_simp
          refine (HP1.out _).mono ?_
          rintro e v4 ⟨rfl, hb4⟩
          refine hK.out _ _ (HQ.out _ (btrans hB (Nat.le_refl _) hb4)) (fun hH17 => ?_)
          clear hK K
          have ha8 := carry ha8 hb4
          have ha9 := carry ha9 hb4
          have hB := btrans hB (Nat.le_refl _) hb4
          have hz4 := hb4.size
          have hBs := hB.size
          (try simp only [Act.put, List.setIfInBounds_toArray, List.set_cons_zero, List.set_cons_succ])
          refine wpAnyH_ready (rs := [10]) (by kernel_rfl) (by simp) ?_
          refine AllReadyH.cons rfl (fun K hK => ?_) AllReadyH.nil
          (try dsimp only at hH17)
          obtain ⟨q0, q1, q2, q3⟩ := cells2 ha8
          have hne : v2.heap.size ≠ v1.heap.size := by omega
          have hge : W1.heap.size ≤ v1.heap.size := by omega
          have hge9 : W1.heap.size ≤ v2.heap.size := by omega
          go_simp
          refine hK.out _ _ (HQ.out _ (put2_below (.int .u64 x1) (.int .u64 x0) hB hge)) (fun hH18 => ?_)
          clear hK K
          have ha9 := (put2_oth (w := v4) (.int .u64 x1) (.int .u64 x0) hne).trans ha9
          have ha8 := put2_same (.int .u64 x1) (.int .u64 x0) ha8
          have hB := put2_below (.int .u64 x1) (.int .u64 x0) hB hge
          generalize ((v4.setCell ⟨v1.heap.size, 0, none⟩ (.int .u64 x1)).setCell ⟨v1.heap.size, 1, none⟩ (.int .u64 x0)) = v5 at *
          (try simp only [Act.put, List.setIfInBounds_toArray, List.set_cons_zero, List.set_cons_succ])
          refine wpAnyH_ready (rs := [11]) (by kernel_rfl) (by simp) ?_
          refine AllReadyH.cons rfl (fun K hK => ?_) AllReadyH.nil
          (try dsimp only at hH18)
          clear q0 q1 q2 q3
          obtain ⟨q0, q1, q2, q3⟩ := cells2 ha9
          go_simp
          refine hK.out _ _ (HQ.out _ (put2_below (.int .u64 y1) (.int .u64 y0) hB hge9)) (fun hH19 => ?_)
          clear hK K
          have ha8 := (put2_oth (w := v5) (.int .u64 y1) (.int .u64 y0) (Ne.symm hne)).trans ha8
          have ha9 := put2_same (.int .u64 y1) (.int .u64 y0) ha9
          have hB := put2_below (.int .u64 y1) (.int .u64 y0) hB hge9
          generalize ((v5.setCell ⟨v2.heap.size, 0, none⟩ (.int .u64 y1)).setCell ⟨v2.heap.size, 1, none⟩ (.int .u64 y0)) = v6 at *
          (try simp only [Act.put, List.setIfInBounds_toArray, List.set_cons_zero, List.set_cons_succ])
          refine wpAnyH_done (by kernel_rfl) ?_ _
          go_wp2_with fail
          go_meet
          exact ⟨_, _, rfl, rfl, ha8, ha9, hge, hge9, hB⟩
      · skip
        (try dsimp only at hH1)
        go_simp
        refine hK.out _ _ (HQ.out _ (hB.alloc hBs (.cells #[.int .u64 0, .int .u64 0] 149))) (fun hH20 => ?_)
        clear hK K
        have ha9 := heap_alloc_new v1 (.cells #[.int .u64 0, .int .u64 0] 149)
        have hb2 : Below v1.heap.size v1 (v1.alloc (.cells #[.int .u64 0, .int .u64 0] 149)) := (Below.refl _ _).alloc (Nat.le_refl _) (.cells #[.int .u64 0, .int .u64 0] 149)
        have hl9 : v1.heap.size < (v1.alloc (.cells #[.int .u64 0, .int .u64 0] 149)).heap.size := by simp
        generalize v1.alloc (.cells #[.int .u64 0, .int .u64 0] 149) = v2 at *
        have hB := btrans hB (Nat.le_refl _) hb2
        have hz2 := hb2.size
        have hBs := hB.size
        (try simp only [Act.put, List.setIfInBounds_toArray, List.set_cons_zero, List.set_cons_succ])
        refine wpAnyH_ready (rs := [7, 8]) (by kernel_rfl) (by simp) ?_
        refine AllReadyH.cons rfl (fun K hK => ?_) (AllReadyH.cons rfl (fun K hK => ?_) AllReadyH.nil)
        · skip
          (try dsimp only at hH20)
          go_simp
          refine (HP1.out _).mono ?_
          rintro e v3 ⟨rfl, hb3⟩
          refine hK.out _ _ (HQ.out _ (btrans hB (Nat.le_refl _) hb3)) (fun hH21 => ?_)
          clear hK K
          have ha9 := carry ha9 hb3
          have hB := btrans hB (Nat.le_refl _) hb3
          have hz3 := hb3.size
          have hBs := hB.size
          (try simp only [Act.put, List.setIfInBounds_toArray, List.set_cons_zero, List.set_cons_succ])
          refine wpAnyH_ready (rs := [8]) (by kernel_rfl) (by simp) ?_
          refine AllReadyH.cons rfl (fun K hK => ?_) AllReadyH.nil
          (try dsimp only at hH21)
          go_simp
          refine hK.out _ _ (HQ.out _ (hB.alloc hBs (.cells #[.int .u64 0, .int .u64 0] 149))) (fun hH22 => ?_)
          clear hK K
          have ha8 := heap_alloc_new v3 (.cells #[.int .u64 0, .int .u64 0] 149)
          have hb4 : Below v3.heap.size v3 (v3.alloc (.cells #[.int .u64 0, .int .u64 0] 149)) := (Below.refl _ _).alloc (Nat.le_refl _) (.cells #[.int .u64 0, .int .u64 0] 149)
          have hl8 : v3.heap.size < (v3.alloc (.cells #[.int .u64 0, .int .u64 0] 149)).heap.size := by simp
          generalize v3.alloc (.cells #[.int .u64 0, .int .u64 0] 149) = v4 at *
          have ha9 := carry ha9 hb4
          have hB := btrans hB (Nat.le_refl _) hb4
          have hz4 := hb4.size
          have hBs := hB.size
          (try simp only [Act.put, List.setIfInBounds_toArray, List.set_cons_zero, List.set_cons_succ])
          refine wpAnyH_ready (rs := [10]) (by kernel_rfl) (by simp) ?_
          refine AllReadyH.cons rfl (fun K hK => ?_) AllReadyH.nil
          (try dsimp only at hH22)
          obtain ⟨q0, q1, q2, q3⟩ := cells2 ha8
          have hne : v1.heap.size ≠ v3.heap.size := by omega
          have hge : W1.heap.size ≤ v3.heap.size := by omega
          have hge9 : W1.heap.size ≤ v1.heap.size := by omega
          go_simp
          refine hK.out _ _ (HQ.out _ (put2_below (.int .u64 x1) (.int .u64 x0) hB hge)) (fun hH23 => ?_)
          clear hK K
          have ha9 := (put2_oth (w := v4) (.int .u64 x1) (.int .u64 x0) hne).trans ha9
          have ha8 := put2_same (.int .u64 x1) (.int .u64 x0) ha8
          have hB := put2_below (.int .u64 x1) (.int .u64 x0) hB hge
          generalize ((v4.setCell ⟨v3.heap.size, 0, none⟩ (.int .u64 x1)).setCell ⟨v3.heap.size, 1, none⟩ (.int .u64 x0)) = v5 at *
          (try simp only [Act.put, List.setIfInBounds_toArray, List.set_cons_zero, List.set_cons_succ])
          refine wpAnyH_ready (rs := [11]) (by kernel_rfl) (by simp) ?_
          refine AllReadyH.cons rfl (fun K hK => ?_) AllReadyH.nil
          (try dsimp only at hH23)
          clear q0 q1 q2 q3
          obtain ⟨q0, q1, q2, q3⟩ := cells2 ha9
          go_simp
          refine hK.out _ _ (HQ.out _ (put2_below (.int .u64 y1) (.int .u64 y0) hB hge9)) (fun hH24 => ?_)
          clear hK K
          have ha8 := (put2_oth (w := v5) (.int .u64 y1) (.int .u64 y0) (Ne.symm hne)).trans ha8
          have ha9 := put2_same (.int .u64 y1) (.int .u64 y0) ha9
          have hB := put2_below (.int .u64 y1) (.int .u64 y0) hB hge9
          generalize ((v5.setCell ⟨v1.heap.size, 0, none⟩ (.int .u64 y1)).setCell ⟨v1.heap.size, 1, none⟩ (.int .u64 y0)) = v6 at *
          (try simp only [Act.put, List.setIfInBounds_toArray, List.set_cons_zero, List.set_cons_succ])
          refine wpAnyH_done (by kernel_rfl) ?_ _
          go_wp2_with fail
          go_meet
          exact ⟨_, _, rfl, rfl, ha8, ha9, hge, hge9, hB⟩
        · skip
          (try dsimp only at hH20)
          go_simp
          refine hK.out _ _ (HQ.out _ (hB.alloc hBs (.cells #[.int .u64 0, .int .u64 0] 149))) (fun hH25 => ?_)
          clear hK K
          have ha8 := heap_alloc_new v2 (.cells #[.int .u64 0, .int .u64 0] 149)
          have hb3 : Below v2.heap.size v2 (v2.alloc (.cells #[.int .u64 0, .int .u64 0] 149)) := (Below.refl _ _).alloc (Nat.le_refl _) (.cells #[.int .u64 0, .int .u64 0] 149)
          have hl8 : v2.heap.size < (v2.alloc (.cells #[.int .u64 0, .int .u64 0] 149)).heap.size := by simp
          generalize v2.alloc (.cells #[.int .u64 0, .int .u64 0] 149) = v3 at *
          have ha9 := carry ha9 hb3
          have hB := btrans hB (Nat.le_refl _) hb3
          have hz3 := hb3.size
          have hBs := hB.size
          (try simp only [Act.put, List.setIfInBounds_toArray, List.set_cons_zero, List.set_cons_succ])
          refine wpAnyH_ready (rs := [7]) (by kernel_rfl) (by simp) ?_
          refine AllReadyH.cons rfl (fun K hK => ?_) AllReadyH.nil
          (try dsimp only at hH25)
          go_simp
          refine (HP1.out _).mono ?_
          rintro e v4 ⟨rfl, hb4⟩
          refine hK.out _ _ (HQ.out _ (btrans hB (Nat.le_refl _) hb4)) (fun hH26 => ?_)
          clear hK K
          have ha9 := carry ha9 hb4
          have ha8 := carry ha8 hb4
          have hB := btrans hB (Nat.le_refl _) hb4
          have hz4 := hb4.size
          have hBs := hB.size
          (try simp only [Act.put, List.setIfInBounds_toArray, List.set_cons_zero, List.set_cons_succ])
          refine wpAnyH_ready (rs := [10]) (by kernel_rfl) (by simp) ?_
          refine AllReadyH.cons rfl (fun K hK => ?_) AllReadyH.nil
          (try dsimp only at hH26)
          obtain ⟨q0, q1, q2, q3⟩ := cells2 ha8
          have hne : v1.heap.size ≠ v2.heap.size := by omega
          have hge : W1.heap.size ≤ v2.heap.size := by omega
          have hge9 : W1.heap.size ≤ v1.heap.size := by omega
          go_simp
          refine hK.out _ _ (HQ.out _ (put2_below (.int .u64 x1) (.int .u64 x0) hB hge)) (fun hH27 => ?_)
          clear hK K
          have ha9 := (put2_oth (w := v4) (.int .u64 x1) (.int .u64 x0) hne).trans ha9
          have ha8 := put2_same (.int .u64 x1) (.int .u64 x0) ha8
          have hB := put2_below (.int .u64 x1) (.int .u64 x0) hB hge
          generalize ((v4.setCell ⟨v2.heap.size, 0, none⟩ (.int .u64 x1)).setCell ⟨v2.heap.size, 1, none⟩ (.int .u64 x0)) = v5 at *
          (try simp only [Act.put, List.setIfInBounds_toArray, List.set_cons_zero, List.set_cons_succ])
          refine wpAnyH_ready (rs := [11]) (by kernel_rfl) (by simp) ?_
          refine AllReadyH.cons rfl (fun K hK => ?_) AllReadyH.nil
          (try dsimp only at hH27)
          clear q0 q1 q2 q3
          obtain ⟨q0, q1, q2, q3⟩ := cells2 ha9
          go_simp
          refine hK.out _ _ (HQ.out _ (put2_below (.int .u64 y1) (.int .u64 y0) hB hge9)) (fun hH28 => ?_)
          clear hK K
          have ha8 := (put2_oth (w := v5) (.int .u64 y1) (.int .u64 y0) (Ne.symm hne)).trans ha8
          have ha9 := put2_same (.int .u64 y1) (.int .u64 y0) ha9
          have hB := put2_below (.int .u64 y1) (.int .u64 y0) hB hge9
          generalize ((v5.setCell ⟨v1.heap.size, 0, none⟩ (.int .u64 y1)).setCell ⟨v1.heap.size, 1, none⟩ (.int .u64 y0)) = v6 at *
          (try simp only [Act.put, List.setIfInBounds_toArray, List.set_cons_zero, List.set_cons_succ])
          refine wpAnyH_done (by kernel_rfl) ?_ _
          go_wp2_with fail
          go_meet
          exact ⟨_, _, rfl, rfl, ha8, ha9, hge, hge9, hB⟩
    · skip
      (try dsimp only at hH)
      go_simp
      refine hK.out _ _ (HQ.out _ (hB.alloc hBs (.cells #[.int .u64 0, .int .u64 0] 149))) (fun hH29 => ?_)
      clear hK K
      have ha8 := heap_alloc_new v0 (.cells #[.int .u64 0, .int .u64 0] 149)
      have hb1 : Below v0.heap.size v0 (v0.alloc (.cells #[.int .u64 0, .int .u64 0] 149)) := (Below.refl _ _).alloc (Nat.le_refl _) (.cells #[.int .u64 0, .int .u64 0] 149)
      have hl8 : v0.heap.size < (v0.alloc (.cells #[.int .u64 0, .int .u64 0] 149)).heap.size := by simp
      generalize v0.alloc (.cells #[.int .u64 0, .int .u64 0] 149) = v1 at *
      have hB := btrans hB (Nat.le_refl _) hb1
      have hz1 := hb1.size
      have hBs := hB.size
      (try simp only [Act.put, List.setIfInBounds_toArray, List.set_cons_zero, List.set_cons_succ])
      refine wpAnyH_ready (rs := [3, 9]) (by kernel_rfl) (by simp) ?_
      refine AllReadyH.cons rfl (fun K hK => ?_) (AllReadyH.cons rfl (fun K hK => ?_) AllReadyH.nil)
      · skip
        (try dsimp only at hH29)
        go_simp
        refine (HP0.out _).mono ?_
        rintro e v2 ⟨rfl, hb2⟩
        refine hK.out _ _ (HQ.out _ (btrans hB (Nat.le_refl _) hb2)) (fun hH30 => ?_)
        clear hK K
        have ha8 := carry ha8 hb2
        have hB := btrans hB (Nat.le_refl _) hb2
        have hz2 := hb2.size
        have hBs := hB.size
        (try simp only [Act.put, List.setIfInBounds_toArray, List.set_cons_zero, List.set_cons_succ])
        refine wpAnyH_ready (rs := [7, 9]) (by kernel_rfl) (by simp) ?_
        refine AllReadyH.cons rfl (fun K hK => ?_) (AllReadyH.cons rfl (fun K hK => ?_) AllReadyH.nil)
        · skip
          (try dsimp only at hH30)
          go_simp
          refine (HP1.out _).mono ?_
          rintro e v3 ⟨rfl, hb3⟩
          refine hK.out _ _ (HQ.out _ (btrans hB (Nat.le_refl _) hb3)) (fun hH31 => ?_)
          clear hK K
          have ha8 := carry ha8 hb3
          have hB := btrans hB (Nat.le_refl _) hb3
          have hz3 := hb3.size
          have hBs := hB.size
          (try simp only [Act.put, List.setIfInBounds_toArray, List.set_cons_zero, List.set_cons_succ])
          refine wpAnyH_ready (rs := [9]) (by kernel_rfl) (by simp) ?_
          refine AllReadyH.cons rfl (fun K hK => ?_) AllReadyH.nil
          (try dsimp only at hH31)
          go_simp
          refine hK.out _ _ (HQ.out _ (hB.alloc hBs (.cells #[.int .u64 0, .int .u64 0] 149))) (fun hH32 => ?_)
          clear hK K
          have ha9 := heap_alloc_new v3 (.cells #[.int .u64 0, .int .u64 0] 149)
          have hb4 : Below v3.heap.size v3 (v3.alloc (.cells #[.int .u64 0, .int .u64 0] 149)) := (Below.refl _ _).alloc (Nat.le_refl _) (.cells #[.int .u64 0, .int .u64 0] 149)
          have hl9 : v3.heap.size < (v3.alloc (.cells #[.int .u64 0, .int .u64 0] 149)).heap.size := by simp
          generalize v3.alloc (.cells #[.int .u64 0, .int .u64 0] 149) = v4 at *
          have ha8 := carry ha8 hb4
          have hB := btrans hB (Nat.le_refl _) hb4
          have hz4 := hb4.size
          have hBs := hB.size
          (try simp only [Act.put, List.setIfInBounds_toArray, List.set_cons_zero, List.set_cons_succ])
          refine wpAnyH_ready (rs := [10]) (by kernel_rfl) (by simp) ?_
          refine AllReadyH.cons rfl (fun K hK => ?_) AllReadyH.nil
          (try dsimp only at hH32)
          obtain ⟨q0, q1, q2, q3⟩ := cells2 ha8
          have hne : v3.heap.size ≠ v0.heap.size := by omega
          have hge : W1.heap.size ≤ v0.heap.size := by omega
          have hge9 : W1.heap.size ≤ v3.heap.size := by omega
          go_simp
          refine hK.out _ _ (HQ.out _ (put2_below (.int .u64 x1) (.int .u64 x0) hB hge)) (fun hH33 => ?_)
          clear hK K
          have ha9 := (put2_oth (w := v4) (.int .u64 x1) (.int .u64 x0) hne).trans ha9
          have ha8 := put2_same (.int .u64 x1) (.int .u64 x0) ha8
          have hB := put2_below (.int .u64 x1) (.int .u64 x0) hB hge
          generalize ((v4.setCell ⟨v0.heap.size, 0, none⟩ (.int .u64 x1)).setCell ⟨v0.heap.size, 1, none⟩ (.int .u64 x0)) = v5 at *
          (try simp only [Act.put, List.setIfInBounds_toArray, List.set_cons_zero, List.set_cons_succ])
          refine wpAnyH_ready (rs := [11]) (by kernel_rfl) (by simp) ?_
          refine AllReadyH.cons rfl (fun K hK => ?_) AllReadyH.nil
          (try dsimp only at hH33)
          clear q0 q1 q2 q3
          obtain ⟨q0, q1, q2, q3⟩ := cells2 ha9
          go_simp
          refine hK.out _ _ (HQ.out _ (put2_below (.int .u64 y1) (.int .u64 y0) hB hge9)) (fun hH34 => ?_)
          clear hK K
          have ha8 := (put2_oth (w := v5) (.int .u64 y1) (.int .u64 y0) (Ne.symm hne)).trans ha8
          have ha9 := put2_same (.int .u64 y1) (.int .u64 y0) ha9
          have hB := put2_below (.int .u64 y1) (.int .u64 y0) hB hge9
          generalize ((v5.setCell ⟨v3.heap.size, 0, none⟩ (.int .u64 y1)).setCell ⟨v3.heap.size, 1, none⟩ (.int .u64 y0)) = v6 at *
          (try simp only [Act.put, List.setIfInBounds_toArray, List.set_cons_zero, List.set_cons_succ])
          refine wpAnyH_done (by kernel_rfl) ?_ _
          go_wp2_with fail
          go_meet
          exact ⟨_, _, rfl, rfl, ha8, ha9, hge, hge9, hB⟩
        · skip
          (try dsimp only at hH30)
          go_simp
          refine hK.out _ _ (HQ.out _ (hB.alloc hBs (.cells #[.int .u64 0, .int .u64 0] 149))) (fun hH35 => ?_)
          clear hK K
          have ha9 := heap_alloc_new v2 (.cells #[.int .u64 0, .int .u64 0] 149)
          have hb3 : Below v2.heap.size v2 (v2.alloc (.cells #[.int .u64 0, .int .u64 0] 149)) := (Below.refl _ _).alloc (Nat.le_refl _) (.cells #[.int .u64 0, .int .u64 0] 149)
          have hl9 : v2.heap.size < (v2.alloc (.cells #[.int .u64 0, .int .u64 0] 149)).heap.size := by simp
          generalize v2.alloc (.cells #[.int .u64 0, .int .u64 0] 149) = v3 at *
          have ha8 := carry ha8 hb3
          have hB := btrans hB (Nat.le_refl _) hb3
          have hz3 := hb3.size
          have hBs := hB.size
          (try simp only [Act.put, List.setIfInBounds_toArray, List.set_cons_zero, List.set_cons_succ])
          refine wpAnyH_ready (rs := [7]) (by kernel_rfl) (by simp) ?_
          refine AllReadyH.cons rfl (fun K hK => ?_) AllReadyH.nil
          (try dsimp only at hH35)
          go_simp
          refine (HP1.out _).mono ?_
          rintro e v4 ⟨rfl, hb4⟩
          refine hK.out _ _ (HQ.out _ (btrans hB (Nat.le_refl _) hb4)) (fun hH36 => ?_)
          clear hK K
          have ha8 := carry ha8 hb4
          have ha9 := carry ha9 hb4
          have hB := btrans hB (Nat.le_refl _) hb4
          have hz4 := hb4.size
          have hBs := hB.size
          (try simp only [Act.put, List.setIfInBounds_toArray, List.set_cons_zero, List.set_cons_succ])
          refine wpAnyH_ready (rs := [10]) (by kernel_rfl) (by simp) ?_
          refine AllReadyH.cons rfl (fun K hK => ?_) AllReadyH.nil
          (try dsimp only at hH36)
          obtain ⟨q0, q1, q2, q3⟩ := cells2 ha8
          have hne : v2.heap.size ≠ v0.heap.size := by omega
          have hge : W1.heap.size ≤ v0.heap.size := by omega
          have hge9 : W1.heap.size ≤ v2.heap.size := by omega
          go_simp
          refine hK.out _ _ (HQ.out _ (put2_below (.int .u64 x1) (.int .u64 x0) hB hge)) (fun hH37 => ?_)
          clear hK K
          have ha9 := (put2_oth (w := v4) (.int .u64 x1) (.int .u64 x0) hne).trans ha9
          have ha8 := put2_same (.int .u64 x1) (.int .u64 x0) ha8
          have hB := put2_below (.int .u64 x1) (.int .u64 x0) hB hge
          generalize ((v4.setCell ⟨v0.heap.size, 0, none⟩ (.int .u64 x1)).setCell ⟨v0.heap.size, 1, none⟩ (.int .u64 x0)) = v5 at *
          (try simp only [Act.put, List.setIfInBounds_toArray, List.set_cons_zero, List.set_cons_succ])
          refine wpAnyH_ready (rs := [11]) (by kernel_rfl) (by simp) ?_
          refine AllReadyH.cons rfl (fun K hK => ?_) AllReadyH.nil
          (try dsimp only at hH37)
          clear q0 q1 q2 q3
          obtain ⟨q0, q1, q2, q3⟩ := cells2 ha9
          go_simp
          refine hK.out _ _ (HQ.out _ (put2_below (.int .u64 y1) (.int .u64 y0) hB hge9)) (fun hH38 => ?_)
          clear hK K
          have ha8 := (put2_oth (w := v5) (.int .u64 y1) (.int .u64 y0) (Ne.symm hne)).trans ha8
          have ha9 := put2_same (.int .u64 y1) (.int .u64 y0) ha9
          have hB := put2_below (.int .u64 y1) (.int .u64 y0) hB hge9
          generalize ((v5.setCell ⟨v2.heap.size, 0, none⟩ (.int .u64 y1)).setCell ⟨v2.heap.size, 1, none⟩ (.int .u64 y0)) = v6 at *
          (try simp only [Act.put, List.setIfInBounds_toArray, List.set_cons_zero, List.set_cons_succ])
          refine wpAnyH_done (by kernel_rfl) ?_ _
          go_wp2_with fail
          go_meet
          exact ⟨_, _, rfl, rfl, ha8, ha9, hge, hge9, hB⟩
      · skip
        (try dsimp only at hH29)
        go_simp
        refine hK.out _ _ (HQ.out _ (hB.alloc hBs (.cells #[.int .u64 0, .int .u64 0] 149))) (fun hH39 => ?_)
        clear hK K
        have ha9 := heap_alloc_new v1 (.cells #[.int .u64 0, .int .u64 0] 149)
        have hb2 : Below v1.heap.size v1 (v1.alloc (.cells #[.int .u64 0, .int .u64 0] 149)) := (Below.refl _ _).alloc (Nat.le_refl _) (.cells #[.int .u64 0, .int .u64 0] 149)
        have hl9 : v1.heap.size < (v1.alloc (.cells #[.int .u64 0, .int .u64 0] 149)).heap.size := by simp
        generalize v1.alloc (.cells #[.int .u64 0, .int .u64 0] 149) = v2 at *
        have ha8 := carry ha8 hb2
        have hB := btrans hB (Nat.le_refl _) hb2
        have hz2 := hb2.size
        have hBs := hB.size
        (try simp only [Act.put, List.setIfInBounds_toArray, List.set_cons_zero, List.set_cons_succ])
        refine wpAnyH_ready (rs := [3]) (by kernel_rfl) (by simp) ?_
        refine AllReadyH.cons rfl (fun K hK => ?_) AllReadyH.nil
        (try dsimp only at hH39)
        go_simp
        refine (HP0.out _).mono ?_
        rintro e v3 ⟨rfl, hb3⟩
        refine hK.out _ _ (HQ.out _ (btrans hB (Nat.le_refl _) hb3)) (fun hH40 => ?_)
        clear hK K
        have ha8 := carry ha8 hb3
        have ha9 := carry ha9 hb3
        have hB := btrans hB (Nat.le_refl _) hb3
        have hz3 := hb3.size
        have hBs := hB.size
        (try simp only [Act.put, List.setIfInBounds_toArray, List.set_cons_zero, List.set_cons_succ])
        refine wpAnyH_ready (rs := [7]) (by kernel_rfl) (by simp) ?_
        refine AllReadyH.cons rfl (fun K hK => ?_) AllReadyH.nil
        (try dsimp only at hH40)
        go_simp
        refine (HP1.out _).mono ?_
        rintro e v4 ⟨rfl, hb4⟩
        refine hK.out _ _ (HQ.out _ (btrans hB (Nat.le_refl _) hb4)) (fun hH41 => ?_)
        clear hK K
        have ha8 := carry ha8 hb4
        have ha9 := carry ha9 hb4
        have hB := btrans hB (Nat.le_refl _) hb4
        have hz4 := hb4.size
        have hBs := hB.size
        (try simp only [Act.put, List.setIfInBounds_toArray, List.set_cons_zero, List.set_cons_succ])
        refine wpAnyH_ready (rs := [10]) (by kernel_rfl) (by simp) ?_
        refine AllReadyH.cons rfl (fun K hK => ?_) AllReadyH.nil
        (try dsimp only at hH41)
        obtain ⟨q0, q1, q2, q3⟩ := cells2 ha8
        have hne : v1.heap.size ≠ v0.heap.size := by omega
        have hge : W1.heap.size ≤ v0.heap.size := by omega
        have hge9 : W1.heap.size ≤ v1.heap.size := by omega
        go_simp
        refine hK.out _ _ (HQ.out _ (put2_below (.int .u64 x1) (.int .u64 x0) hB hge)) (fun hH42 => ?_)
        clear hK K
        have ha9 := (put2_oth (w := v4) (.int .u64 x1) (.int .u64 x0) hne).trans ha9
        have ha8 := put2_same (.int .u64 x1) (.int .u64 x0) ha8
        have hB := put2_below (.int .u64 x1) (.int .u64 x0) hB hge
        generalize ((v4.setCell ⟨v0.heap.size, 0, none⟩ (.int .u64 x1)).setCell ⟨v0.heap.size, 1, none⟩ (.int .u64 x0)) = v5 at *
        (try simp only [Act.put, List.setIfInBounds_toArray, List.set_cons_zero, List.set_cons_succ])
        refine wpAnyH_ready (rs := [11]) (by kernel_rfl) (by simp) ?_
        refine AllReadyH.cons rfl (fun K hK => ?_) AllReadyH.nil
        (try dsimp only at hH42)
        clear q0 q1 q2 q3
        obtain ⟨q0, q1, q2, q3⟩ := cells2 ha9
        go_simp
        refine hK.out _ _ (HQ.out _ (put2_below (.int .u64 y1) (.int .u64 y0) hB hge9)) (fun hH43 => ?_)
        clear hK K
        have ha8 := (put2_oth (w := v5) (.int .u64 y1) (.int .u64 y0) (Ne.symm hne)).trans ha8
        have ha9 := put2_same (.int .u64 y1) (.int .u64 y0) ha9
        have hB := put2_below (.int .u64 y1) (.int .u64 y0) hB hge9
        generalize ((v5.setCell ⟨v1.heap.size, 0, none⟩ (.int .u64 y1)).setCell ⟨v1.heap.size, 1, none⟩ (.int .u64 y0)) = v6 at *
        (try simp only [Act.put, List.setIfInBounds_toArray, List.set_cons_zero, List.set_cons_succ])
        refine wpAnyH_done (by kernel_rfl) ?_ _
        go_wp2_with fail
        go_meet
        exact ⟨_, _, rfl, rfl, ha8, ha9, hge, hge9, hB⟩
    · skip
      (try dsimp only at hH)
      go_simp
      refine hK.out _ _ (HQ.out _ (hB.alloc hBs (.cells #[.int .u64 0, .int .u64 0] 149))) (fun hH44 => ?_)
      clear hK K
      have ha9 := heap_alloc_new v0 (.cells #[.int .u64 0, .int .u64 0] 149)
      have hb1 : Below v0.heap.size v0 (v0.alloc (.cells #[.int .u64 0, .int .u64 0] 149)) := (Below.refl _ _).alloc (Nat.le_refl _) (.cells #[.int .u64 0, .int .u64 0] 149)
      have hl9 : v0.heap.size < (v0.alloc (.cells #[.int .u64 0, .int .u64 0] 149)).heap.size := by simp
      generalize v0.alloc (.cells #[.int .u64 0, .int .u64 0] 149) = v1 at *
      have hB := btrans hB (Nat.le_refl _) hb1
      have hz1 := hb1.size
      have hBs := hB.size
      (try simp only [Act.put, List.setIfInBounds_toArray, List.set_cons_zero, List.set_cons_succ])
      refine wpAnyH_ready (rs := [3, 8]) (by kernel_rfl) (by simp) ?_
      refine AllReadyH.cons rfl (fun K hK => ?_) (AllReadyH.cons rfl (fun K hK => ?_) AllReadyH.nil)
      · skip
        (try dsimp only at hH44)
        go_simp
        refine (HP0.out _).mono ?_
        rintro e v2 ⟨rfl, hb2⟩
        refine hK.out _ _ (HQ.out _ (btrans hB (Nat.le_refl _) hb2)) (fun hH45 => ?_)
        clear hK K
        have ha9 := carry ha9 hb2
        have hB := btrans hB (Nat.le_refl _) hb2
        have hz2 := hb2.size
        have hBs := hB.size
        (try simp only [Act.put, List.setIfInBounds_toArray, List.set_cons_zero, List.set_cons_succ])
        refine wpAnyH_ready (rs := [7, 8]) (by kernel_rfl) (by simp) ?_
        refine AllReadyH.cons rfl (fun K hK => ?_) (AllReadyH.cons rfl (fun K hK => ?_) AllReadyH.nil)
        · skip
          (try dsimp only at hH45)
          go_simp
          refine (HP1.out _).mono ?_
          rintro e v3 ⟨rfl, hb3⟩
          refine hK.out _ _ (HQ.out _ (btrans hB (Nat.le_refl _) hb3)) (fun hH46 => ?_)
          clear hK K
          have ha9 := carry ha9 hb3
          have hB := btrans hB (Nat.le_refl _) hb3
          have hz3 := hb3.size
          have hBs := hB.size
          (try simp only [Act.put, List.setIfInBounds_toArray, List.set_cons_zero, List.set_cons_succ])
          refine wpAnyH_ready (rs := [8]) (by kernel_rfl) (by simp) ?_
          refine AllReadyH.cons rfl (fun K hK => ?_) AllReadyH.nil
          (try dsimp only at hH46)
          go_simp
          refine hK.out _ _ (HQ.out _ (hB.alloc hBs (.cells #[.int .u64 0, .int .u64 0] 149))) (fun hH47 => ?_)
          clear hK K
          have ha8 := heap_alloc_new v3 (.cells #[.int .u64 0, .int .u64 0] 149)
          have hb4 : Below v3.heap.size v3 (v3.alloc (.cells #[.int .u64 0, .int .u64 0] 149)) := (Below.refl _ _).alloc (Nat.le_refl _) (.cells #[.int .u64 0, .int .u64 0] 149)
          have hl8 : v3.heap.size < (v3.alloc (.cells #[.int .u64 0, .int .u64 0] 149)).heap.size := by simp
          generalize v3.alloc (.cells #[.int .u64 0, .int .u64 0] 149) = v4 at *
          have ha9 := carry ha9 hb4
          have hB := btrans hB (Nat.le_refl _) hb4
          have hz4 := hb4.size
          have hBs := hB.size
          (try simp only [Act.put, List.setIfInBounds_toArray, List.set_cons_zero, List.set_cons_succ])
          refine wpAnyH_ready (rs := [10]) (by kernel_rfl) (by simp) ?_
          refine AllReadyH.cons rfl (fun K hK => ?_) AllReadyH.nil
          (try dsimp only at hH47)
          obtain ⟨q0, q1, q2, q3⟩ := cells2 ha8
          have hne : v0.heap.size ≠ v3.heap.size := by omega
          have hge : W1.heap.size ≤ v3.heap.size := by omega
          have hge9 : W1.heap.size ≤ v0.heap.size := by omega
          go_simp
          refine hK.out _ _ (HQ.out _ (put2_below (.int .u64 x1) (.int .u64 x0) hB hge)) (fun hH48 => ?_)
          clear hK K
          have ha9 := (put2_oth (w := v4) (.int .u64 x1) (.int .u64 x0) hne).trans ha9
          have ha8 := put2_same (.int .u64 x1) (.int .u64 x0) ha8
          have hB := put2_below (.int .u64 x1) (.int .u64 x0) hB hge
          generalize ((v4.setCell ⟨v3.heap.size, 0, none⟩ (.int .u64 x1)).setCell ⟨v3.heap.size, 1, none⟩ (.int .u64 x0)) = v5 at *
          (try simp only [Act.put, List.setIfInBounds_toArray, List.set_cons_zero, List.set_cons_succ])
          refine wpAnyH_ready (rs := [11]) (by kernel_rfl) (by simp) ?_
          refine AllReadyH.cons rfl (fun K hK => ?_) AllReadyH.nil
          (try dsimp only at hH48)
          clear q0 q1 q2 q3
          obtain ⟨q0, q1, q2, q3⟩ := cells2 ha9
          go_simp
          refine hK.out _ _ (HQ.out _ (put2_below (.int .u64 y1) (.int .u64 y0) hB hge9)) (fun hH49 => ?_)
          clear hK K
          have ha8 := (put2_oth (w := v5) (.int .u64 y1) (.int .u64 y0) (Ne.symm hne)).trans ha8
          have ha9 := put2_same (.int .u64 y1) (.int .u64 y0) ha9
          have hB := put2_below (.int .u64 y1) (.int .u64 y0) hB hge9
          generalize ((v5.setCell ⟨v0.heap.size, 0, none⟩ (.int .u64 y1)).setCell ⟨v0.heap.size, 1, none⟩ (.int .u64 y0)) = v6 at *
          (try simp only [Act.put, List.setIfInBounds_toArray, List.set_cons_zero, List.set_cons_succ])
          refine wpAnyH_done (by kernel_rfl) ?_ _
          go_wp2_with fail
          go_meet
          exact ⟨_, _, rfl, rfl, ha8, ha9, hge, hge9, hB⟩
        · skip
          (try dsimp only at hH45)
          go_simp
          refine hK.out _ _ (HQ.out _ (hB.alloc hBs (.cells #[.int .u64 0, .int .u64 0] 149))) (fun hH50 => ?_)
          clear hK K
          have ha8 := heap_alloc_new v2 (.cells #[.int .u64 0, .int .u64 0] 149)
          have hb3 : Below v2.heap.size v2 (v2.alloc (.cells #[.int .u64 0, .int .u64 0] 149)) := (Below.refl _ _).alloc (Nat.le_refl _) (.cells #[.int .u64 0, .int .u64 0] 149)
          have hl8 : v2.heap.size < (v2.alloc (.cells #[.int .u64 0, .int .u64 0] 149)).heap.size := by simp
          generalize v2.alloc (.cells #[.int .u64 0, .int .u64 0] 149) = v3 at *
          have ha9 := carry ha9 hb3
          have hB := btrans hB (Nat.le_refl _) hb3
          have hz3 := hb3.size
          have hBs := hB.size
          (try simp only [Act.put, List.setIfInBounds_toArray, List.set_cons_zero, List.set_cons_succ])
          refine wpAnyH_ready (rs := [7]) (by kernel_rfl) (by simp) ?_
          refine AllReadyH.cons rfl (fun K hK => ?_) AllReadyH.nil
          (try dsimp only at hH50)
          go_simp
          refine (HP1.out _).mono ?_
          rintro e v4 ⟨rfl, hb4⟩
          refine hK.out _ _ (HQ.out _ (btrans hB (Nat.le_refl _) hb4)) (fun hH51 => ?_)
          clear hK K
          have ha9 := carry ha9 hb4
          have ha8 := carry ha8 hb4
          have hB := btrans hB (Nat.le_refl _) hb4
          have hz4 := hb4.size
          have hBs := hB.size
          (try simp only [Act.put, List.setIfInBounds_toArray, List.set_cons_zero, List.set_cons_succ])
          refine wpAnyH_ready (rs := [10]) (by kernel_rfl) (by simp) ?_
          refine AllReadyH.cons rfl (fun K hK => ?_) AllReadyH.nil
          (try dsimp only at hH51)
          obtain ⟨q0, q1, q2, q3⟩ := cells2 ha8
          have hne : v0.heap.size ≠ v2.heap.size := by omega
          have hge : W1.heap.size ≤ v2.heap.size := by omega
          have hge9 : W1.heap.size ≤ v0.heap.size := by omega
          go_simp
          refine hK.out _ _ (HQ.out _ (put2_below (.int .u64 x1) (.int .u64 x0) hB hge)) (fun hH52 => ?_)
          clear hK K
          have ha9 := (put2_oth (w := v4) (.int .u64 x1) (.int .u64 x0) hne).trans ha9
          have ha8 := put2_same (.int .u64 x1) (.int .u64 x0) ha8
          have hB := put2_below (.int .u64 x1) (.int .u64 x0) hB hge
          generalize ((v4.setCell ⟨v2.heap.size, 0, none⟩ (.int .u64 x1)).setCell ⟨v2.heap.size, 1, none⟩ (.int .u64 x0)) = v5 at *
          (try simp only [Act.put, List.setIfInBounds_toArray, List.set_cons_zero, List.set_cons_succ])
          refine wpAnyH_ready (rs := [11]) (by kernel_rfl) (by simp) ?_
          refine AllReadyH.cons rfl (fun K hK => ?_) AllReadyH.nil
          (try dsimp only at hH52)
          clear q0 q1 q2 q3
          obtain ⟨q0, q1, q2, q3⟩ := cells2 ha9
          go_simp
          refine hK.out _ _ (HQ.out _ (put2_below (.int .u64 y1) (.int .u64 y0) hB hge9)) (fun hH53 => ?_)
          clear hK K
          have ha8 := (put2_oth (w := v5) (.int .u64 y1) (.int .u64 y0) (Ne.symm hne)).trans ha8
          have ha9 := put2_same (.int .u64 y1) (.int .u64 y0) ha9
          have hB := put2_below (.int .u64 y1) (.int .u64 y0) hB hge9
          generalize ((v5.setCell ⟨v0.heap.size, 0, none⟩ (.int .u64 y1)).setCell ⟨v0.heap.size, 1, none⟩ (.int .u64 y0)) = v6 at *
          (try simp only [Act.put, List.setIfInBounds_toArray, List.set_cons_zero, List.set_cons_succ])
          refine wpAnyH_done (by kernel_rfl) ?_ _
          go_wp2_with fail
          go_meet
          exact ⟨_, _, rfl, rfl, ha8, ha9, hge, hge9, hB⟩
      · skip
        (try dsimp only at hH44)
        go_simp
        refine hK.out _ _ (HQ.out _ (hB.alloc hBs (.cells #[.int .u64 0, .int .u64 0] 149))) (fun hH54 => ?_)
        clear hK K
        have ha8 := heap_alloc_new v1 (.cells #[.int .u64 0, .int .u64 0] 149)
        have hb2 : Below v1.heap.size v1 (v1.alloc (.cells #[.int .u64 0, .int .u64 0] 149)) := (Below.refl _ _).alloc (Nat.le_refl _) (.cells #[.int .u64 0, .int .u64 0] 149)
        have hl8 : v1.heap.size < (v1.alloc (.cells #[.int .u64 0, .int .u64 0] 149)).heap.size := by simp
        generalize v1.alloc (.cells #[.int .u64 0, .int .u64 0] 149) = v2 at *
        have ha9 := carry ha9 hb2
        have hB := btrans hB (Nat.le_refl _) hb2
        have hz2 := hb2.size
        have hBs := hB.size
        (try simp only [Act.put, List.setIfInBounds_toArray, List.set_cons_zero, List.set_cons_succ])
        refine wpAnyH_ready (rs := [3]) (by kernel_rfl) (by simp) ?_
        refine AllReadyH.cons rfl (fun K hK => ?_) AllReadyH.nil
        (try dsimp only at hH54)
        go_simp
        refine (HP0.out _).mono ?_
        rintro e v3 ⟨rfl, hb3⟩
        refine hK.out _ _ (HQ.out _ (btrans hB (Nat.le_refl _) hb3)) (fun hH55 => ?_)
        clear hK K
        have ha9 := carry ha9 hb3
        have ha8 := carry ha8 hb3
        have hB := btrans hB (Nat.le_refl _) hb3
        have hz3 := hb3.size
        have hBs := hB.size
        (try simp only [Act.put, List.setIfInBounds_toArray, List.set_cons_zero, List.set_cons_succ])
        refine wpAnyH_ready (rs := [7]) (by kernel_rfl) (by simp) ?_
        refine AllReadyH.cons rfl (fun K hK => ?_) AllReadyH.nil
        (try dsimp only at hH55)
        go_simp
        refine (HP1.out _).mono ?_
        rintro e v4 ⟨rfl, hb4⟩
        refine hK.out _ _ (HQ.out _ (btrans hB (Nat.le_refl _) hb4)) (fun hH56 => ?_)
        clear hK K
        have ha9 := carry ha9 hb4
        have ha8 := carry ha8 hb4
        have hB := btrans hB (Nat.le_refl _) hb4
        have hz4 := hb4.size
        have hBs := hB.size
        (try simp only [Act.put, List.setIfInBounds_toArray, List.set_cons_zero, List.set_cons_succ])
        refine wpAnyH_ready (rs := [10]) (by kernel_rfl) (by simp) ?_
        refine AllReadyH.cons rfl (fun K hK => ?_) AllReadyH.nil
        (try dsimp only at hH56)
        obtain ⟨q0, q1, q2, q3⟩ := cells2 ha8
        have hne : v0.heap.size ≠ v1.heap.size := by omega
        have hge : W1.heap.size ≤ v1.heap.size := by omega
        have hge9 : W1.heap.size ≤ v0.heap.size := by omega
        go_simp
        refine hK.out _ _ (HQ.out _ (put2_below (.int .u64 x1) (.int .u64 x0) hB hge)) (fun hH57 => ?_)
        clear hK K
        have ha9 := (put2_oth (w := v4) (.int .u64 x1) (.int .u64 x0) hne).trans ha9
        have ha8 := put2_same (.int .u64 x1) (.int .u64 x0) ha8
        have hB := put2_below (.int .u64 x1) (.int .u64 x0) hB hge
        generalize ((v4.setCell ⟨v1.heap.size, 0, none⟩ (.int .u64 x1)).setCell ⟨v1.heap.size, 1, none⟩ (.int .u64 x0)) = v5 at *
        (try simp only [Act.put, List.setIfInBounds_toArray, List.set_cons_zero, List.set_cons_succ])
        refine wpAnyH_ready (rs := [11]) (by kernel_rfl) (by simp) ?_
        refine AllReadyH.cons rfl (fun K hK => ?_) AllReadyH.nil
        (try dsimp only at hH57)
        clear q0 q1 q2 q3
        obtain ⟨q0, q1, q2, q3⟩ := cells2 ha9
        go_simp
        refine hK.out _ _ (HQ.out _ (put2_below (.int .u64 y1) (.int .u64 y0) hB hge9)) (fun hH58 => ?_)
        clear hK K
        have ha8 := (put2_oth (w := v5) (.int .u64 y1) (.int .u64 y0) (Ne.symm hne)).trans ha8
        have ha9 := put2_same (.int .u64 y1) (.int .u64 y0) ha9
        have hB := put2_below (.int .u64 y1) (.int .u64 y0) hB hge9
        generalize ((v5.setCell ⟨v0.heap.size, 0, none⟩ (.int .u64 y1)).setCell ⟨v0.heap.size, 1, none⟩ (.int .u64 y0)) = v6 at *
        (try simp only [Act.put, List.setIfInBounds_toArray, List.set_cons_zero, List.set_cons_succ])
        refine wpAnyH_done (by kernel_rfl) ?_ _
        go_wp2_with fail
        go_meet
        exact ⟨_, _, rfl, rfl, ha8, ha9, hge, hge9, hB⟩
end Go.Proofs.YtolnhicngepnnaaGreat
