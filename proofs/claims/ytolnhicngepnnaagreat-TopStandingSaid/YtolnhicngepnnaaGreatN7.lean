/- skip.Value of a game that is over. -/
import Derived.Test.YtolnhicngepnnaaGreatN6
import Derived.BigRegion
namespace Go.Proofs.YtolnhicngepnnaaGreat
open Go.RowKit

set_option maxRecDepth 100000 in
set_option maxHeartbeats 2000000 in
theorem right36_ok (d : Int) (v0 v1 : Value) (l0 l1 : List (List Int)) (e l h : Int) (w : World) (h0 : SlR w v0 l0) (h1 : SlR w v1 l1) (he : 0 ≤ e ∧ e ≤ 12) (hl : -96 ≤ l ∧ l ≤ 96) (hh : h = 0 ∨ h = 1) : Calls Tryz.prog 36 #[.agg #[.int .i64 d, v0, v1], stV e l h] w fun o w' => RetB o ∧ Below w.heap.size w w' := by
  have HC := hid (fun W hb => checkRivals_any d v0 v1 l0 l1 W (h0.below hb) (h1.below hb))
  have HS := hid (fun W => checkState_ok e l h he hl hh W)
  obtain ⟨a0, c0, rfl, -, -⟩ := h0.open
  obtain ⟨a1, c1, rfl, -, -⟩ := h1.open
  clear he hl hh h0 h1
  obtain ⟨W1, hW1⟩ : ∃ W1, (w.alloc (.cells #[.int .i64 d, .slice a0 l0.length c0, .slice a1 l1.length c1] 49)).alloc (.cells #[.int .i64 e, .int .i64 l, .int .i64 h] 52) = W1 := ⟨_, rfl⟩
  have hz : W1.heap.size = w.heap.size + 2 := by rw [← hW1]; simp
  have hb1 : Below w.heap.size w W1 := by rw [← hW1]; exact ((Below.refl _ w).alloc (Nat.le_refl _) _).alloc (by simp) _
  have p1 : W1.heap[w.heap.size + 1]? = some (.cells #[.int .i64 e, .int .i64 l, .int .i64 h] 52 (0, 0)) := by
    rw [← hW1]
    simpa using heap_alloc_new (w.alloc (.cells #[.int .i64 d, .slice a0 l0.length c0, .slice a1 l1.length c1] 49)) (.cells #[.int .i64 e, .int .i64 l, .int .i64 h] 52)
  have HP := hid (show ∀ U, Below W1.heap.size W1 U → U.cell? ⟨w.heap.size + 1, 0, none⟩ = some (.int .i64 e) ∧ U.cell? ⟨w.heap.size + 1, 1, none⟩ = some (.int .i64 l) ∧ U.cell? ⟨w.heap.size + 1, 2, none⟩ = some (.int .i64 h) from fun U hb => by
    have h0 := (hb.block _ (by omega)).trans p1
    exact ⟨by simp [World.cell?, h0], by simp [World.cell?, h0], by simp [World.cell?, h0]⟩)
  have HB := hid hb1
  have HW := hid hW1
  clear hb1 hW1 p1
  go_enter Tryz.func36, Tryz.ntmps36
  go_wp2_with fail
  rw [HW.out]
  refine (HC.out _ HB.out).mono ?_
  rintro o w2 ⟨ho, hb2⟩
  obtain ⟨q0, q1, q2⟩ := HP.out _ hb2
  have HB2 := hid (btrans HB.out (by omega) hb2)
  clear hb2
  rcases ho with rfl | rfl
  · go_wp2_with fail
    refine (HS.out _).mono ?_
    rintro o w3 ⟨rfl, hb3⟩
    go_wp2_with fail
    go_ret
    exact ⟨RetB.of _, HB2.out.trans (hb3.mono HB2.out.size)⟩
  · go_wp2_with fail
    go_ret
    exact ⟨RetB.of _, HB2.out⟩
set_option maxRecDepth 100000 in
set_option maxHeartbeats 4000000 in
theorem value15_over (d : Int) (v0 v1 : Value) (l0 l1 : List (List Int)) (l h : Int) (w : World) (h0 : SlR w v0 l0) (h1 : SlR w v1 l1) (hl : -96 ≤ l ∧ l ≤ 96) (hl0 : l ≠ 0) (hh : h = 0 ∨ h = 1) :
    Calls Tryz.prog 15 #[.agg #[.int .i64 d, v0, v1], stV 0 l h] w fun o w' => (o = .returned (.tuple #[.agg #[.int .i64 0, .int .i64 0], .int .i64 2]) ∨ o = .returned (.tuple #[sureV (decide (0 < l)), .int .i64 0])) ∧ Below w.heap.size w w' := by
  have HR := hid (fun W hb => right36_ok d v0 v1 l0 l1 0 l h W (h0.below hb) (h1.below hb) (by omega) hl hh)
  have HH := hid (fun x y W => hope73_over l h hl0 x y W)
  have HK := hid (fun W => reckon37_any d v0 v1 (by obtain ⟨a, c, rfl, -, -⟩ := h0.open; exact ⟨_, _, _, rfl⟩) (by obtain ⟨a, c, rfl, -, -⟩ := h1.open; exact ⟨_, _, _, rfl⟩) W)
  obtain ⟨z, hz'⟩ : ∃ z : Int, (if 0 < l then 65536 else 0) = z := ⟨_, rfl⟩
  have HS := hid (show sureV (decide (0 < l)) = .agg #[.int .i64 z, .int .i64 z] by rw [← hz']; unfold sureV; by_cases h : 0 < l <;> simp [h])
  rw [HS.out] at HH ⊢
  obtain ⟨a0, c0, rfl, -, -⟩ := h0.open
  obtain ⟨a1, c1, rfl, -, -⟩ := h1.open
  clear hl hh h0 h1 HS hz'
  obtain ⟨W1, hW1⟩ : ∃ W1, ((w.alloc (.cells #[.int .i64 d, .slice a0 l0.length c0, .slice a1 l1.length c1] 49)).alloc (.cells #[.int .i64 0, .int .i64 l, .int .i64 h] 52)).alloc (.cells #[.int .i64 0, .int .i64 0] 64) = W1 := ⟨_, rfl⟩
  have hz : W1.heap.size = w.heap.size + 3 := by rw [← hW1]; simp
  have hb1 : Below w.heap.size w W1 := by rw [← hW1]; exact (((Below.refl _ w).alloc (Nat.le_refl _) _).alloc (by simp) _).alloc (by simp <;> omega) _
  have p0 : W1.heap[w.heap.size]? = some (.cells #[.int .i64 d, .slice a0 l0.length c0, .slice a1 l1.length c1] 49 (0, 0)) := by
    rw [← hW1, Below.heap_alloc _ _ _ (by simp <;> omega), Below.heap_alloc _ _ _ (by simp)]; exact heap_alloc_new w _
  have p1 : W1.heap[w.heap.size + 1]? = some (.cells #[.int .i64 0, .int .i64 l, .int .i64 h] 52 (0, 0)) := by
    rw [← hW1, Below.heap_alloc _ _ _ (by simp)]
    simpa using heap_alloc_new (w.alloc (.cells #[.int .i64 d, .slice a0 l0.length c0, .slice a1 l1.length c1] 49)) (.cells #[.int .i64 0, .int .i64 l, .int .i64 h] 52)
  have p2 : W1.heap[w.heap.size + 1 + 1]? = some (.cells #[.int .i64 0, .int .i64 0] 64 (0, 0)) := by
    rw [← hW1]
    simpa using heap_alloc_new ((w.alloc (.cells #[.int .i64 d, .slice a0 l0.length c0, .slice a1 l1.length c1] 49)).alloc (.cells #[.int .i64 0, .int .i64 l, .int .i64 h] 52)) (.cells #[.int .i64 0, .int .i64 0] 64)
  have HP := hid (show ∀ U, Below W1.heap.size W1 U → (U.cell? ⟨w.heap.size, 0, none⟩ = some (.int .i64 d) ∧ U.cell? ⟨w.heap.size, 1, none⟩ = some (.slice a0 l0.length c0) ∧ U.cell? ⟨w.heap.size, 2, none⟩ = some (.slice a1 l1.length c1)) ∧ (U.cell? ⟨w.heap.size + 1, 0, none⟩ = some (.int .i64 0) ∧ U.cell? ⟨w.heap.size + 1, 1, none⟩ = some (.int .i64 l) ∧ U.cell? ⟨w.heap.size + 1, 2, none⟩ = some (.int .i64 h)) ∧ U.heap[w.heap.size + 1 + 1]? = some (.cells #[.int .i64 0, .int .i64 0] 64 (0, 0)) from fun U hb => by
    have h0 := (hb.block _ (by omega)).trans p0
    have h1 := (hb.block _ (by omega)).trans p1
    exact ⟨⟨by simp [World.cell?, h0], by simp [World.cell?, h0], by simp [World.cell?, h0]⟩, ⟨by simp [World.cell?, h1], by simp [World.cell?, h1], by simp [World.cell?, h1]⟩, (hb.block _ (by omega)).trans p2⟩)
  have HB := hid hb1
  have HW := hid hW1
  clear hb1 hW1 p0 p1 p2
  go_enter Tryz.func15, Tryz.ntmps15
  go_wp2_with fail
  rw [HW.out]
  refine (HR.out _ HB.out).mono ?_
  rintro o w2 ⟨ho, hb2⟩
  have HB2 := hid hb2
  have HBW2 := hid (btrans HB.out (by omega) hb2)
  obtain ⟨⟨c0', c1', c2'⟩, ⟨d0, d1, d2⟩, hbl⟩ := HP.out _ hb2
  clear hb2 HR HW
  have HBL := hid hbl
  rcases ho with rfl | rfl
  · clear hbl
    have HQ := hid (show ∀ W, Below w2.heap.size w2 W → (W.cell? ⟨w.heap.size, 0, none⟩ = some (.int .i64 d) ∧ W.cell? ⟨w.heap.size, 1, none⟩ = some (.slice a0 l0.length c0) ∧ W.cell? ⟨w.heap.size, 2, none⟩ = some (.slice a1 l1.length c1)) ∧ (W.cell? ⟨w.heap.size + 1, 0, none⟩ = some (.int .i64 0) ∧ W.cell? ⟨w.heap.size + 1, 1, none⟩ = some (.int .i64 l) ∧ W.cell? ⟨w.heap.size + 1, 2, none⟩ = some (.int .i64 h)) ∧ ∃ u v, W.heap[w.heap.size + 1 + 1]? = some (.cells #[u, v] 64 (0, 0)) from fun W hb => by
      obtain ⟨h1, h2, h3⟩ := HP.out W (HB2.out.trans (hb.mono HB2.out.size))
      exact ⟨h1, h2, _, _, h3⟩)
    have HQS := hid (show ∀ (U : World) (u v : Value), ((U.cell? ⟨w.heap.size, 0, none⟩ = some (.int .i64 d) ∧ U.cell? ⟨w.heap.size, 1, none⟩ = some (.slice a0 l0.length c0) ∧ U.cell? ⟨w.heap.size, 2, none⟩ = some (.slice a1 l1.length c1)) ∧ (U.cell? ⟨w.heap.size + 1, 0, none⟩ = some (.int .i64 0) ∧ U.cell? ⟨w.heap.size + 1, 1, none⟩ = some (.int .i64 l) ∧ U.cell? ⟨w.heap.size + 1, 2, none⟩ = some (.int .i64 h)) ∧ ∃ u v, U.heap[w.heap.size + 1 + 1]? = some (.cells #[u, v] 64 (0, 0))) → (((U.setCell ⟨w.heap.size + 1 + 1, 0, none⟩ u).setCell ⟨w.heap.size + 1 + 1, 1, none⟩ v).cell? ⟨w.heap.size, 0, none⟩ = some (.int .i64 d) ∧ ((U.setCell ⟨w.heap.size + 1 + 1, 0, none⟩ u).setCell ⟨w.heap.size + 1 + 1, 1, none⟩ v).cell? ⟨w.heap.size, 1, none⟩ = some (.slice a0 l0.length c0) ∧ ((U.setCell ⟨w.heap.size + 1 + 1, 0, none⟩ u).setCell ⟨w.heap.size + 1 + 1, 1, none⟩ v).cell? ⟨w.heap.size, 2, none⟩ = some (.slice a1 l1.length c1)) ∧ (((U.setCell ⟨w.heap.size + 1 + 1, 0, none⟩ u).setCell ⟨w.heap.size + 1 + 1, 1, none⟩ v).cell? ⟨w.heap.size + 1, 0, none⟩ = some (.int .i64 0) ∧ ((U.setCell ⟨w.heap.size + 1 + 1, 0, none⟩ u).setCell ⟨w.heap.size + 1 + 1, 1, none⟩ v).cell? ⟨w.heap.size + 1, 1, none⟩ = some (.int .i64 l) ∧ ((U.setCell ⟨w.heap.size + 1 + 1, 0, none⟩ u).setCell ⟨w.heap.size + 1 + 1, 1, none⟩ v).cell? ⟨w.heap.size + 1, 2, none⟩ = some (.int .i64 h)) ∧ ∃ u' v', ((U.setCell ⟨w.heap.size + 1 + 1, 0, none⟩ u).setCell ⟨w.heap.size + 1 + 1, 1, none⟩ v).heap[w.heap.size + 1 + 1]? = some (.cells #[u', v'] 64 (0, 0)) from fun U u v ⟨⟨g0, g1, g2⟩, ⟨g3, g4, g5⟩, _, _, g6⟩ => ⟨⟨(put2_other u v (by omega)).trans g0, (put2_other u v (by omega)).trans g1, (put2_other u v (by omega)).trans g2⟩, ⟨(put2_other u v (by omega)).trans g3, (put2_other u v (by omega)).trans g4, (put2_other u v (by omega)).trans g5⟩, _, _, put2_same u v g6⟩)
    clear HP HBL c0' c1' c2' d0 d1 d2
    go_upto_region 3 with fail
    refine wp_region_held_drew (S := (fun W => (W.cell? ⟨w.heap.size, 0, none⟩ = some (.int .i64 d) ∧ W.cell? ⟨w.heap.size, 1, none⟩ = some (.slice a0 l0.length c0) ∧ W.cell? ⟨w.heap.size, 2, none⟩ = some (.slice a1 l1.length c1)) ∧ (W.cell? ⟨w.heap.size + 1, 0, none⟩ = some (.int .i64 0) ∧ W.cell? ⟨w.heap.size + 1, 1, none⟩ = some (.int .i64 l) ∧ W.cell? ⟨w.heap.size + 1, 2, none⟩ = some (.int .i64 h)) ∧ ∃ u v, W.heap[w.heap.size + 1 + 1]? = some (.cells #[u, v] 64 (0, 0)))) (by kernel_rfl) (HQ.out _ ((Below.refl _ _).drew)) (fun hH => ?_)
    refine wpAnyH_take (i := 0) (oi := { dst := some 11, op := Go.Op.load 49 (Go.Operand.tmp 2), type := 49, pos := "skip.go:168", after := #[], guard := none }) (v := (.agg #[.int .i64 d, .slice a0 l0.length c0, .slice a1 l1.length c1])) rfl (by kernel_rfl) (by kernel_rfl) (by kernel_rfl) (fun _ _ _ h => h) (Or.inl ⟨by rfl, ?_⟩) hH ?_
    · intro w hSw
      (try dsimp only at hSw)
      go_simp
    (try simp only [Act.put, List.setIfInBounds_toArray, List.set_cons_zero, List.set_cons_succ])
    refine wpAnyH_take (i := 5) (oi := { dst := some 16, op := Go.Op.load 52 (Go.Operand.tmp 3), type := 52, pos := "skip.go:168", after := #[], guard := none }) (v := (stV 0 l h)) rfl (by kernel_rfl) (by kernel_rfl) (by kernel_rfl) (fun _ _ _ h => h) (Or.inl ⟨by rfl, ?_⟩) hH ?_
    · intro w hSw
      (try dsimp only at hSw)
      go_simp
    (try simp only [Act.put, List.setIfInBounds_toArray, List.set_cons_zero, List.set_cons_succ])
    refine wpAnyH_ready (rs := [1]) (by kernel_rfl) (by simp) ?_
    refine AllReadyH.cons rfl (fun K hK => ?_) AllReadyH.nil
    (try dsimp only at hH)
    go_simp
    refine (HK.out _).mono ?_
    rintro o w3 ⟨⟨B, rfl, hBl, x, y, hxy⟩, hb1⟩
    refine hK.out _ _ (HQ.out _ (btrans ((Below.refl _ _).drew) (Nat.le_refl _) hb1)) (fun hH1 => ?_)
    clear hK K
    (try simp only [Act.put, List.setIfInBounds_toArray, List.set_cons_zero, List.set_cons_succ])
    refine wpAnyH_take (i := 2) (oi := { dst := some 13, op := Go.Op.nilCheck (Go.Operand.tmp 12), type := 0, pos := "skip.go:168", after := #[{ on := 1, ground := Go.Ground.data }], guard := none }) (v := (.pointer (some ⟨B, 0, none⟩))) rfl (by kernel_rfl) (by kernel_rfl) (by kernel_rfl) (fun _ _ _ h => h) (Or.inl ⟨by rfl, ?_⟩) hH1 ?_
    · intro w hSw
      (try dsimp only at hSw)
      go_simp
    (try simp only [Act.put, List.setIfInBounds_toArray, List.set_cons_zero, List.set_cons_succ])
    refine wpAnyH_take (i := 3) (oi := { dst := some 14, op := Go.Op.fieldAddr 114 (Go.Operand.tmp 13) 1, type := 0, pos := "skip.go:168", after := #[{ on := 2, ground := Go.Ground.data }], guard := none }) (v := (.pointer (some ⟨B, 3, none⟩))) rfl (by kernel_rfl) (by kernel_rfl) (by kernel_rfl) (fun _ _ _ h => h) (Or.inl ⟨by rfl, ?_⟩) hH1 ?_
    · intro w hSw
      (try dsimp only at hSw)
      go_simp
    (try simp only [Act.put, List.setIfInBounds_toArray, List.set_cons_zero, List.set_cons_succ])
    refine wpAnyH_ready (rs := [4]) (by kernel_rfl) (by simp) ?_
    refine AllReadyH.cons rfl (fun K hK => ?_) AllReadyH.nil
    (try dsimp only at hH1)
    go_simp
    refine hK.out _ _ (HQ.out _ (btrans ((Below.refl _ _).drew) (Nat.le_refl _) hb1)) (fun hH2 => ?_)
    clear hK K
    (try simp only [Act.put, List.setIfInBounds_toArray, List.set_cons_zero, List.set_cons_succ])
    refine wpAnyH_ready (rs := [6]) (by kernel_rfl) (by simp) ?_
    refine AllReadyH.cons rfl (fun K hK => ?_) AllReadyH.nil
    (try dsimp only at hH2)
    go_simp
    refine (HH.out x y _).mono ?_
    rintro o w4 ⟨rfl, hb2⟩
    refine hK.out _ _ (HQ.out _ (btrans (btrans ((Below.refl _ _).drew) (Nat.le_refl _) hb1) (Nat.le_refl _) hb2)) (fun hH3 => ?_)
    clear hK K
    (try simp only [Act.put, List.setIfInBounds_toArray, List.set_cons_zero, List.set_cons_succ])
    refine wpAnyH_ready (rs := [7]) (by kernel_rfl) (by simp) ?_
    refine AllReadyH.cons rfl (fun K hK => ?_) AllReadyH.nil
    (try dsimp only at hH3)
    obtain ⟨-, -, u, v, hS3⟩ := hH3
    obtain ⟨h4, h5, h6, h7⟩ := cells2 hS3
    go_simp
    refine hK.out _ _ (HQS.out _ _ _ (HQ.out _ (btrans (btrans ((Below.refl _ _).drew) (Nat.le_refl _) hb1) (Nat.le_refl _) hb2))) (fun hH4 => ?_)
    clear hK K
    (try simp only [Act.put, List.setIfInBounds_toArray, List.set_cons_zero, List.set_cons_succ])
    refine wpAnyH_take (i := 8) (oi := { dst := some 5, op := Go.Op.assign (Go.Operand.const (Go.Value.int Go.IntKind.i64 0)), type := 33, pos := "skip.go:168", after := #[{ on := 7, ground := Go.Ground.chain }, { on := 0, ground := Go.Ground.phase }, { on := 1, ground := Go.Ground.phase }, { on := 2, ground := Go.Ground.phase }, { on := 3, ground := Go.Ground.phase }, { on := 4, ground := Go.Ground.phase }, { on := 5, ground := Go.Ground.phase }, { on := 6, ground := Go.Ground.phase }, { on := 7, ground := Go.Ground.phase }], guard := none }) (v := (.int .i64 0)) rfl (by kernel_rfl) (by kernel_rfl) (by kernel_rfl) (fun _ _ _ h => h) (Or.inl ⟨by rfl, ?_⟩) hH4 ?_
    · intro w hSw
      (try dsimp only at hSw)
      go_simp
    (try simp only [Act.put, List.setIfInBounds_toArray, List.set_cons_zero, List.set_cons_succ])
    refine wpAnyH_done (by kernel_rfl) ?_ _
    go_wp2_with fail
    have hp := put2_same (.int .i64 z) (.int .i64 z) hS3
    have hb9 := ((HBW2.out.trans ((btrans (btrans ((Below.refl _ _).drew) (Nat.le_refl _) hb1) (Nat.le_refl _) hb2).mono HBW2.out.size)).setCell (p := ⟨w.heap.size + 1 + 1, 0, none⟩) (by simp <;> omega) (.int .i64 z)).setCell (p := ⟨w.heap.size + 1 + 1, 1, none⟩) (by simp <;> omega) (.int .i64 z)
    generalize (w4.setCell ⟨w.heap.size + 1 + 1, 0, none⟩ (.int .i64 z)).setCell ⟨w.heap.size + 1 + 1, 1, none⟩ (.int .i64 z) = W9 at *
    refine bodyPost_ret (results_c2 rfl _ _ _ ⟨w.heap.size + 1 + 1, 0, none⟩ _ rfl (load64 W9 (w.heap.size + 1 + 1) (.int .i64 z) (.int .i64 z) (by simp [World.cell?, hp]) (by simp [World.cell?, hp]))) rfl ⟨.inr rfl, hb9⟩
  · obtain ⟨r0, r1, e0, e1⟩ := cells2 hbl
    clear hbl
    go_wp2_with fail
    have hp := put2_same (.int .i64 0) (.int .i64 0) HBL.out
    have hb9 := (HBW2.out.setCell (p := ⟨w.heap.size + 1 + 1, 0, none⟩) (by simp <;> omega) (.int .i64 0)).setCell (p := ⟨w.heap.size + 1 + 1, 1, none⟩) (by simp <;> omega) (.int .i64 0)
    generalize ((w2.setCell ⟨w.heap.size + 1 + 1, 0, none⟩ (.int .i64 0)).setCell ⟨w.heap.size + 1 + 1, 1, none⟩ (.int .i64 0)) = W9 at *
    refine bodyPost_ret (results_c2 rfl _ _ _ ⟨w.heap.size + 1 + 1, 0, none⟩ _ rfl (load64 W9 (w.heap.size + 1 + 1) (.int .i64 0) (.int .i64 0) (by simp [World.cell?, hp]) (by simp [World.cell?, hp]))) rfl ⟨.inl rfl, hb9⟩
end Go.Proofs.YtolnhicngepnnaaGreat
