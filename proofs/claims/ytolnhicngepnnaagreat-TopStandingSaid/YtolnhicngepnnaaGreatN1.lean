/- skip: states. -/
import Derived.Test.YtolnhicngepnnaaGreatI5
import Derived.Test.YtolnhicngepnnaaGreatN3
import Derived.BigRegion
import Derived.Laws.EntriesVeiled
namespace Go.Proofs.YtolnhicngepnnaaGreat
open Go.RowKit

theorem within34_any (n a b : Int) (w : World) : Calls Tryz.prog 34 #[.int .i64 n, .int .i64 a, .int .i64 b] w fun e w' => e = .returned (.bool (inB n a b)) ∧ w' = w := by
  go_enter Tryz.func34, Tryz.ntmps34
  go_wp2
  all_goals (go_ret; exact ⟨ret_bool (by simp [inB, *]; try omega), rfl⟩)
abbrev stV (e l h : Int) : Value := .agg #[.int .i64 e, .int .i64 l, .int .i64 h]
theorem checkState_ok (e l h : Int) (he : 0 ≤ e ∧ e ≤ 12) (hl : -96 ≤ l ∧ l ≤ 96) (hh : h = 0 ∨ h = 1) (w : World) : Calls Tryz.prog 33 #[stV e l h] w fun o w' => o = .returned (.int .i64 0) ∧ Below w.heap.size w w' := by
  have H1 := hid (fun W => within34_any e 0 12 W)
  have H2 := hid (fun W => within34_any l (-96) 96 W)
  have H3 := hid (fun W => within34_any h 0 1 W)
  rw [show inB e 0 12 = true by simp [inB]; omega] at H1
  rw [show inB l (-96) 96 = true by simp [inB]; omega] at H2
  rw [show inB h 0 1 = true by simp [inB]; omega] at H3
  have HB := hid ((Below.refl w.heap.size w).alloc (Nat.le_refl _) (.cells #[.int .i64 e, .int .i64 l, .int .i64 h] 52))
  clear he hl hh
  go_enter Tryz.func33, Tryz.ntmps33
  go_wp2_with fail
  refine (H1.out _).mono ?_
  rintro e w' ⟨rfl, rfl⟩
  go_wp2_with fail
  refine (H2.out _).mono ?_
  rintro e w' ⟨rfl, rfl⟩
  go_wp2_with fail
  refine (H3.out _).mono ?_
  rintro e w' ⟨rfl, rfl⟩
  go_wp2_with fail
  go_ret
  exact ⟨rfl, HB.out⟩
theorem load52 (w : World) (b : Nat) (x y z : Value) (h0 : w.cell? ⟨b, 0, none⟩ = some x) (h1 : w.cell? ⟨b, 1, none⟩ = some y) (h2 : w.cell? ⟨b, 2, none⟩ = some z) : (loadVar 52 ⟨b, 0, none⟩).run Tryz.prog w = .ok (.agg #[x, y, z]) w := by
  simp [go_sem, h0, h1, h2]
theorem load64 (w : World) (b : Nat) (x y : Value) (h0 : w.cell? ⟨b, 0, none⟩ = some x) (h1 : w.cell? ⟨b, 1, none⟩ = some y) : (loadVar 64 ⟨b, 0, none⟩).run Tryz.prog w = .ok (.agg #[x, y]) w := by
  simp [go_sem, h0, h1]
theorem put3_same {w : World} {b : Nat} {t : TypeId} {a0 a1 a2 : Value} (u v x : Value) (h : w.heap[b]? = some (.cells #[a0, a1, a2] t (0, 0))) : (((w.setCell ⟨b, 0, none⟩ u).setCell ⟨b, 1, none⟩ v).setCell ⟨b, 2, none⟩ x).heap[b]? = some (.cells #[u, v, x] t (0, 0)) := by
  have h1 := heap_setCell_same w b 0 _ _ u h
  have h2 := heap_setCell_same _ b 1 _ _ v h1
  have h3 := heap_setCell_same _ b 2 _ _ x h2
  rw [h3]; simp
set_option maxRecDepth 100000 in
set_option maxHeartbeats 2000000 in
theorem next35_ok (e l h p : Int) (he : 0 ≤ e ∧ e ≤ 12) (hl : -96 ≤ l ∧ l ≤ 96) (hh : h = 0 ∨ h = 1) (hp : -8 ≤ p ∧ p ≤ 8) (hn : -96 ≤ leadN l h p ∧ leadN l h p ≤ 96) (w : World) :
    Calls Tryz.prog 35 #[stV e l h, .int .i64 p] w fun o w' => o = .returned (stV (e - 1) (leadN l h p) (hamN h p)) ∧ Below w.heap.size w w' := by
  have HL := hid (show leadN l h p = if h = 0 then l + p else l - p from rfl)
  have HH := hid (show hamN h p = if 0 < p then 1 - h else h from rfl)
  generalize leadN l h p = lq at *
  generalize hamN h p = hq at *
  obtain ⟨e1, e2⟩ := he
  obtain ⟨l1, l2⟩ := hl
  obtain ⟨p1, p2⟩ := hp
  obtain ⟨n1, n2⟩ := hn
  rcases hh with rfl | rfl
  · have hlq : lq = l + p := by rw [HL.out]; simp
    have hhq : hq = if 0 < p then 1 else 0 := by rw [HH.out]; rfl
    have HQ := hid hhq
    subst hlq
    clear HL hhq HH
    obtain ⟨W3, hW3⟩ : ∃ W3, ((w.alloc (.cells #[.int .i64 e, .int .i64 l, .int .i64 0] 52)).alloc (.cells #[.int .i64 0, .int .i64 0, .int .i64 0] 52)).alloc (.cells #[.int .i64 1, .int .i64 (-1)] 55) = W3 := ⟨_, rfl⟩
    have hz : W3.heap.size = w.heap.size + 3 := by rw [← hW3]; simp
    have hb3 : Below w.heap.size w W3 := by rw [← hW3]; exact (((Below.refl _ w).alloc (Nat.le_refl _) _).alloc (by simp) _).alloc (by simp <;> omega) _
    have b0 : W3.heap[w.heap.size]? = some (.cells #[.int .i64 e, .int .i64 l, .int .i64 0] 52 (0, 0)) := by
      rw [← hW3, Below.heap_alloc _ _ _ (by simp <;> omega), Below.heap_alloc _ _ _ (by simp)]; exact heap_alloc_new w _
    have b1 : W3.heap[w.heap.size + 1]? = some (.cells #[.int .i64 0, .int .i64 0, .int .i64 0] 52 (0, 0)) := by
      rw [← hW3, Below.heap_alloc _ _ _ (by simp)]
      simpa using heap_alloc_new (w.alloc (.cells #[.int .i64 e, .int .i64 l, .int .i64 0] 52)) (.cells #[.int .i64 0, .int .i64 0, .int .i64 0] 52)
    have b2 : W3.heap[w.heap.size + 1 + 1]? = some (.cells #[.int .i64 1, .int .i64 (-1)] 55 (0, 0)) := by
      rw [← hW3]
      simpa using heap_alloc_new ((w.alloc (.cells #[.int .i64 e, .int .i64 l, .int .i64 0] 52)).alloc (.cells #[.int .i64 0, .int .i64 0, .int .i64 0] 52)) (.cells #[.int .i64 1, .int .i64 (-1)] 55)
    have c0 : W3.cell? ⟨w.heap.size, 0, none⟩ = some (.int .i64 e) := by simp [World.cell?, b0]
    have c1 : W3.cell? ⟨w.heap.size, 1, none⟩ = some (.int .i64 l) := by simp [World.cell?, b0]
    have c2 : W3.cell? ⟨w.heap.size, 2, none⟩ = some (.int .i64 0) := by simp [World.cell?, b0]
    have d0 : W3.cell? ⟨w.heap.size + 1 + 1, 0, none⟩ = some (.int .i64 1) := by simp [World.cell?, b2]
    have d1 : W3.cell? ⟨w.heap.size + 1 + 1, 1, none⟩ = some (.int .i64 (-1)) := by simp [World.cell?, b2]
    have HB3 := hid hb3
    have HB1 := hid b1
    have HZ := hid hz
    have HW := hid hW3
    clear hb3 b0 b1 b2 hW3 hz
    go_enter Tryz.func35, Tryz.ntmps35
    go_upto_region 2 with fail
    rw [HW.out]
    clear HW
    go_cut [6] (fun x wx => x = .int .i64 (l + p) ∧ wx = W3.drew)
    case first =>
      go_region
      all_goals
        go_wp2_with fail
        go_meet
        exact ⟨by first | rfl | (simp; omega) | simp, rfl⟩
    case rest =>
      obtain ⟨rfl, rfl⟩ := hcut
      have g0 : W3.drew.cell? ⟨w.heap.size, 0, none⟩ = some (.int .i64 e) := c0
      have g2 : W3.drew.cell? ⟨w.heap.size, 2, none⟩ = some (.int .i64 0) := c2
      clear c0 c1 c2 d0 d1
      go_upto_region 3 with fail
      go_cut [7] (fun x wx => x = .pointer (some ⟨W3.heap.size, 0, none⟩) ∧ wx = W3.drew.alloc (.cells #[.int .i64 (e - 1), .int .i64 (l + p), .int .i64 0] 52))
      case first =>
        go_wp2_with fail
        all_goals
          go_meet
          first
          | exact ⟨rfl, rfl⟩
          | (exfalso; omega)
          | (refine ⟨rfl, ?_⟩; exact (show ∀ z : Int, z = l + p → W3.drew.alloc (.cells #[.int .i64 (e - 1), .int .i64 z, .int .i64 0] 52) = W3.drew.alloc (.cells #[.int .i64 (e - 1), .int .i64 (l + p), .int .i64 0] 52) from fun z hz => by rw [hz]) _ (by omega))
      case rest =>
        obtain ⟨rfl, rfl⟩ := hcut
        obtain ⟨W4, hW4⟩ : ∃ W4, W3.drew.alloc (.cells #[.int .i64 (e - 1), .int .i64 (l + p), .int .i64 0] 52) = W4 := ⟨_, rfl⟩
        have hn4 : W4.heap[W3.heap.size]? = some (.cells #[.int .i64 (e - 1), .int .i64 (l + p), .int .i64 0] 52 (0, 0)) := by rw [← hW4]; exact heap_alloc_new W3.drew _
        have hb4 : Below W3.heap.size W3 W4 := by rw [← hW4]; exact (Below.refl _ W3).drew.alloc (Nat.le_refl _) _
        have hs3 := HZ.out
        have hne : W3.heap.size ≠ w.heap.size + 1 := by omega
        have hne2 : w.heap.size + 1 ≠ W3.heap.size := by omega
        have h1 := (hb4.block (w.heap.size + 1) (by omega)).trans HB1.out
        have h0 := bcs hb4 (show W3.cell? ⟨w.heap.size, 2, none⟩ = some (.int .i64 0) from g2)
        have q0 : W4.cell? ⟨W3.heap.size, 0, none⟩ = some (.int .i64 (e - 1)) := by simp [World.cell?, hn4]
        have q1 : W4.cell? ⟨W3.heap.size, 1, none⟩ = some (.int .i64 (l + p)) := by simp [World.cell?, hn4]
        have q2 : W4.cell? ⟨W3.heap.size, 2, none⟩ = some (.int .i64 0) := by simp [World.cell?, hn4]
        have f2 : W4.frozen? ⟨W3.heap.size, 2, none⟩ = false := by simp [World.frozen?, hn4]
        have r0 : W4.cell? ⟨w.heap.size + 1, 0, none⟩ = some (.int .i64 0) := by simp [World.cell?, h1]
        have r1 : W4.cell? ⟨w.heap.size + 1, 1, none⟩ = some (.int .i64 0) := by simp [World.cell?, h1]
        have r2 : W4.cell? ⟨w.heap.size + 1, 2, none⟩ = some (.int .i64 0) := by simp [World.cell?, h1]
        have e0 : W4.frozen? ⟨w.heap.size + 1, 0, none⟩ = false := by simp [World.frozen?, h1]
        have e1' : W4.frozen? ⟨w.heap.size + 1, 1, none⟩ = false := by simp [World.frozen?, h1]
        have e2' : W4.frozen? ⟨w.heap.size + 1, 2, none⟩ = false := by simp [World.frozen?, h1]
        have HB4 := hid (HB3.out.trans (hb4.mono (by omega)))
        have H1 := hid h1
        have HW4 := hid hW4
        have HN4 := hid hn4
        clear hn4 hb4 h1 hW4 g0 g2 hs3
        by_cases hpp : 0 < p
        · go_upto_region 4 with fail
          rw [HW4.out]
          clear HW4
          go_upto_region 6 with fail
          obtain ⟨WX, hWX⟩ : ∃ WX, W4.setCell ⟨W3.heap.size, 2, none⟩ (.int .i64 1) = WX := ⟨_, rfl⟩
          have hblk : WX.heap[w.heap.size + 1]? = some (.cells #[.int .i64 0, .int .i64 0, .int .i64 0] 52 (0, 0)) := by rw [← hWX]; exact (heap_setCell_other W4 ⟨W3.heap.size, 2, none⟩ (w.heap.size + 1) _ hne2).trans H1.out
          have hblN : WX.heap[W3.heap.size]? = some (.cells #[.int .i64 (e - 1), .int .i64 (l + p), .int .i64 1] 52 (0, 0)) := by
            rw [← hWX]
            have := heap_setCell_same W4 W3.heap.size 2 _ _ (.int .i64 1) HN4.out
            simpa using this
          have HBX : Below w.heap.size w WX := by rw [← hWX]; exact HB4.out.setCell (p := ⟨W3.heap.size, 2, none⟩) (by have := HZ.out; simp only; omega) _
          rw [hWX]
          have HBX2 := hid HBX
          have HBL := hid hblk
          clear q0 q1 q2 f2 r0 r1 r2 e0 e1' e2' hWX HBX
          have q0 : WX.cell? ⟨W3.heap.size, 0, none⟩ = some (.int .i64 (e - 1)) := by simp [World.cell?, hblN]
          have q1 : WX.cell? ⟨W3.heap.size, 1, none⟩ = some (.int .i64 (l + p)) := by simp [World.cell?, hblN]
          have q2 : WX.cell? ⟨W3.heap.size, 2, none⟩ = some (.int .i64 1) := by simp [World.cell?, hblN]
          have r0 : WX.cell? ⟨w.heap.size + 1, 0, none⟩ = some (.int .i64 0) := by simp [World.cell?, hblk]
          have r1 : WX.cell? ⟨w.heap.size + 1, 1, none⟩ = some (.int .i64 0) := by simp [World.cell?, hblk]
          have r2 : WX.cell? ⟨w.heap.size + 1, 2, none⟩ = some (.int .i64 0) := by simp [World.cell?, hblk]
          have e0 : WX.frozen? ⟨w.heap.size + 1, 0, none⟩ = false := by simp [World.frozen?, hblk]
          have e1' : WX.frozen? ⟨w.heap.size + 1, 1, none⟩ = false := by simp [World.frozen?, hblk]
          have e2' : WX.frozen? ⟨w.heap.size + 1, 2, none⟩ = false := by simp [World.frozen?, hblk]
          clear hblk hblN
          go_wp2_with fail
          have hblk := HBL.out
          have HBX := HBX2.out
          have hp := put3_same (.int .i64 (e - 1)) (.int .i64 (l + p)) (.int .i64 1) hblk
          have hb9 := (((HBX.setCell (p := ⟨w.heap.size + 1, 0, none⟩) (by simp) (.int .i64 (e - 1))).setCell (p := ⟨w.heap.size + 1, 1, none⟩) (by simp) (.int .i64 (l + p))).setCell (p := ⟨w.heap.size + 1, 2, none⟩) (by simp) (.int .i64 1))
          generalize (((WX.setCell ⟨w.heap.size + 1, 0, none⟩ (.int .i64 (e - 1))).setCell ⟨w.heap.size + 1, 1, none⟩ (.int .i64 (l + p))).setCell ⟨w.heap.size + 1, 2, none⟩ (.int .i64 1)) = W9 at *
          refine bodyPost_ret (results_c1 rfl _ _ _ ⟨w.heap.size + 1, 0, none⟩ _ rfl (load52 W9 (w.heap.size + 1) (.int .i64 (e - 1)) (.int .i64 (l + p)) (.int .i64 1) (by simp [World.cell?, hp]) (by simp [World.cell?, hp]) (by simp [World.cell?, hp]))) rfl ⟨by rw [HQ.out]; simp [stV, hpp], hb9⟩
        · go_upto_region 4 with fail
          rw [HW4.out]
          clear HW4
          obtain ⟨WX, hWX⟩ : ∃ WX, W4 = WX := ⟨_, rfl⟩
          subst hWX
          have hblk := H1.out
          have HBX := HB4.out
          go_wp2_with fail
          have hp := put3_same (.int .i64 (e - 1)) (.int .i64 (l + p)) (.int .i64 0) hblk
          have hb9 := (((HBX.setCell (p := ⟨w.heap.size + 1, 0, none⟩) (by simp) (.int .i64 (e - 1))).setCell (p := ⟨w.heap.size + 1, 1, none⟩) (by simp) (.int .i64 (l + p))).setCell (p := ⟨w.heap.size + 1, 2, none⟩) (by simp) (.int .i64 0))
          generalize (((W4.setCell ⟨w.heap.size + 1, 0, none⟩ (.int .i64 (e - 1))).setCell ⟨w.heap.size + 1, 1, none⟩ (.int .i64 (l + p))).setCell ⟨w.heap.size + 1, 2, none⟩ (.int .i64 0)) = W9 at *
          refine bodyPost_ret (results_c1 rfl _ _ _ ⟨w.heap.size + 1, 0, none⟩ _ rfl (load52 W9 (w.heap.size + 1) (.int .i64 (e - 1)) (.int .i64 (l + p)) (.int .i64 0) (by simp [World.cell?, hp]) (by simp [World.cell?, hp]) (by simp [World.cell?, hp]))) rfl ⟨by rw [HQ.out]; simp [stV, hpp], hb9⟩
  · have hlq : lq = l - p := by rw [HL.out]; simp
    have hhq : hq = if 0 < p then 0 else 1 := by rw [HH.out]; rfl
    have HQ := hid hhq
    subst hlq
    clear HL hhq HH
    obtain ⟨W3, hW3⟩ : ∃ W3, ((w.alloc (.cells #[.int .i64 e, .int .i64 l, .int .i64 1] 52)).alloc (.cells #[.int .i64 0, .int .i64 0, .int .i64 0] 52)).alloc (.cells #[.int .i64 1, .int .i64 (-1)] 55) = W3 := ⟨_, rfl⟩
    have hz : W3.heap.size = w.heap.size + 3 := by rw [← hW3]; simp
    have hb3 : Below w.heap.size w W3 := by rw [← hW3]; exact (((Below.refl _ w).alloc (Nat.le_refl _) _).alloc (by simp) _).alloc (by simp <;> omega) _
    have b0 : W3.heap[w.heap.size]? = some (.cells #[.int .i64 e, .int .i64 l, .int .i64 1] 52 (0, 0)) := by
      rw [← hW3, Below.heap_alloc _ _ _ (by simp <;> omega), Below.heap_alloc _ _ _ (by simp)]; exact heap_alloc_new w _
    have b1 : W3.heap[w.heap.size + 1]? = some (.cells #[.int .i64 0, .int .i64 0, .int .i64 0] 52 (0, 0)) := by
      rw [← hW3, Below.heap_alloc _ _ _ (by simp)]
      simpa using heap_alloc_new (w.alloc (.cells #[.int .i64 e, .int .i64 l, .int .i64 1] 52)) (.cells #[.int .i64 0, .int .i64 0, .int .i64 0] 52)
    have b2 : W3.heap[w.heap.size + 1 + 1]? = some (.cells #[.int .i64 1, .int .i64 (-1)] 55 (0, 0)) := by
      rw [← hW3]
      simpa using heap_alloc_new ((w.alloc (.cells #[.int .i64 e, .int .i64 l, .int .i64 1] 52)).alloc (.cells #[.int .i64 0, .int .i64 0, .int .i64 0] 52)) (.cells #[.int .i64 1, .int .i64 (-1)] 55)
    have c0 : W3.cell? ⟨w.heap.size, 0, none⟩ = some (.int .i64 e) := by simp [World.cell?, b0]
    have c1 : W3.cell? ⟨w.heap.size, 1, none⟩ = some (.int .i64 l) := by simp [World.cell?, b0]
    have c2 : W3.cell? ⟨w.heap.size, 2, none⟩ = some (.int .i64 1) := by simp [World.cell?, b0]
    have d0 : W3.cell? ⟨w.heap.size + 1 + 1, 0, none⟩ = some (.int .i64 1) := by simp [World.cell?, b2]
    have d1 : W3.cell? ⟨w.heap.size + 1 + 1, 1, none⟩ = some (.int .i64 (-1)) := by simp [World.cell?, b2]
    have HB3 := hid hb3
    have HB1 := hid b1
    have HZ := hid hz
    have HW := hid hW3
    clear hb3 b0 b1 b2 hW3 hz
    go_enter Tryz.func35, Tryz.ntmps35
    go_upto_region 2 with fail
    rw [HW.out]
    clear HW
    go_cut [6] (fun x wx => x = .int .i64 (l - p) ∧ wx = W3.drew)
    case first =>
      go_region
      all_goals
        go_wp2_with fail
        go_meet
        exact ⟨by first | rfl | (simp; omega) | simp, rfl⟩
    case rest =>
      obtain ⟨rfl, rfl⟩ := hcut
      have g0 : W3.drew.cell? ⟨w.heap.size, 0, none⟩ = some (.int .i64 e) := c0
      have g2 : W3.drew.cell? ⟨w.heap.size, 2, none⟩ = some (.int .i64 1) := c2
      clear c0 c1 c2 d0 d1
      go_upto_region 3 with fail
      go_cut [7] (fun x wx => x = .pointer (some ⟨W3.heap.size, 0, none⟩) ∧ wx = W3.drew.alloc (.cells #[.int .i64 (e - 1), .int .i64 (l - p), .int .i64 1] 52))
      case first =>
        go_wp2_with fail
        all_goals
          go_meet
          first
          | exact ⟨rfl, rfl⟩
          | (exfalso; omega)
          | (refine ⟨rfl, ?_⟩; exact (show ∀ z : Int, z = l - p → W3.drew.alloc (.cells #[.int .i64 (e - 1), .int .i64 z, .int .i64 1] 52) = W3.drew.alloc (.cells #[.int .i64 (e - 1), .int .i64 (l - p), .int .i64 1] 52) from fun z hz => by rw [hz]) _ (by omega))
      case rest =>
        obtain ⟨rfl, rfl⟩ := hcut
        obtain ⟨W4, hW4⟩ : ∃ W4, W3.drew.alloc (.cells #[.int .i64 (e - 1), .int .i64 (l - p), .int .i64 1] 52) = W4 := ⟨_, rfl⟩
        have hn4 : W4.heap[W3.heap.size]? = some (.cells #[.int .i64 (e - 1), .int .i64 (l - p), .int .i64 1] 52 (0, 0)) := by rw [← hW4]; exact heap_alloc_new W3.drew _
        have hb4 : Below W3.heap.size W3 W4 := by rw [← hW4]; exact (Below.refl _ W3).drew.alloc (Nat.le_refl _) _
        have hs3 := HZ.out
        have hne : W3.heap.size ≠ w.heap.size + 1 := by omega
        have hne2 : w.heap.size + 1 ≠ W3.heap.size := by omega
        have h1 := (hb4.block (w.heap.size + 1) (by omega)).trans HB1.out
        have h0 := bcs hb4 (show W3.cell? ⟨w.heap.size, 2, none⟩ = some (.int .i64 1) from g2)
        have q0 : W4.cell? ⟨W3.heap.size, 0, none⟩ = some (.int .i64 (e - 1)) := by simp [World.cell?, hn4]
        have q1 : W4.cell? ⟨W3.heap.size, 1, none⟩ = some (.int .i64 (l - p)) := by simp [World.cell?, hn4]
        have q2 : W4.cell? ⟨W3.heap.size, 2, none⟩ = some (.int .i64 1) := by simp [World.cell?, hn4]
        have f2 : W4.frozen? ⟨W3.heap.size, 2, none⟩ = false := by simp [World.frozen?, hn4]
        have r0 : W4.cell? ⟨w.heap.size + 1, 0, none⟩ = some (.int .i64 0) := by simp [World.cell?, h1]
        have r1 : W4.cell? ⟨w.heap.size + 1, 1, none⟩ = some (.int .i64 0) := by simp [World.cell?, h1]
        have r2 : W4.cell? ⟨w.heap.size + 1, 2, none⟩ = some (.int .i64 0) := by simp [World.cell?, h1]
        have e0 : W4.frozen? ⟨w.heap.size + 1, 0, none⟩ = false := by simp [World.frozen?, h1]
        have e1' : W4.frozen? ⟨w.heap.size + 1, 1, none⟩ = false := by simp [World.frozen?, h1]
        have e2' : W4.frozen? ⟨w.heap.size + 1, 2, none⟩ = false := by simp [World.frozen?, h1]
        have HB4 := hid (HB3.out.trans (hb4.mono (by omega)))
        have H1 := hid h1
        have HW4 := hid hW4
        have HN4 := hid hn4
        clear hn4 hb4 h1 hW4 g0 g2 hs3
        by_cases hpp : 0 < p
        · go_upto_region 4 with fail
          rw [HW4.out]
          clear HW4
          go_upto_region 6 with fail
          obtain ⟨WX, hWX⟩ : ∃ WX, W4.setCell ⟨W3.heap.size, 2, none⟩ (.int .i64 0) = WX := ⟨_, rfl⟩
          have hblk : WX.heap[w.heap.size + 1]? = some (.cells #[.int .i64 0, .int .i64 0, .int .i64 0] 52 (0, 0)) := by rw [← hWX]; exact (heap_setCell_other W4 ⟨W3.heap.size, 2, none⟩ (w.heap.size + 1) _ hne2).trans H1.out
          have hblN : WX.heap[W3.heap.size]? = some (.cells #[.int .i64 (e - 1), .int .i64 (l - p), .int .i64 0] 52 (0, 0)) := by
            rw [← hWX]
            have := heap_setCell_same W4 W3.heap.size 2 _ _ (.int .i64 0) HN4.out
            simpa using this
          have HBX : Below w.heap.size w WX := by rw [← hWX]; exact HB4.out.setCell (p := ⟨W3.heap.size, 2, none⟩) (by have := HZ.out; simp only; omega) _
          rw [hWX]
          have HBX2 := hid HBX
          have HBL := hid hblk
          clear q0 q1 q2 f2 r0 r1 r2 e0 e1' e2' hWX HBX
          have q0 : WX.cell? ⟨W3.heap.size, 0, none⟩ = some (.int .i64 (e - 1)) := by simp [World.cell?, hblN]
          have q1 : WX.cell? ⟨W3.heap.size, 1, none⟩ = some (.int .i64 (l - p)) := by simp [World.cell?, hblN]
          have q2 : WX.cell? ⟨W3.heap.size, 2, none⟩ = some (.int .i64 0) := by simp [World.cell?, hblN]
          have r0 : WX.cell? ⟨w.heap.size + 1, 0, none⟩ = some (.int .i64 0) := by simp [World.cell?, hblk]
          have r1 : WX.cell? ⟨w.heap.size + 1, 1, none⟩ = some (.int .i64 0) := by simp [World.cell?, hblk]
          have r2 : WX.cell? ⟨w.heap.size + 1, 2, none⟩ = some (.int .i64 0) := by simp [World.cell?, hblk]
          have e0 : WX.frozen? ⟨w.heap.size + 1, 0, none⟩ = false := by simp [World.frozen?, hblk]
          have e1' : WX.frozen? ⟨w.heap.size + 1, 1, none⟩ = false := by simp [World.frozen?, hblk]
          have e2' : WX.frozen? ⟨w.heap.size + 1, 2, none⟩ = false := by simp [World.frozen?, hblk]
          clear hblk hblN
          go_wp2_with fail
          have hblk := HBL.out
          have HBX := HBX2.out
          have hp := put3_same (.int .i64 (e - 1)) (.int .i64 (l - p)) (.int .i64 0) hblk
          have hb9 := (((HBX.setCell (p := ⟨w.heap.size + 1, 0, none⟩) (by simp) (.int .i64 (e - 1))).setCell (p := ⟨w.heap.size + 1, 1, none⟩) (by simp) (.int .i64 (l - p))).setCell (p := ⟨w.heap.size + 1, 2, none⟩) (by simp) (.int .i64 0))
          generalize (((WX.setCell ⟨w.heap.size + 1, 0, none⟩ (.int .i64 (e - 1))).setCell ⟨w.heap.size + 1, 1, none⟩ (.int .i64 (l - p))).setCell ⟨w.heap.size + 1, 2, none⟩ (.int .i64 0)) = W9 at *
          refine bodyPost_ret (results_c1 rfl _ _ _ ⟨w.heap.size + 1, 0, none⟩ _ rfl (load52 W9 (w.heap.size + 1) (.int .i64 (e - 1)) (.int .i64 (l - p)) (.int .i64 0) (by simp [World.cell?, hp]) (by simp [World.cell?, hp]) (by simp [World.cell?, hp]))) rfl ⟨by rw [HQ.out]; simp [stV, hpp], hb9⟩
        · go_upto_region 4 with fail
          rw [HW4.out]
          clear HW4
          obtain ⟨WX, hWX⟩ : ∃ WX, W4 = WX := ⟨_, rfl⟩
          subst hWX
          have hblk := H1.out
          have HBX := HB4.out
          go_wp2_with fail
          have hp := put3_same (.int .i64 (e - 1)) (.int .i64 (l - p)) (.int .i64 1) hblk
          have hb9 := (((HBX.setCell (p := ⟨w.heap.size + 1, 0, none⟩) (by simp) (.int .i64 (e - 1))).setCell (p := ⟨w.heap.size + 1, 1, none⟩) (by simp) (.int .i64 (l - p))).setCell (p := ⟨w.heap.size + 1, 2, none⟩) (by simp) (.int .i64 1))
          generalize (((W4.setCell ⟨w.heap.size + 1, 0, none⟩ (.int .i64 (e - 1))).setCell ⟨w.heap.size + 1, 1, none⟩ (.int .i64 (l - p))).setCell ⟨w.heap.size + 1, 2, none⟩ (.int .i64 1)) = W9 at *
          refine bodyPost_ret (results_c1 rfl _ _ _ ⟨w.heap.size + 1, 0, none⟩ _ rfl (load52 W9 (w.heap.size + 1) (.int .i64 (e - 1)) (.int .i64 (l - p)) (.int .i64 1) (by simp [World.cell?, hp]) (by simp [World.cell?, hp]) (by simp [World.cell?, hp]))) rfl ⟨by rw [HQ.out]; simp [stV, hpp], hb9⟩
end Go.Proofs.YtolnhicngepnnaaGreat
