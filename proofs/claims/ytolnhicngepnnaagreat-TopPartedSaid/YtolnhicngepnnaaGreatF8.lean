/- fixed.square, fixed.Length. -/
import Derived.Test.YtolnhicngepnnaaGreatFX
import Derived.Deep.RegionHeld3
namespace Go.Proofs.YtolnhicngepnnaaGreat
open Go.RowKit

/-- How a square ends. -/
def EndsQ (b : Bool) (n : Nat) (e : Ending) : Prop := if b then e = .returned (wideV n) else e = .panicked (misfit 2)
set_option maxRecDepth 100000 in
set_option maxHeartbeats 4000000 in
theorem square42_any (x y : Int) (w : World) : Calls Tryz.prog 168 #[.agg #[.int .i64 x, .int .i64 y]] w fun e w' => EndsQ (okF x && okF y) (x.natAbs * x.natAbs + y.natAbs * y.natAbs) e ∧ Below w.heap.size w w' := by
  have HR := hid (fun W v hs => right_any v [x, y] W hs)
  obtain ⟨W1, hW1⟩ : ∃ W1, (w.alloc (.cells #[.int .i64 x, .int .i64 y] 28)).alloc (.cells #[.int .u64 0, .int .u64 0] 149) = W1 := ⟨_, rfl⟩
  have hz : W1.heap.size = w.heap.size + 2 := by rw [← hW1]; simp
  have hb1 : Below w.heap.size w W1 := by rw [← hW1]; exact ((Below.refl _ w).alloc (Nat.le_refl _) _).alloc (by simp) _
  have p1 : W1.heap[w.heap.size]? = some (.cells #[.int .i64 x, .int .i64 y] 28 (0, 0)) := by
    rw [← hW1, Below.heap_alloc _ _ _ (by simp)]; exact heap_alloc_new w _
  have q1 : W1.heap[w.heap.size + 1]? = some (.cells #[.int .u64 0, .int .u64 0] 149 (0, 0)) := by
    rw [← hW1]
    have := heap_alloc_new (w.alloc (.cells #[.int .i64 x, .int .i64 y] 28)) (.cells #[.int .u64 0, .int .u64 0] 149)
    simpa using this
  have HB1 := hid hb1
  have HPQ := hid (And.intro p1 q1)
  have cx : W1.cell? ⟨w.heap.size, 0, none⟩ = some (.int .i64 x) := by simp [World.cell?, p1]
  have cy : W1.cell? ⟨w.heap.size, 1, none⟩ = some (.int .i64 y) := by simp [World.cell?, p1]
  have HW := hid hW1
  have HS := hid (new_SlI W1 [x, y] #[.int .i64 x, .int .i64 y] 22 rfl (by simp))
  clear hb1 p1 q1 hW1
  obtain ⟨a, ha⟩ : ∃ a, x.natAbs = a := ⟨_, rfl⟩
  obtain ⟨b, hb⟩ : ∃ b, y.natAbs = b := ⟨_, rfl⟩
  obtain ⟨v3, hv3⟩ : ∃ v, wideV (a * a + b * b) = v := ⟨_, rfl⟩
  have HA := hid (And.intro ha hb)
  have HV3 := hid hv3
  rw [ha, hb]
  clear ha hb hv3
  go_enter Tryz.func168, Tryz.ntmps168
  go_wp2_with fail
  rw [HW.out]
  clear HW
  cases hok : okF x && okF y with
  | false =>
    have HF := hid hok
    clear hok
    refine (HR.out _ _ (by have := HS.out; rwa [hz] at this)).mono ?_
    rintro e W3 ⟨he, hb3⟩
    have HE := hid he
    clear he
    have h2 : ([x, y].all okF) = false := by simpa using HF.out
    have he := HE.out
    rw [h2] at he
    obtain rfl : e = .panicked (misfit 2) := he
    refine ⟨rfl, ?_, btrans (HB1.out.alloc (by omega) _) (by simp) hb3⟩
    rw [HF.out]; rfl
  | true =>
    have hxy : (-70368744177664 ≤ x ∧ x ≤ 70368744177664) ∧ (-70368744177664 ≤ y ∧ y ≤ 70368744177664) := by
      simpa [okF, and_assoc] using hok
    have h2 : ([x, y].all okF) = true := by simpa using hok
    have HF := hid (And.intro h2 hxy)
    clear hok hxy h2
    refine (HR.out _ _ (by have := HS.out; rwa [hz] at this)).mono ?_
    rintro e W3 ⟨he, hb3⟩
    rw [HF.out.1] at he
    obtain rfl : e = .returned (.tuple #[]) := he
    have hb3' : Below W1.heap.size W1 W3 := btrans ((Below.refl _ W1).alloc (Nat.le_refl _) _) (by simp) hb3
    have hz3 := hb3'.size
    have HB3 := hid (btrans HB1.out (by omega) hb3')
    have cx3 := bcs hb3' cx
    have cy3 := bcs hb3' cy
    have q3 := (hb3'.block (w.heap.size + 1) (by omega)).trans HPQ.out.2
    clear hb3 hb3' cx cy
    have HSX := hid (fun W => size_any x (by have := HF.out.2; omega) (by have := HF.out.2; omega) W)
    have HSY := hid (fun W => size_any y (by have := HF.out.2; omega) (by have := HF.out.2; omega) W)
    have ha2 : a ≤ 70368744177664 := by have := HF.out.2; have := HA.out; omega
    have hb2 : b ≤ 70368744177664 := by have := HF.out.2; have := HA.out; omega
    have haa : a * a ≤ 70368744177664 * 70368744177664 := Nat.mul_le_mul ha2 ha2
    have hbb : b * b ≤ 70368744177664 * 70368744177664 := Nat.mul_le_mul hb2 hb2
    have HPX := hid (fun W => product_any a a (by omega) (by omega) W)
    have HPY := hid (fun W => product_any b b (by omega) (by omega) W)
    have HPL := hid (fun W => plus_any (a * a) (b * b) (by omega) W)
    rw [HA.out.1] at HSX
    rw [HA.out.2] at HSY
    clear HA ha2 hb2 haa hbb HR HS
    have HQ := hid (show ∀ W, Below W3.heap.size W3 W → W.cell? ⟨w.heap.size, 0, none⟩ = some (.int .i64 x) ∧ W.cell? ⟨w.heap.size, 1, none⟩ = some (.int .i64 y) ∧ ∃ u v, W.heap[w.heap.size + 1]? = some (.cells #[u, v] 149 (0, 0)) from fun W hb => ⟨bcs hb cx3, bcs hb cy3, _, _, (hb.block (w.heap.size + 1) (by omega)).trans q3⟩)
    clear q3 HPQ cx3 cy3
    obtain ⟨v1, hv1⟩ : ∃ v, wideV (a * a) = v := ⟨_, rfl⟩
    obtain ⟨v2, hv2⟩ : ∃ v, wideV (b * b) = v := ⟨_, rfl⟩
    obtain ⟨hi, hhi⟩ : ∃ hi, (a * a + b * b) / 18446744073709551616 = hi := ⟨_, rfl⟩
    obtain ⟨lo, hlo⟩ : ∃ lo, (a * a + b * b) % 18446744073709551616 = lo := ⟨_, rfl⟩
    have HV := hid (show wideV (a * a + b * b) = .agg #[.int .u64 (hi : Int), .int .u64 (lo : Int)] by rw [wideV, hhi, hlo])
    rw [hv1] at HPX HPL
    rw [hv2] at HPY HPL
    rw [HV.out] at HPL
    clear hv1 hv2 hhi hlo
    have HQS := hid (show ∀ (W : World) (u v : Value), (W.cell? ⟨w.heap.size, 0, none⟩ = some (.int .i64 x) ∧ W.cell? ⟨w.heap.size, 1, none⟩ = some (.int .i64 y) ∧ ∃ u v, W.heap[w.heap.size + 1]? = some (.cells #[u, v] 149 (0, 0))) → (((W.setCell ⟨w.heap.size + 1, 0, none⟩ u).setCell ⟨w.heap.size + 1, 1, none⟩ v).cell? ⟨w.heap.size, 0, none⟩ = some (.int .i64 x) ∧ ((W.setCell ⟨w.heap.size + 1, 0, none⟩ u).setCell ⟨w.heap.size + 1, 1, none⟩ v).cell? ⟨w.heap.size, 1, none⟩ = some (.int .i64 y) ∧ ∃ u' v', ((W.setCell ⟨w.heap.size + 1, 0, none⟩ u).setCell ⟨w.heap.size + 1, 1, none⟩ v).heap[w.heap.size + 1]? = some (.cells #[u', v'] 149 (0, 0))) from fun W u v ⟨h1, h2, _, _, h3⟩ => ⟨(put2_other u v (by simp)).trans h1, (put2_other u v (by simp)).trans h2, _, _, put2_same u v h3⟩)
    have HF2 := hid (show (okF x && okF y) = true by simpa using HF.out.1)
    clear HF
    go_upto_region 2 with fail
    refine wp_region_held_drew (S := (fun W => W.cell? ⟨w.heap.size, 0, none⟩ = some (.int .i64 x) ∧ W.cell? ⟨w.heap.size, 1, none⟩ = some (.int .i64 y) ∧ ∃ u v, W.heap[w.heap.size + 1]? = some (.cells #[u, v] 149 (0, 0)))) (by kernel_rfl) (HQ.out _ ((Below.refl _ _).drew)) (fun hH => ?_)
    refine wpAnyH_take (i := 0) (oi := { dst := some 9, op := Go.Op.fieldAddr 28 (Go.Operand.tmp 1) 0, type := 0, pos := "fixed.go:230", after := #[], guard := none }) (v := (.pointer (some ⟨w.heap.size, 0, none⟩))) rfl (by kernel_rfl) (by kernel_rfl) (by kernel_rfl) (fun _ _ _ h => h) (Or.inl ⟨by rfl, ?_⟩) hH ?_
    · intro w hSw
      (try dsimp only at hSw)
      go_simp
    (try simp only [Act.put, List.setIfInBounds_toArray, List.set_cons_zero, List.set_cons_succ])
    refine wpAnyH_take (i := 1) (oi := { dst := some 10, op := Go.Op.load 22 (Go.Operand.tmp 9), type := 22, pos := "fixed.go:230", after := #[{ on := 0, ground := Go.Ground.data }], guard := none }) (v := (.int .i64 x)) rfl (by kernel_rfl) (by kernel_rfl) (by kernel_rfl) (fun _ _ _ h => h) (Or.inl ⟨by rfl, ?_⟩) hH ?_
    · intro w hSw
      (try dsimp only at hSw)
      go_simp
    (try simp only [Act.put, List.setIfInBounds_toArray, List.set_cons_zero, List.set_cons_succ])
    refine wpAnyH_take (i := 3) (oi := { dst := some 12, op := Go.Op.fieldAddr 28 (Go.Operand.tmp 1) 0, type := 0, pos := "fixed.go:230", after := #[], guard := none }) (v := (.pointer (some ⟨w.heap.size, 0, none⟩))) rfl (by kernel_rfl) (by kernel_rfl) (by kernel_rfl) (fun _ _ _ h => h) (Or.inl ⟨by rfl, ?_⟩) hH ?_
    · intro w hSw
      (try dsimp only at hSw)
      go_simp
    (try simp only [Act.put, List.setIfInBounds_toArray, List.set_cons_zero, List.set_cons_succ])
    refine wpAnyH_take (i := 4) (oi := { dst := some 13, op := Go.Op.load 22 (Go.Operand.tmp 12), type := 22, pos := "fixed.go:230", after := #[{ on := 3, ground := Go.Ground.data }], guard := none }) (v := (.int .i64 x)) rfl (by kernel_rfl) (by kernel_rfl) (by kernel_rfl) (fun _ _ _ h => h) (Or.inl ⟨by rfl, ?_⟩) hH ?_
    · intro w hSw
      (try dsimp only at hSw)
      go_simp
    (try simp only [Act.put, List.setIfInBounds_toArray, List.set_cons_zero, List.set_cons_succ])
    refine wpAnyH_take (i := 7) (oi := { dst := some 16, op := Go.Op.fieldAddr 28 (Go.Operand.tmp 1) 1, type := 0, pos := "fixed.go:230", after := #[], guard := none }) (v := (.pointer (some ⟨w.heap.size, 1, none⟩))) rfl (by kernel_rfl) (by kernel_rfl) (by kernel_rfl) (fun _ _ _ h => h) (Or.inl ⟨by rfl, ?_⟩) hH ?_
    · intro w hSw
      (try dsimp only at hSw)
      go_simp
    (try simp only [Act.put, List.setIfInBounds_toArray, List.set_cons_zero, List.set_cons_succ])
    refine wpAnyH_take (i := 8) (oi := { dst := some 17, op := Go.Op.load 22 (Go.Operand.tmp 16), type := 22, pos := "fixed.go:230", after := #[{ on := 7, ground := Go.Ground.data }], guard := none }) (v := (.int .i64 y)) rfl (by kernel_rfl) (by kernel_rfl) (by kernel_rfl) (fun _ _ _ h => h) (Or.inl ⟨by rfl, ?_⟩) hH ?_
    · intro w hSw
      (try dsimp only at hSw)
      go_simp
    (try simp only [Act.put, List.setIfInBounds_toArray, List.set_cons_zero, List.set_cons_succ])
    refine wpAnyH_take (i := 10) (oi := { dst := some 19, op := Go.Op.fieldAddr 28 (Go.Operand.tmp 1) 1, type := 0, pos := "fixed.go:230", after := #[], guard := none }) (v := (.pointer (some ⟨w.heap.size, 1, none⟩))) rfl (by kernel_rfl) (by kernel_rfl) (by kernel_rfl) (fun _ _ _ h => h) (Or.inl ⟨by rfl, ?_⟩) hH ?_
    · intro w hSw
      (try dsimp only at hSw)
      go_simp
    (try simp only [Act.put, List.setIfInBounds_toArray, List.set_cons_zero, List.set_cons_succ])
    refine wpAnyH_take (i := 11) (oi := { dst := some 20, op := Go.Op.load 22 (Go.Operand.tmp 19), type := 22, pos := "fixed.go:230", after := #[{ on := 10, ground := Go.Ground.data }], guard := none }) (v := (.int .i64 y)) rfl (by kernel_rfl) (by kernel_rfl) (by kernel_rfl) (fun _ _ _ h => h) (Or.inl ⟨by rfl, ?_⟩) hH ?_
    · intro w hSw
      (try dsimp only at hSw)
      go_simp
    (try simp only [Act.put, List.setIfInBounds_toArray, List.set_cons_zero, List.set_cons_succ])
    refine wpAnyH_ready (rs := [2]) (by kernel_rfl) (by simp) ?_
    refine AllReadyH.cons rfl (fun K hK => ?_) AllReadyH.nil
    (try dsimp only at hH)
    go_simp
    refine (HSX.out _).mono ?_
    rintro e w1 ⟨rfl, rfl⟩
    refine hK.out _ _ (HQ.out _ ((Below.refl _ _).drew)) (fun hH1 => ?_)
    clear hK K
    (try simp only [Act.put, List.setIfInBounds_toArray, List.set_cons_zero, List.set_cons_succ])
    refine wpAnyH_ready (rs := [5]) (by kernel_rfl) (by simp) ?_
    refine AllReadyH.cons rfl (fun K hK => ?_) AllReadyH.nil
    (try dsimp only at hH1)
    go_simp
    refine (HSX.out _).mono ?_
    rintro e w1 ⟨rfl, rfl⟩
    refine hK.out _ _ (HQ.out _ ((Below.refl _ _).drew)) (fun hH2 => ?_)
    clear hK K
    (try simp only [Act.put, List.setIfInBounds_toArray, List.set_cons_zero, List.set_cons_succ])
    refine wpAnyH_ready (rs := [6]) (by kernel_rfl) (by simp) ?_
    refine AllReadyH.cons rfl (fun K hK => ?_) AllReadyH.nil
    (try dsimp only at hH2)
    go_simp
    refine (HPX.out _).mono ?_
    rintro e w2 ⟨rfl, hb1⟩
    refine hK.out _ _ (HQ.out _ (btrans ((Below.refl _ _).drew) (Nat.le_refl _) hb1)) (fun hH3 => ?_)
    clear hK K
    (try simp only [Act.put, List.setIfInBounds_toArray, List.set_cons_zero, List.set_cons_succ])
    refine wpAnyH_ready (rs := [9]) (by kernel_rfl) (by simp) ?_
    refine AllReadyH.cons rfl (fun K hK => ?_) AllReadyH.nil
    (try dsimp only at hH3)
    go_simp
    refine (HSY.out _).mono ?_
    rintro e w1 ⟨rfl, rfl⟩
    refine hK.out _ _ (HQ.out _ (btrans ((Below.refl _ _).drew) (Nat.le_refl _) hb1)) (fun hH4 => ?_)
    clear hK K
    (try simp only [Act.put, List.setIfInBounds_toArray, List.set_cons_zero, List.set_cons_succ])
    refine wpAnyH_ready (rs := [12]) (by kernel_rfl) (by simp) ?_
    refine AllReadyH.cons rfl (fun K hK => ?_) AllReadyH.nil
    (try dsimp only at hH4)
    go_simp
    refine (HSY.out _).mono ?_
    rintro e w1 ⟨rfl, rfl⟩
    refine hK.out _ _ (HQ.out _ (btrans ((Below.refl _ _).drew) (Nat.le_refl _) hb1)) (fun hH5 => ?_)
    clear hK K
    (try simp only [Act.put, List.setIfInBounds_toArray, List.set_cons_zero, List.set_cons_succ])
    refine wpAnyH_ready (rs := [13]) (by kernel_rfl) (by simp) ?_
    refine AllReadyH.cons rfl (fun K hK => ?_) AllReadyH.nil
    (try dsimp only at hH5)
    go_simp
    refine (HPY.out _).mono ?_
    rintro e w3 ⟨rfl, hb2⟩
    refine hK.out _ _ (HQ.out _ (btrans (btrans ((Below.refl _ _).drew) (Nat.le_refl _) hb1) (Nat.le_refl _) hb2)) (fun hH6 => ?_)
    clear hK K
    (try simp only [Act.put, List.setIfInBounds_toArray, List.set_cons_zero, List.set_cons_succ])
    refine wpAnyH_ready (rs := [14]) (by kernel_rfl) (by simp) ?_
    refine AllReadyH.cons rfl (fun K hK => ?_) AllReadyH.nil
    (try dsimp only at hH6)
    go_simp
    refine (HPL.out _).mono ?_
    rintro e w4 ⟨rfl, hb3⟩
    refine hK.out _ _ (HQ.out _ (btrans (btrans (btrans ((Below.refl _ _).drew) (Nat.le_refl _) hb1) (Nat.le_refl _) hb2) (Nat.le_refl _) hb3)) (fun hH7 => ?_)
    clear hK K
    (try simp only [Act.put, List.setIfInBounds_toArray, List.set_cons_zero, List.set_cons_succ])
    refine wpAnyH_ready (rs := [15]) (by kernel_rfl) (by simp) ?_
    refine AllReadyH.cons rfl (fun K hK => ?_) AllReadyH.nil
    (try dsimp only at hH7)
    obtain ⟨-, -, u, v, hS3⟩ := hH7
    obtain ⟨h4, h5, h6, h7⟩ := cells2 hS3
    go_simp
    refine hK.out _ _ (HQS.out _ _ _ (HQ.out _ (btrans (btrans (btrans ((Below.refl _ _).drew) (Nat.le_refl _) hb1) (Nat.le_refl _) hb2) (Nat.le_refl _) hb3))) (fun hH8 => ?_)
    clear hK K
    (try simp only [Act.put, List.setIfInBounds_toArray, List.set_cons_zero, List.set_cons_succ])
    refine wpAnyH_done (by kernel_rfl) ?_ _
    go_wp2_with fail
    have hp := put2_same (.int .u64 (hi : Int)) (.int .u64 (lo : Int)) hS3
    have hb9 := ((HB3.out.trans ((btrans (btrans (btrans ((Below.refl _ _).drew) (Nat.le_refl _) hb1) (Nat.le_refl _) hb2) (Nat.le_refl _) hb3).mono HB3.out.size)).setCell (p := ⟨w.heap.size + 1, 0, none⟩) (by simp) (.int .u64 (hi : Int))).setCell (p := ⟨w.heap.size + 1, 1, none⟩) (by simp) (.int .u64 (lo : Int))
    generalize (w4.setCell ⟨w.heap.size + 1, 0, none⟩ (.int .u64 (hi : Int))).setCell ⟨w.heap.size + 1, 1, none⟩ (.int .u64 (lo : Int)) = W at *
    refine bodyPost_ret (results_c1 rfl _ _ _ ⟨w.heap.size + 1, 0, none⟩ _ rfl (load85 W (w.heap.size + 1) (.int .u64 (hi : Int)) (.int .u64 (lo : Int)) (by simp [World.cell?, hp]) (by simp [World.cell?, hp]))) rfl ⟨by rw [HF2.out]; exact (show Ending.returned _ = .returned (wideV _) by rw [HV.out]), hb9⟩
end Go.Proofs.YtolnhicngepnnaaGreat
