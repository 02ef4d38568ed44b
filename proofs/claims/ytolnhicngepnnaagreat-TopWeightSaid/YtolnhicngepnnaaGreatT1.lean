/- fixed.Unit: the closures. -/
import Derived.Test.YtolnhicngepnnaaGreatW9
namespace Go.Proofs.YtolnhicngepnnaaGreat
open Go.RowKit

/-- A coordinate of a unit. -/
def unitF (x : Int) (s : Nat) : Int := if x < 0 then -(shareN x.natAbs s : Int) else shareN x.natAbs s
theorem unitF_le (x : Int) (s : Nat) : -65536 ≤ unitF x s ∧ unitF x s ≤ 65536 := by
  have := shareN_le x.natAbs s
  unfold unitF
  split <;> omega
set_option maxRecDepth 100000 in
set_option maxHeartbeats 4000000 in
theorem unit171_any (x : Int) (s : Nat) (hx : okF x = true) (hs : s < 340282366920938463463374607431768211456) (y : Value) (p : Nat) (w : World)
    (c0 : w.cell? ⟨p, 0, none⟩ = some (.int .u64 ((s / 18446744073709551616 : Nat) : Int))) (c1 : w.cell? ⟨p, 1, none⟩ = some (.int .u64 ((s % 18446744073709551616 : Nat) : Int))) :
    Calls Tryz.prog 171 #[.int .i64 x, y, .pointer (some ⟨p, 0, none⟩)] w fun e w' => EndsX (.ok (unitF x s)) e ∧ Below w.heap.size w w' := by
  have hx2 : -70368744177664 ≤ x ∧ x ≤ 70368744177664 := by simpa [okF] using hx
  have HSZ := hid (fun W => size_any x (by omega) (by omega) W)
  have HSH := hid (fun W => share172_any x.natAbs s (by omega) hs W)
  have hle := shareN_le x.natAbs s
  obtain ⟨neg, hneg⟩ : ∃ b, decide (x < 0) = b := ⟨_, rfl⟩
  have HSG := hid (fun W => signed_any (shareN x.natAbs s) neg (by omega) W)
  have hv : (if shareN x.natAbs s ≤ 70368744177664 then (Except.ok (if neg = true then -(shareN x.natAbs s : Int) else (shareN x.natAbs s : Int)) : Except Int Int) else .error 4) = .ok (unitF x s) := by
    rw [if_pos (by omega), ← hneg, unitF]
    by_cases h : x < 0 <;> simp [h]
  rw [hv] at HSG
  generalize unitF x s = v at *
  rw [show wideV s = .agg #[.int .u64 ((s / 18446744073709551616 : Nat) : Int), .int .u64 ((s % 18446744073709551616 : Nat) : Int)] from rfl] at HSH
  generalize s / 18446744073709551616 = hi at *
  generalize s % 18446744073709551616 = lo at *
  generalize shareN x.natAbs s = sh at *
  generalize x.natAbs = na at *
  have HQ := hid (show ∀ W, Below w.heap.size w W → W.cell? ⟨p, 0, none⟩ = some (.int .u64 (hi : Int)) ∧ W.cell? ⟨p, 1, none⟩ = some (.int .u64 (lo : Int)) from fun W h => ⟨bcs h c0, bcs h c1⟩)
  clear hx hx2 hs hle hv c0 c1
  go_enter Tryz.func171, Tryz.ntmps171
  go_upto_region 1 with fail
  refine wp_region_held_drew (S := (fun W => W.cell? ⟨p, 0, none⟩ = some (.int .u64 (hi : Int)) ∧ W.cell? ⟨p, 1, none⟩ = some (.int .u64 (lo : Int)))) (by kernel_rfl) (HQ.out _ ((Below.refl _ _).drew)) (fun hH => ?_)
  refine wpAnyH_take (i := 0) (oi := { dst := some 6, op := Go.Op.move (Go.Operand.tmp 0), type := 22, pos := "fixed.go:246", after := #[], guard := none }) (v := (.int .i64 x)) rfl (by kernel_rfl) (by kernel_rfl) (by kernel_rfl) (fun _ _ _ h => h) (Or.inl ⟨by rfl, ?_⟩) hH ?_
  · intro w hSw
    (try dsimp only at hSw)
    go_simp
  (try simp only [Act.put, List.setIfInBounds_toArray, List.set_cons_zero, List.set_cons_succ])
  refine wpAnyH_take (i := 2) (oi := { dst := some 8, op := Go.Op.load 149 (Go.Operand.tmp 2), type := 149, pos := "fixed.go:246", after := #[], guard := none }) (v := (.agg #[.int .u64 (hi : Int), .int .u64 (lo : Int)])) rfl (by kernel_rfl) (by kernel_rfl) (by kernel_rfl) (fun _ _ _ h => h) (Or.inl ⟨by rfl, ?_⟩) hH ?_
  · intro w hSw
    (try dsimp only at hSw)
    go_simp
  (try simp only [Act.put, List.setIfInBounds_toArray, List.set_cons_zero, List.set_cons_succ])
  refine wpAnyH_take (i := 4) (oi := { dst := some 10, op := Go.Op.move (Go.Operand.tmp 0), type := 22, pos := "fixed.go:246", after := #[], guard := none }) (v := (.int .i64 x)) rfl (by kernel_rfl) (by kernel_rfl) (by kernel_rfl) (fun _ _ _ h => h) (Or.inl ⟨by rfl, ?_⟩) hH ?_
  · intro w hSw
    (try dsimp only at hSw)
    go_simp
  (try simp only [Act.put, List.setIfInBounds_toArray, List.set_cons_zero, List.set_cons_succ])
  refine wpAnyH_take (i := 5) (oi := { dst := some 11, op := Go.Op.binOp Go.BinOp.lss 22 (Go.Operand.tmp 10) (Go.Operand.const (Go.Value.int Go.IntKind.i64 0)) 22, type := 4, pos := "fixed.go:246", after := #[{ on := 4, ground := Go.Ground.data }], guard := none }) (v := (.bool neg)) rfl (by kernel_rfl) (by kernel_rfl) (by kernel_rfl) (fun _ _ _ h => h) (Or.inl ⟨by rfl, ?_⟩) hH ?_
  · intro w hSw
    (try dsimp only at hSw)
    go_simp
  (try simp only [Act.put, List.setIfInBounds_toArray, List.set_cons_zero, List.set_cons_succ])
  refine wpAnyH_ready (rs := [1]) (by kernel_rfl) (by simp) ?_
  refine AllReadyH.cons rfl (fun K hK => ?_) AllReadyH.nil
  (try dsimp only at hH)
  go_simp
  refine (HSZ.out _).mono ?_
  rintro e w1 ⟨rfl, rfl⟩
  refine hK.out _ _ (HQ.out _ ((Below.refl _ _).drew)) (fun hH1 => ?_)
  clear hK K
  (try simp only [Act.put, List.setIfInBounds_toArray, List.set_cons_zero, List.set_cons_succ])
  refine wpAnyH_ready (rs := [3]) (by kernel_rfl) (by simp) ?_
  refine AllReadyH.cons rfl (fun K hK => ?_) AllReadyH.nil
  (try dsimp only at hH1)
  go_simp
  refine (HSH.out _).mono ?_
  rintro e w2 ⟨rfl, hb1⟩
  refine hK.out _ _ (HQ.out _ (btrans ((Below.refl _ _).drew) (Nat.le_refl _) hb1)) (fun hH2 => ?_)
  clear hK K
  (try simp only [Act.put, List.setIfInBounds_toArray, List.set_cons_zero, List.set_cons_succ])
  refine wpAnyH_ready (rs := [6]) (by kernel_rfl) (by simp) ?_
  refine AllReadyH.cons rfl (fun K hK => ?_) AllReadyH.nil
  (try dsimp only at hH2)
  go_simp
  refine (HSG.out _).mono ?_
  rintro e w3 ⟨rfl, rfl⟩
  refine hK.out _ _ (HQ.out _ (btrans ((Below.refl _ _).drew) (Nat.le_refl _) hb1)) (fun hH3 => ?_)
  clear hK K
  (try simp only [Act.put, List.setIfInBounds_toArray, List.set_cons_zero, List.set_cons_succ])
  refine wpAnyH_take (i := 7) (oi := { dst := some 5, op := Go.Op.assign (Go.Operand.tmp 12), type := 22, pos := "fixed.go:246", after := #[{ on := 6, ground := Go.Ground.data }, { on := 6, ground := Go.Ground.chain }, { on := 0, ground := Go.Ground.phase }, { on := 1, ground := Go.Ground.phase }, { on := 2, ground := Go.Ground.phase }, { on := 3, ground := Go.Ground.phase }, { on := 4, ground := Go.Ground.phase }, { on := 5, ground := Go.Ground.phase }, { on := 6, ground := Go.Ground.phase }], guard := none }) (v := (.int .i64 v)) rfl (by kernel_rfl) (by kernel_rfl) (by kernel_rfl) (fun _ _ _ h => h) (Or.inl ⟨by rfl, ?_⟩) hH3 ?_
  · intro w hSw
    (try dsimp only at hSw)
    go_simp
  (try simp only [Act.put, List.setIfInBounds_toArray, List.set_cons_zero, List.set_cons_succ])
  refine wpAnyH_done (by kernel_rfl) ?_ _
  all_goals go_wp2_with fail
  go_ret
  exact ⟨rfl, btrans ((Below.refl _ _).drew) (Nat.le_refl _) hb1⟩
end Go.Proofs.YtolnhicngepnnaaGreat
