/- fixed.Scale: of valid numbers. -/
import Derived.Test.YtolnhicngepnnaaGreatF9
namespace Go.Proofs.YtolnhicngepnnaaGreat
open Go.RowKit

/-- A number times a quotient. -/
def scaleX (f : FuncId) (a num den : Int) : Except Int Int :=
  signX (quoM f (a.natAbs * num.natAbs) den.natAbs (decide (a < 0) != (decide (num < 0) != decide (den < 0)))) (decide (a < 0) != (decide (num < 0) != decide (den < 0)))
set_option maxRecDepth 100000 in
set_option maxHeartbeats 4000000 in
theorem scale48_any (a num den how : Int) (f : FuncId) (hf : wayF how = some f) (ha : okF a = true) (hn : -2147483648 ≤ num ∧ num ≤ 2147483648) (hd : -2147483648 ≤ den ∧ den ≤ 2147483648) (hd0 : den ≠ 0) (hp : a.natAbs * num.natAbs < 18446744073709551616)
    (pa ph pn pd : Nat) (w : World) (c0 : w.cell? ⟨pa, 0, none⟩ = some (.int .i64 a)) (c1 : w.cell? ⟨ph, 0, none⟩ = some (.int .i64 how)) (c2 : w.cell? ⟨pn, 0, none⟩ = some (.int .i64 num)) (c3 : w.cell? ⟨pd, 0, none⟩ = some (.int .i64 den)) :
    Calls Tryz.prog 100 #[.pointer (some ⟨pa, 0, none⟩), .pointer (some ⟨ph, 0, none⟩), .pointer (some ⟨pn, 0, none⟩), .pointer (some ⟨pd, 0, none⟩)] w fun e w' => EndsX (scaleX f a num den) e ∧ Below w.heap.size w w' := by
  have hw := wayF_is hf
  have ha2 : -70368744177664 ≤ a ∧ a ≤ 70368744177664 := by simpa [okF] using ha
  have HWY := hid (fun W => ways_any how W)
  rw [hf] at HWY
  have HR := hid (fun W v hs => right_any v [a] W hs)
  have HRA := hid (show [a].all okF = true by simp [ha])
  have HND2 := hid (fun W => need_any true 2 W)
  have HND10 := hid (fun W => need_any true 10 W)
  have HSA := hid (fun W => size_any a (by omega) (by omega) W)
  have HSN := hid (fun W => sizeI_any num (by omega) (by omega) W)
  have HSD := hid (fun W => sizeI_any den (by omega) (by omega) W)
  have hX : scaleX f a num den = signX (quoM f (a.natAbs * num.natAbs) den.natAbs (decide (a < 0) != (decide (num < 0) != decide (den < 0)))) (decide (a < 0) != (decide (num < 0) != decide (den < 0))) := rfl
  obtain ⟨na, hna⟩ : ∃ b, decide (a < 0) = b := ⟨_, rfl⟩
  obtain ⟨nn, hnn⟩ : ∃ b, decide (num < 0) = b := ⟨_, rfl⟩
  obtain ⟨nd, hnd⟩ : ∃ b, decide (den < 0) = b := ⟨_, rfl⟩
  rw [hna, hnn, hnd] at hX
  have HQ0 := hid (fun W => quotient49_any f hw (a.natAbs * num.natAbs) den.natAbs (na != (nn != nd)) hp (by omega) (by omega) W)
  rw [← hX] at HQ0
  clear hX
  obtain ⟨sa, hsa⟩ : ∃ b, a.natAbs = b := ⟨_, rfl⟩
  obtain ⟨sn, hsn⟩ : ∃ b, num.natAbs = b := ⟨_, rfl⟩
  obtain ⟨sd, hsd⟩ : ∃ b, den.natAbs = b := ⟨_, rfl⟩
  have HPR := hid (fun W => product_any sa sn (by omega) (by omega) W)
  rw [hsa] at HSA HQ0
  rw [hsn] at HSN HQ0
  rw [hsd] at HSD HQ0
  clear hsa hsn hsd
  obtain ⟨pv, hpv⟩ : ∃ v, wideV (sa * sn) = v := ⟨_, rfl⟩
  rw [hpv] at HPR HQ0
  clear hpv hp ha2
  obtain ⟨sx, hsx⟩ : ∃ r, scaleX f a num den = r := ⟨_, rfl⟩
  rw [hsx] at HQ0 ⊢
  clear hsx
  have HQT := HQ0
  clear HQ0
  have HCC := hid (And.intro c0 (And.intro c1 (And.intro c2 c3)))
  obtain ⟨hn1, hn2⟩ := hn
  obtain ⟨hd1, hd2⟩ := hd
  have HSL := hid (new_SlI w [a] #[.int .i64 a] 22 rfl (by simp))
  have hal := World.block_lt_of_cell? w ⟨pa, 0, none⟩ c0
  go_enter Tryz.func100, Tryz.ntmps100
  go_wp2_with fail
  refine (HR.out _ _ HSL.out).mono ?_
  rintro e W1 ⟨he, hb1⟩
  rw [HRA.out] at he
  obtain rfl : e = .returned (.tuple #[]) := he
  have hb1' := btrans ((Below.refl w.heap.size w).alloc (Nat.le_refl _) (.cells #[.int .i64 a] 22)) (by simp) hb1
  clear hb1 c0 c1 c2 c3 hal
  have c0 := bcs hb1' HCC.out.1
  have c1 := bcs hb1' HCC.out.2.1
  have c2 := bcs hb1' HCC.out.2.2.1
  have c3 := bcs hb1' HCC.out.2.2.2
  have HB1 := hid hb1'
  have HQ := hid (show ∀ W, Below W1.heap.size W1 W → W.cell? ⟨pa, 0, none⟩ = some (.int .i64 a) ∧ W.cell? ⟨pn, 0, none⟩ = some (.int .i64 num) ∧ W.cell? ⟨pd, 0, none⟩ = some (.int .i64 den) from fun W hb => ⟨bcs hb c0, bcs hb c2, bcs hb c3⟩)
  clear hb1' HCC HR HRA HSL
  go_wp2_with fail
  refine (HWY.out _).mono ?_
  rintro e W2 ⟨rfl, rfl⟩
  go_wp2_with fail
  refine (HND2.out _).mono ?_
  rintro e W3 ⟨he, rfl⟩
  obtain rfl : e = .returned (.tuple #[]) := he
  go_wp2_with fail
  rw [show (den != 0) = true by simp [hd0]]
  refine (HND10.out _).mono ?_
  rintro e W3 ⟨he, rfl⟩
  obtain rfl : e = .returned (.tuple #[]) := he
  clear HND2 HND10 HWY c0 c1 c2 c3
  go_upto_region 5 with fail
  cases sx with
  | ok v =>
    refine wp_region_held_drew (S := (fun W => W.cell? ⟨pa, 0, none⟩ = some (.int .i64 a) ∧ W.cell? ⟨pn, 0, none⟩ = some (.int .i64 num) ∧ W.cell? ⟨pd, 0, none⟩ = some (.int .i64 den))) (by kernel_rfl) (HQ.out _ ((Below.refl _ _).drew)) (fun hH => ?_)
    refine wpAnyH_take (i := 0) (oi := { dst := some 29, op := Go.Op.load 22 (Go.Operand.tmp 0), type := 22, pos := "fixed.go:170", after := #[], guard := none }) (v := (.int .i64 a)) rfl (by kernel_rfl) (by kernel_rfl) (by kernel_rfl) (fun _ _ _ h => h) (Or.inl ⟨by rfl, ?_⟩) hH ?_
    · intro w hSw
      (try dsimp only at hSw)
      go_simp
    (try simp only [Act.put, List.setIfInBounds_toArray, List.set_cons_zero, List.set_cons_succ])
    refine wpAnyH_take (i := 2) (oi := { dst := some 31, op := Go.Op.load 3 (Go.Operand.tmp 2), type := 3, pos := "fixed.go:170", after := #[], guard := none }) (v := (.int .i64 num)) rfl (by kernel_rfl) (by kernel_rfl) (by kernel_rfl) (fun _ _ _ h => h) (Or.inl ⟨by rfl, ?_⟩) hH ?_
    · intro w hSw
      (try dsimp only at hSw)
      go_simp
    (try simp only [Act.put, List.setIfInBounds_toArray, List.set_cons_zero, List.set_cons_succ])
    refine wpAnyH_take (i := 5) (oi := { dst := some 34, op := Go.Op.load 3 (Go.Operand.tmp 3), type := 3, pos := "fixed.go:170", after := #[], guard := none }) (v := (.int .i64 den)) rfl (by kernel_rfl) (by kernel_rfl) (by kernel_rfl) (fun _ _ _ h => h) (Or.inl ⟨by rfl, ?_⟩) hH ?_
    · intro w hSw
      (try dsimp only at hSw)
      go_simp
    (try simp only [Act.put, List.setIfInBounds_toArray, List.set_cons_zero, List.set_cons_succ])
    refine wpAnyH_take (i := 7) (oi := { dst := some 36, op := Go.Op.load 22 (Go.Operand.tmp 0), type := 22, pos := "fixed.go:170", after := #[], guard := none }) (v := (.int .i64 a)) rfl (by kernel_rfl) (by kernel_rfl) (by kernel_rfl) (fun _ _ _ h => h) (Or.inl ⟨by rfl, ?_⟩) hH ?_
    · intro w hSw
      (try dsimp only at hSw)
      go_simp
    (try simp only [Act.put, List.setIfInBounds_toArray, List.set_cons_zero, List.set_cons_succ])
    refine wpAnyH_take (i := 8) (oi := { dst := some 37, op := Go.Op.binOp Go.BinOp.lss 22 (Go.Operand.tmp 36) (Go.Operand.const (Go.Value.int Go.IntKind.i64 0)) 22, type := 4, pos := "fixed.go:170", after := #[{ on := 7, ground := Go.Ground.data }], guard := none }) (v := (.bool na)) rfl (by kernel_rfl) (by kernel_rfl) (by kernel_rfl) (fun _ _ _ h => h) (Or.inl ⟨by rfl, ?_⟩) hH ?_
    · intro w hSw
      (try dsimp only at hSw)
      go_simp
    (try simp only [Act.put, List.setIfInBounds_toArray, List.set_cons_zero, List.set_cons_succ])
    refine wpAnyH_take (i := 9) (oi := { dst := some 38, op := Go.Op.load 3 (Go.Operand.tmp 2), type := 3, pos := "fixed.go:170", after := #[], guard := none }) (v := (.int .i64 num)) rfl (by kernel_rfl) (by kernel_rfl) (by kernel_rfl) (fun _ _ _ h => h) (Or.inl ⟨by rfl, ?_⟩) hH ?_
    · intro w hSw
      (try dsimp only at hSw)
      go_simp
    (try simp only [Act.put, List.setIfInBounds_toArray, List.set_cons_zero, List.set_cons_succ])
    refine wpAnyH_take (i := 10) (oi := { dst := some 39, op := Go.Op.binOp Go.BinOp.lss 3 (Go.Operand.tmp 38) (Go.Operand.const (Go.Value.int Go.IntKind.i64 0)) 3, type := 4, pos := "fixed.go:170", after := #[{ on := 9, ground := Go.Ground.data }], guard := none }) (v := (.bool nn)) rfl (by kernel_rfl) (by kernel_rfl) (by kernel_rfl) (fun _ _ _ h => h) (Or.inl ⟨by rfl, ?_⟩) hH ?_
    · intro w hSw
      (try dsimp only at hSw)
      go_simp
    (try simp only [Act.put, List.setIfInBounds_toArray, List.set_cons_zero, List.set_cons_succ])
    refine wpAnyH_take (i := 11) (oi := { dst := some 40, op := Go.Op.load 3 (Go.Operand.tmp 3), type := 3, pos := "fixed.go:170", after := #[], guard := none }) (v := (.int .i64 den)) rfl (by kernel_rfl) (by kernel_rfl) (by kernel_rfl) (fun _ _ _ h => h) (Or.inl ⟨by rfl, ?_⟩) hH ?_
    · intro w hSw
      (try dsimp only at hSw)
      go_simp
    (try simp only [Act.put, List.setIfInBounds_toArray, List.set_cons_zero, List.set_cons_succ])
    refine wpAnyH_take (i := 12) (oi := { dst := some 41, op := Go.Op.binOp Go.BinOp.lss 3 (Go.Operand.tmp 40) (Go.Operand.const (Go.Value.int Go.IntKind.i64 0)) 3, type := 4, pos := "fixed.go:170", after := #[{ on := 11, ground := Go.Ground.data }], guard := none }) (v := (.bool nd)) rfl (by kernel_rfl) (by kernel_rfl) (by kernel_rfl) (fun _ _ _ h => h) (Or.inl ⟨by rfl, ?_⟩) hH ?_
    · intro w hSw
      (try dsimp only at hSw)
      go_simp
    (try simp only [Act.put, List.setIfInBounds_toArray, List.set_cons_zero, List.set_cons_succ])
    refine wpAnyH_take (i := 13) (oi := { dst := some 42, op := Go.Op.binOp Go.BinOp.neq 4 (Go.Operand.tmp 39) (Go.Operand.tmp 41) 4, type := 4, pos := "fixed.go:170", after := #[{ on := 10, ground := Go.Ground.data }, { on := 12, ground := Go.Ground.data }], guard := none }) (v := (.bool (nn != nd))) rfl (by kernel_rfl) (by kernel_rfl) (by kernel_rfl) (fun _ _ _ h => h) (Or.inl ⟨by rfl, ?_⟩) hH ?_
    · intro w hSw
      (try dsimp only at hSw)
      go_simp
      cases nn <;> cases nd <;> rfl
    (try simp only [Act.put, List.setIfInBounds_toArray, List.set_cons_zero, List.set_cons_succ])
    refine wpAnyH_take (i := 14) (oi := { dst := some 43, op := Go.Op.binOp Go.BinOp.neq 4 (Go.Operand.tmp 37) (Go.Operand.tmp 42) 4, type := 4, pos := "fixed.go:170", after := #[{ on := 8, ground := Go.Ground.data }, { on := 13, ground := Go.Ground.data }], guard := none }) (v := (.bool (na != (nn != nd)))) rfl (by kernel_rfl) (by kernel_rfl) (by kernel_rfl) (fun _ _ _ h => h) (Or.inl ⟨by rfl, ?_⟩) hH ?_
    · intro w hSw
      (try dsimp only at hSw)
      go_simp
      cases na <;> cases nn <;> cases nd <;> rfl
    (try simp only [Act.put, List.setIfInBounds_toArray, List.set_cons_zero, List.set_cons_succ])
    refine wpAnyH_take (i := 15) (oi := { dst := some 44, op := Go.Op.move (Go.Operand.tmp 5), type := 138, pos := "fixed.go:170", after := #[], guard := none }) (v := (.func (.func f) #[] #[])) rfl (by kernel_rfl) (by kernel_rfl) (by kernel_rfl) (fun _ _ _ h => h) (Or.inl ⟨by rfl, ?_⟩) hH ?_
    · intro w hSw
      (try dsimp only at hSw)
      go_simp
    (try simp only [Act.put, List.setIfInBounds_toArray, List.set_cons_zero, List.set_cons_succ])
    refine wpAnyH_ready (rs := [1]) (by kernel_rfl) (by simp) ?_
    refine AllReadyH.cons rfl (fun K hK => ?_) AllReadyH.nil
    (try dsimp only at hH)
    go_simp
    refine (HSA.out _).mono ?_
    rintro e w1 ⟨rfl, rfl⟩
    refine hK.out _ _ (HQ.out _ ((Below.refl _ _).drew)) (fun hH1 => ?_)
    clear hK K
    (try simp only [Act.put, List.setIfInBounds_toArray, List.set_cons_zero, List.set_cons_succ])
    refine wpAnyH_ready (rs := [3]) (by kernel_rfl) (by simp) ?_
    refine AllReadyH.cons rfl (fun K hK => ?_) AllReadyH.nil
    (try dsimp only at hH1)
    go_simp
    refine (HSN.out _).mono ?_
    rintro e w1 ⟨rfl, rfl⟩
    refine hK.out _ _ (HQ.out _ ((Below.refl _ _).drew)) (fun hH2 => ?_)
    clear hK K
    (try simp only [Act.put, List.setIfInBounds_toArray, List.set_cons_zero, List.set_cons_succ])
    refine wpAnyH_ready (rs := [4]) (by kernel_rfl) (by simp) ?_
    refine AllReadyH.cons rfl (fun K hK => ?_) AllReadyH.nil
    (try dsimp only at hH2)
    go_simp
    refine (HPR.out _).mono ?_
    rintro e w2 ⟨rfl, hb1⟩
    refine hK.out _ _ (HQ.out _ (btrans ((Below.refl _ _).drew) (Nat.le_refl _) hb1)) (fun hH3 => ?_)
    clear hK K
    (try simp only [Act.put, List.setIfInBounds_toArray, List.set_cons_zero, List.set_cons_succ])
    refine wpAnyH_ready (rs := [6]) (by kernel_rfl) (by simp) ?_
    refine AllReadyH.cons rfl (fun K hK => ?_) AllReadyH.nil
    (try dsimp only at hH3)
    go_simp
    refine (HSD.out _).mono ?_
    rintro e w3 ⟨rfl, rfl⟩
    refine hK.out _ _ (HQ.out _ (btrans ((Below.refl _ _).drew) (Nat.le_refl _) hb1)) (fun hH4 => ?_)
    clear hK K
    (try simp only [Act.put, List.setIfInBounds_toArray, List.set_cons_zero, List.set_cons_succ])
    refine wpAnyH_ready (rs := [16]) (by kernel_rfl) (by simp) ?_
    refine AllReadyH.cons rfl (fun K hK => ?_) AllReadyH.nil
    (try dsimp only at hH4)
    go_simp
    refine (HQT.out _).mono ?_
    rintro e w4 ⟨rfl, hb2⟩
    refine hK.out _ _ (HQ.out _ (btrans (btrans ((Below.refl _ _).drew) (Nat.le_refl _) hb1) (Nat.le_refl _) hb2)) (fun hH5 => ?_)
    clear hK K
    (try simp only [Act.put, List.setIfInBounds_toArray, List.set_cons_zero, List.set_cons_succ])
    refine wpAnyH_take (i := 17) (oi := { dst := some 4, op := Go.Op.assign (Go.Operand.tmp 45), type := 22, pos := "fixed.go:170", after := #[{ on := 16, ground := Go.Ground.data }, { on := 16, ground := Go.Ground.chain }, { on := 0, ground := Go.Ground.phase }, { on := 1, ground := Go.Ground.phase }, { on := 2, ground := Go.Ground.phase }, { on := 3, ground := Go.Ground.phase }, { on := 4, ground := Go.Ground.phase }, { on := 5, ground := Go.Ground.phase }, { on := 6, ground := Go.Ground.phase }, { on := 7, ground := Go.Ground.phase }, { on := 8, ground := Go.Ground.phase }, { on := 9, ground := Go.Ground.phase }, { on := 10, ground := Go.Ground.phase }, { on := 11, ground := Go.Ground.phase }, { on := 12, ground := Go.Ground.phase }, { on := 13, ground := Go.Ground.phase }, { on := 14, ground := Go.Ground.phase }, { on := 15, ground := Go.Ground.phase }, { on := 16, ground := Go.Ground.phase }], guard := none }) (v := (.int .i64 v)) rfl (by kernel_rfl) (by kernel_rfl) (by kernel_rfl) (fun _ _ _ h => h) (Or.inl ⟨by rfl, ?_⟩) hH5 ?_
    · intro w hSw
      (try dsimp only at hSw)
      go_simp
    (try simp only [Act.put, List.setIfInBounds_toArray, List.set_cons_zero, List.set_cons_succ])
    refine wpAnyH_done (by kernel_rfl) ?_ _
    all_goals go_wp2_with fail
    go_ret
    exact ⟨rfl, HB1.out.trans ((btrans (btrans ((Below.refl _ _).drew) (Nat.le_refl _) hb1) (Nat.le_refl _) hb2).mono HB1.out.size)⟩
  | error c =>
    refine wp_region_held_drew (S := (fun W => W.cell? ⟨pa, 0, none⟩ = some (.int .i64 a) ∧ W.cell? ⟨pn, 0, none⟩ = some (.int .i64 num) ∧ W.cell? ⟨pd, 0, none⟩ = some (.int .i64 den))) (by kernel_rfl) (HQ.out _ ((Below.refl _ _).drew)) (fun hH => ?_)
    refine wpAnyH_take (i := 0) (oi := { dst := some 29, op := Go.Op.load 22 (Go.Operand.tmp 0), type := 22, pos := "fixed.go:170", after := #[], guard := none }) (v := (.int .i64 a)) rfl (by kernel_rfl) (by kernel_rfl) (by kernel_rfl) (fun _ _ _ h => h) (Or.inl ⟨by rfl, ?_⟩) hH ?_
    · intro w hSw
      (try dsimp only at hSw)
      go_simp
    (try simp only [Act.put, List.setIfInBounds_toArray, List.set_cons_zero, List.set_cons_succ])
    refine wpAnyH_take (i := 2) (oi := { dst := some 31, op := Go.Op.load 3 (Go.Operand.tmp 2), type := 3, pos := "fixed.go:170", after := #[], guard := none }) (v := (.int .i64 num)) rfl (by kernel_rfl) (by kernel_rfl) (by kernel_rfl) (fun _ _ _ h => h) (Or.inl ⟨by rfl, ?_⟩) hH ?_
    · intro w hSw
      (try dsimp only at hSw)
      go_simp
    (try simp only [Act.put, List.setIfInBounds_toArray, List.set_cons_zero, List.set_cons_succ])
    refine wpAnyH_take (i := 5) (oi := { dst := some 34, op := Go.Op.load 3 (Go.Operand.tmp 3), type := 3, pos := "fixed.go:170", after := #[], guard := none }) (v := (.int .i64 den)) rfl (by kernel_rfl) (by kernel_rfl) (by kernel_rfl) (fun _ _ _ h => h) (Or.inl ⟨by rfl, ?_⟩) hH ?_
    · intro w hSw
      (try dsimp only at hSw)
      go_simp
    (try simp only [Act.put, List.setIfInBounds_toArray, List.set_cons_zero, List.set_cons_succ])
    refine wpAnyH_take (i := 7) (oi := { dst := some 36, op := Go.Op.load 22 (Go.Operand.tmp 0), type := 22, pos := "fixed.go:170", after := #[], guard := none }) (v := (.int .i64 a)) rfl (by kernel_rfl) (by kernel_rfl) (by kernel_rfl) (fun _ _ _ h => h) (Or.inl ⟨by rfl, ?_⟩) hH ?_
    · intro w hSw
      (try dsimp only at hSw)
      go_simp
    (try simp only [Act.put, List.setIfInBounds_toArray, List.set_cons_zero, List.set_cons_succ])
    refine wpAnyH_take (i := 8) (oi := { dst := some 37, op := Go.Op.binOp Go.BinOp.lss 22 (Go.Operand.tmp 36) (Go.Operand.const (Go.Value.int Go.IntKind.i64 0)) 22, type := 4, pos := "fixed.go:170", after := #[{ on := 7, ground := Go.Ground.data }], guard := none }) (v := (.bool na)) rfl (by kernel_rfl) (by kernel_rfl) (by kernel_rfl) (fun _ _ _ h => h) (Or.inl ⟨by rfl, ?_⟩) hH ?_
    · intro w hSw
      (try dsimp only at hSw)
      go_simp
    (try simp only [Act.put, List.setIfInBounds_toArray, List.set_cons_zero, List.set_cons_succ])
    refine wpAnyH_take (i := 9) (oi := { dst := some 38, op := Go.Op.load 3 (Go.Operand.tmp 2), type := 3, pos := "fixed.go:170", after := #[], guard := none }) (v := (.int .i64 num)) rfl (by kernel_rfl) (by kernel_rfl) (by kernel_rfl) (fun _ _ _ h => h) (Or.inl ⟨by rfl, ?_⟩) hH ?_
    · intro w hSw
      (try dsimp only at hSw)
      go_simp
    (try simp only [Act.put, List.setIfInBounds_toArray, List.set_cons_zero, List.set_cons_succ])
    refine wpAnyH_take (i := 10) (oi := { dst := some 39, op := Go.Op.binOp Go.BinOp.lss 3 (Go.Operand.tmp 38) (Go.Operand.const (Go.Value.int Go.IntKind.i64 0)) 3, type := 4, pos := "fixed.go:170", after := #[{ on := 9, ground := Go.Ground.data }], guard := none }) (v := (.bool nn)) rfl (by kernel_rfl) (by kernel_rfl) (by kernel_rfl) (fun _ _ _ h => h) (Or.inl ⟨by rfl, ?_⟩) hH ?_
    · intro w hSw
      (try dsimp only at hSw)
      go_simp
    (try simp only [Act.put, List.setIfInBounds_toArray, List.set_cons_zero, List.set_cons_succ])
    refine wpAnyH_take (i := 11) (oi := { dst := some 40, op := Go.Op.load 3 (Go.Operand.tmp 3), type := 3, pos := "fixed.go:170", after := #[], guard := none }) (v := (.int .i64 den)) rfl (by kernel_rfl) (by kernel_rfl) (by kernel_rfl) (fun _ _ _ h => h) (Or.inl ⟨by rfl, ?_⟩) hH ?_
    · intro w hSw
      (try dsimp only at hSw)
      go_simp
    (try simp only [Act.put, List.setIfInBounds_toArray, List.set_cons_zero, List.set_cons_succ])
    refine wpAnyH_take (i := 12) (oi := { dst := some 41, op := Go.Op.binOp Go.BinOp.lss 3 (Go.Operand.tmp 40) (Go.Operand.const (Go.Value.int Go.IntKind.i64 0)) 3, type := 4, pos := "fixed.go:170", after := #[{ on := 11, ground := Go.Ground.data }], guard := none }) (v := (.bool nd)) rfl (by kernel_rfl) (by kernel_rfl) (by kernel_rfl) (fun _ _ _ h => h) (Or.inl ⟨by rfl, ?_⟩) hH ?_
    · intro w hSw
      (try dsimp only at hSw)
      go_simp
    (try simp only [Act.put, List.setIfInBounds_toArray, List.set_cons_zero, List.set_cons_succ])
    refine wpAnyH_take (i := 13) (oi := { dst := some 42, op := Go.Op.binOp Go.BinOp.neq 4 (Go.Operand.tmp 39) (Go.Operand.tmp 41) 4, type := 4, pos := "fixed.go:170", after := #[{ on := 10, ground := Go.Ground.data }, { on := 12, ground := Go.Ground.data }], guard := none }) (v := (.bool (nn != nd))) rfl (by kernel_rfl) (by kernel_rfl) (by kernel_rfl) (fun _ _ _ h => h) (Or.inl ⟨by rfl, ?_⟩) hH ?_
    · intro w hSw
      (try dsimp only at hSw)
      go_simp
      cases nn <;> cases nd <;> rfl
    (try simp only [Act.put, List.setIfInBounds_toArray, List.set_cons_zero, List.set_cons_succ])
    refine wpAnyH_take (i := 14) (oi := { dst := some 43, op := Go.Op.binOp Go.BinOp.neq 4 (Go.Operand.tmp 37) (Go.Operand.tmp 42) 4, type := 4, pos := "fixed.go:170", after := #[{ on := 8, ground := Go.Ground.data }, { on := 13, ground := Go.Ground.data }], guard := none }) (v := (.bool (na != (nn != nd)))) rfl (by kernel_rfl) (by kernel_rfl) (by kernel_rfl) (fun _ _ _ h => h) (Or.inl ⟨by rfl, ?_⟩) hH ?_
    · intro w hSw
      (try dsimp only at hSw)
      go_simp
      cases na <;> cases nn <;> cases nd <;> rfl
    (try simp only [Act.put, List.setIfInBounds_toArray, List.set_cons_zero, List.set_cons_succ])
    refine wpAnyH_take (i := 15) (oi := { dst := some 44, op := Go.Op.move (Go.Operand.tmp 5), type := 138, pos := "fixed.go:170", after := #[], guard := none }) (v := (.func (.func f) #[] #[])) rfl (by kernel_rfl) (by kernel_rfl) (by kernel_rfl) (fun _ _ _ h => h) (Or.inl ⟨by rfl, ?_⟩) hH ?_
    · intro w hSw
      (try dsimp only at hSw)
      go_simp
    (try simp only [Act.put, List.setIfInBounds_toArray, List.set_cons_zero, List.set_cons_succ])
    refine wpAnyH_ready (rs := [1]) (by kernel_rfl) (by simp) ?_
    refine AllReadyH.cons rfl (fun K hK => ?_) AllReadyH.nil
    (try dsimp only at hH)
    go_simp
    refine (HSA.out _).mono ?_
    rintro e w1 ⟨rfl, rfl⟩
    refine hK.out _ _ (HQ.out _ ((Below.refl _ _).drew)) (fun hH1 => ?_)
    clear hK K
    (try simp only [Act.put, List.setIfInBounds_toArray, List.set_cons_zero, List.set_cons_succ])
    refine wpAnyH_ready (rs := [3]) (by kernel_rfl) (by simp) ?_
    refine AllReadyH.cons rfl (fun K hK => ?_) AllReadyH.nil
    (try dsimp only at hH1)
    go_simp
    refine (HSN.out _).mono ?_
    rintro e w1 ⟨rfl, rfl⟩
    refine hK.out _ _ (HQ.out _ ((Below.refl _ _).drew)) (fun hH2 => ?_)
    clear hK K
    (try simp only [Act.put, List.setIfInBounds_toArray, List.set_cons_zero, List.set_cons_succ])
    refine wpAnyH_ready (rs := [4]) (by kernel_rfl) (by simp) ?_
    refine AllReadyH.cons rfl (fun K hK => ?_) AllReadyH.nil
    (try dsimp only at hH2)
    go_simp
    refine (HPR.out _).mono ?_
    rintro e w2 ⟨rfl, hb1⟩
    refine hK.out _ _ (HQ.out _ (btrans ((Below.refl _ _).drew) (Nat.le_refl _) hb1)) (fun hH3 => ?_)
    clear hK K
    (try simp only [Act.put, List.setIfInBounds_toArray, List.set_cons_zero, List.set_cons_succ])
    refine wpAnyH_ready (rs := [6]) (by kernel_rfl) (by simp) ?_
    refine AllReadyH.cons rfl (fun K hK => ?_) AllReadyH.nil
    (try dsimp only at hH3)
    go_simp
    refine (HSD.out _).mono ?_
    rintro e w3 ⟨rfl, rfl⟩
    refine hK.out _ _ (HQ.out _ (btrans ((Below.refl _ _).drew) (Nat.le_refl _) hb1)) (fun hH4 => ?_)
    clear hK K
    (try simp only [Act.put, List.setIfInBounds_toArray, List.set_cons_zero, List.set_cons_succ])
    refine wpAnyH_ready (rs := [16]) (by kernel_rfl) (by simp) ?_
    refine AllReadyH.cons rfl (fun K hK => ?_) AllReadyH.nil
    (try dsimp only at hH4)
    go_simp
    refine (HQT.out _).mono ?_
    rintro e w4 ⟨rfl, hb2⟩
    exact ⟨rfl, rfl, HB1.out.trans ((btrans (btrans ((Below.refl _ _).drew) (Nat.le_refl _) hb1) (Nat.le_refl _) hb2).mono HB1.out.size)⟩
-- SCALE
theorem four_new (w : World) (o1 o2 o3 o4 : Obj) : ∃ W, (((w.alloc o1).alloc o2).alloc o3).alloc o4 = W ∧ W.heap.size = w.heap.size + 4 ∧ Below w.heap.size w W ∧ W.heap[w.heap.size]? = some o1 ∧ W.heap[w.heap.size + 1]? = some o2 ∧ W.heap[w.heap.size + 1 + 1]? = some o3 ∧ W.heap[w.heap.size + 1 + 1 + 1]? = some o4 := by
  refine ⟨_, rfl, by simp, ((((Below.refl _ w).alloc (Nat.le_refl _) _).alloc (by simp) _).alloc (by simp <;> omega) _).alloc (by simp <;> omega) _, ?_, ?_, ?_, ?_⟩
  · rw [Below.heap_alloc _ _ _ (by simp <;> omega), Below.heap_alloc _ _ _ (by simp <;> omega), Below.heap_alloc _ _ _ (by simp)]; exact heap_alloc_new w _
  · rw [Below.heap_alloc _ _ _ (by simp <;> omega), Below.heap_alloc _ _ _ (by simp)]; simpa using heap_alloc_new (w.alloc o1) o2
  · rw [Below.heap_alloc _ _ _ (by simp)]; simpa using heap_alloc_new ((w.alloc o1).alloc o2) o3
  · simpa using heap_alloc_new (((w.alloc o1).alloc o2).alloc o3) o4
set_option maxRecDepth 100000 in
theorem scale23_any (a num den how : Int) (f : FuncId) (hf : wayF how = some f) (ha : okF a = true) (hn : -2147483648 ≤ num ∧ num ≤ 2147483648) (hd : -2147483648 ≤ den ∧ den ≤ 2147483648) (hd0 : den ≠ 0) (hp : a.natAbs * num.natAbs < 18446744073709551616) (w : World) :
    Calls Tryz.prog 55 #[.int .i64 a, .int .i64 num, .int .i64 den, .int .i64 how] w fun e w' => e = .returned (.tuple #[.int .i64 (valX (scaleX f a num den)), .int .i64 (errX (scaleX f a num den))]) ∧ Below w.heap.size w w' := by
  obtain ⟨W1, hW1, hz, hb1, p1, p2, p3, p4⟩ := four_new w (.cells #[.int .i64 a] 22) (.cells #[.int .i64 num] 3) (.cells #[.int .i64 den] 3) (.cells #[.int .i64 how] 3)
  have HT := hid (tried_any 100 #[.pointer (some ⟨w.heap.size, 0, none⟩), .pointer (some ⟨w.heap.size + 1 + 1 + 1, 0, none⟩), .pointer (some ⟨w.heap.size + 1, 0, none⟩), .pointer (some ⟨w.heap.size + 1 + 1, 0, none⟩)] (scaleX f a num den) W1 (enters_of Tryz.func100 (by kernel_rfl) rfl) (fun W hb => scale48_any a num den how f hf ha hn hd hd0 hp _ _ _ _ W (bcs hb (by simp [World.cell?, p1])) (bcs hb (by simp [World.cell?, p4])) (bcs hb (by simp [World.cell?, p2])) (bcs hb (by simp [World.cell?, p3]))))
  have HW := hid hW1
  have HB := hid hb1
  have hm := run_makeFunc
  clear hW1 hb1 p1 p2 p3 p4 hn hd ha hp hf
  generalize scaleX f a num den = r at *
  go_enter Tryz.func55, Tryz.ntmps55
  go_wp2_with fail
  rw [HW.out]
  clear HW
  refine HT.out.mono ?_
  rintro e w1 ⟨rfl, hb⟩
  go_wp2_with fail
  go_ret2
  exact ⟨rfl, btrans HB.out (by omega) hb⟩
end Go.Proofs.YtolnhicngepnnaaGreat
