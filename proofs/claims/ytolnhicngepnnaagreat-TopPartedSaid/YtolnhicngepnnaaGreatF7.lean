/- fixed.root. -/
import Derived.Test.YtolnhicngepnnaaGreatF6
namespace Go.Proofs.YtolnhicngepnnaaGreat
open Go.RowKit

/-- What a root is: from its floor n. -/
def rootM (f : FuncId) (a n : Nat) : Nat := if n * n = a then n else if roundR f (cmpN (4 * a) ((2 * n + 1) * (2 * n + 1))) false then n + 1 else n
def signX (n : Nat) (neg : Bool) : Except Int Int := if n ≤ 70368744177664 then .ok (if neg then -(n : Int) else n) else .error 4
theorem wide_inj {x y : Nat} (_h : x < 340282366920938463463374607431768211456) : (x / 18446744073709551616 = y / 18446744073709551616 ∧ x % 18446744073709551616 = y % 18446744073709551616) ↔ x = y := by
  constructor
  · rintro ⟨h1, h2⟩; omega
  · rintro rfl; exact ⟨rfl, rfl⟩
set_option maxRecDepth 100000 in
set_option maxHeartbeats 4000000 in
theorem root34_any (f : FuncId) (hf : isWay f) (a : Nat) (ha : a < 21267647932558653966460912964485513216) (w : World) : Calls Tryz.prog 59 #[wideV a, .func (.func f) #[] #[]] w fun e w' =>
    (∃ n : Nat, (n * n ≤ a ∧ a < (n + 1) * (n + 1)) ∧ EndsX (signX (rootM f a n) false) e) ∧ Below w.heap.size w w' := by
  have hcf := enters_way f hf
  have HRT := hid (fun W => root57_any a (by omega) W)
  have HUP := hid (fun W => up_any a (by omega) W)
  obtain ⟨hi, hhi⟩ : ∃ hi, a / 18446744073709551616 = hi := ⟨_, rfl⟩
  obtain ⟨lo, hlo⟩ : ∃ lo, a % 18446744073709551616 = lo := ⟨_, rfl⟩
  have HV := hid (show wideV a = .agg #[.int .u64 (hi : Int), .int .u64 (lo : Int)] by rw [wideV, hhi, hlo])
  have HHL := hid (And.intro hhi hlo)
  rw [HV.out] at HRT HUP ⊢
  clear hhi hlo
  obtain ⟨W2, hW2⟩ : ∃ W2, w.alloc (.cells #[.int .u64 (hi : Int), .int .u64 (lo : Int)] 149) = W2 := ⟨_, rfl⟩
  have hp := heap_alloc_new w (.cells #[.int .u64 (hi : Int), .int .u64 (lo : Int)] 149)
  have hb := (Below.refl w.heap.size w).alloc (Nat.le_refl _) (.cells #[.int .u64 (hi : Int), .int .u64 (lo : Int)] 149)
  have hz : W2.heap.size = w.heap.size + 1 := by rw [← hW2]; simp
  rw [hW2] at hp hb
  have c0 : W2.cell? ⟨w.heap.size, 0, none⟩ = some (.int .u64 (hi : Int)) := by simp [World.cell?, hp]
  have c1 : W2.cell? ⟨w.heap.size, 1, none⟩ = some (.int .u64 (lo : Int)) := by simp [World.cell?, hp]
  have HQ := hid (show ∀ W, Below W2.heap.size W2 W → W.cell? ⟨w.heap.size, 0, none⟩ = some (.int .u64 (hi : Int)) ∧ W.cell? ⟨w.heap.size, 1, none⟩ = some (.int .u64 (lo : Int)) from fun W hb => ⟨bcs hb c0, bcs hb c1⟩)
  have HB := hid hb
  have HW2 := hid hW2
  clear hp hb hW2
  go_enter Tryz.func59, Tryz.ntmps59
  go_wp2_with fail
  rw [HW2.out]
  refine (HRT.out _).mono ?_
  rintro e W3 ⟨⟨n, rfl, hn1, hn2, hn3⟩, hb3⟩
  have HN := hid (And.intro hn1 hn2)
  have HQ3 := hid (show ∀ W, Below W3.heap.size W3 W → W.cell? ⟨w.heap.size, 0, none⟩ = some (.int .u64 (hi : Int)) ∧ W.cell? ⟨w.heap.size, 1, none⟩ = some (.int .u64 (lo : Int)) from fun W hb => HQ.out W (btrans hb3 (Nat.le_refl _) hb))
  have HB3 := hid (btrans HB.out (by omega) hb3)
  have hz3 := hb3.size
  clear HW2 HRT HQ c0 c1 hb3 hn1 hn2
  have hnn : n < 18446744073709551616 := by omega
  have HP := hid (fun W => product_any n n hnn hnn W)
  have HM := hid (show rootM f a n = if n * n = a then n else if roundR f (cmpN (4 * a) ((2 * n + 1) * (2 * n + 1))) false then n + 1 else n from rfl)
  have HWI := hid (wide_inj (x := n * n) (y := a) (by have : n * n < 18446744073709551616 * 18446744073709551616 := Nat.mul_lt_mul'' hnn hnn; omega))
  obtain ⟨ph, hph⟩ : ∃ ph, n * n / 18446744073709551616 = ph := ⟨_, rfl⟩
  obtain ⟨pl, hpl⟩ : ∃ pl, n * n % 18446744073709551616 = pl := ⟨_, rfl⟩
  rw [hph, hpl, HHL.out.1, HHL.out.2] at HWI
  rw [show wideV (n * n) = .agg #[.int .u64 (ph : Int), .int .u64 (pl : Int)] by rw [wideV, hph, hpl]] at HP
  clear hph hpl
  by_cases heq : n * n = a
  · obtain ⟨rfl, rfl⟩ := HWI.out.2 heq
    rw [if_pos heq] at HM
    have HSG := hid (fun W => signed_any n false hnn W)
    go_upto_region 2 with fail
    go_cut [5, 26] (fun x y wx => x = .int .u64 (n : Int) ∧ y = .bool false ∧ Below W3.heap.size W3 wx)
    case first =>
      refine wp_region_held_drew (S := (fun W => W.cell? ⟨w.heap.size, 0, none⟩ = some (.int .u64 (ph : Int)) ∧ W.cell? ⟨w.heap.size, 1, none⟩ = some (.int .u64 (pl : Int)))) (by kernel_rfl) (HQ3.out _ ((Below.refl _ _).drew)) (fun hHeld => ?_)
      refine wpAnyH_take (i := 0) (oi := { dst := some 8, op := Go.Op.move (Go.Operand.tmp 5), type := 147, pos := "fixed.go:89", after := #[], guard := none }) (v := .int .u64 (n : Int)) rfl (by kernel_rfl) (by kernel_rfl) (by kernel_rfl) (fun _ _ _ h => h) (Or.inl ⟨by rfl, ?_⟩) hHeld ?_
      · intro w hSw
        (try dsimp only at hSw)
        go_simp
      (try simp only [Act.put, List.setIfInBounds_toArray, List.set_cons_zero, List.set_cons_succ])
      refine wpAnyH_take (i := 1) (oi := { dst := some 9, op := Go.Op.move (Go.Operand.tmp 5), type := 147, pos := "fixed.go:89", after := #[], guard := none }) (v := .int .u64 (n : Int)) rfl (by kernel_rfl) (by kernel_rfl) (by kernel_rfl) (fun _ _ _ h => h) (Or.inl ⟨by rfl, ?_⟩) hHeld ?_
      · intro w hSw
        (try dsimp only at hSw)
        go_simp
      (try simp only [Act.put, List.setIfInBounds_toArray, List.set_cons_zero, List.set_cons_succ])
      refine wpAnyH_take (i := 3) (oi := { dst := some 11, op := Go.Op.load 149 (Go.Operand.tmp 2), type := 149, pos := "fixed.go:89", after := #[], guard := none }) (v := .agg #[.int .u64 (ph : Int), .int .u64 (pl : Int)]) rfl (by kernel_rfl) (by kernel_rfl) (by kernel_rfl) (fun _ _ _ h => h) (Or.inl ⟨by rfl, ?_⟩) hHeld ?_
      · intro w hSw
        (try dsimp only at hSw)
        go_simp
      (try simp only [Act.put, List.setIfInBounds_toArray, List.set_cons_zero, List.set_cons_succ])
      refine wpAnyH_ready (rs := [2]) (by kernel_rfl) (by simp) ?_
      refine AllReadyH.cons rfl (fun K hK => ?_) AllReadyH.nil
      go_simp
      refine (HP.out _).mono ?_
      rintro e w1 ⟨rfl, hb1⟩
      refine hK.out _ _ (HQ3.out _ (btrans ((Below.refl _ _).drew) (Nat.le_refl _) hb1)) (fun hHeld2 => ?_)
      clear hK K
      (try simp only [Act.put, List.setIfInBounds_toArray, List.set_cons_zero, List.set_cons_succ])
      refine wpAnyH_take (i := 4) (oi := { dst := some 12, op := Go.Op.binOp Go.BinOp.neq 149 (Go.Operand.tmp 10) (Go.Operand.tmp 11) 149, type := 4, pos := "fixed.go:89", after := #[{ on := 2, ground := Go.Ground.data }, { on := 3, ground := Go.Ground.data }], guard := none }) (v := .bool false) rfl (by kernel_rfl) (by kernel_rfl) (by kernel_rfl) (fun _ _ _ h => h) (Or.inl ⟨by rfl, ?_⟩) hHeld2 ?_
      · intro w hSw
        (try dsimp only at hSw)
        go_simp
      (try simp only [Act.put, List.setIfInBounds_toArray, List.set_cons_zero, List.set_cons_succ])
      refine wpAnyH_take (i := 5) (oi := { dst := some 13, op := Go.Op.move (Go.Operand.tmp 12), type := 4, pos := "fixed.go:89", after := #[{ on := 4, ground := Go.Ground.data }, { on := 2, ground := Go.Ground.chain }], guard := none }) (v := .bool false) rfl (by kernel_rfl) (by kernel_rfl) (by kernel_rfl) (fun _ _ _ h => h) (Or.inl ⟨by rfl, ?_⟩) hHeld2 ?_
      · intro w hSw
        (try dsimp only at hSw)
        go_simp
      (try simp only [Act.put, List.setIfInBounds_toArray, List.set_cons_zero, List.set_cons_succ])
      refine wpAnyH_take (i := 6) (oi := { dst := some 14, op := Go.Op.move (Go.Operand.tmp 1), type := 138, pos := "fixed.go:89", after := #[{ on := 5, ground := Go.Ground.guard }], guard := some (5, true) }) (v := undef) rfl (by kernel_rfl) (by kernel_rfl) (by kernel_rfl) (fun _ _ _ h => h) (Or.inr ⟨by rfl, rfl⟩) hHeld2 ?_
      (try simp only [Act.put, List.setIfInBounds_toArray, List.set_cons_zero, List.set_cons_succ])
      refine wpAnyH_take (i := 7) (oi := { dst := some 15, op := Go.Op.load 149 (Go.Operand.tmp 2), type := 149, pos := "fixed.go:89", after := #[{ on := 5, ground := Go.Ground.guard }], guard := some (5, true) }) (v := undef) rfl (by kernel_rfl) (by kernel_rfl) (by kernel_rfl) (fun _ _ _ h => h) (Or.inr ⟨by rfl, rfl⟩) hHeld2 ?_
      (try simp only [Act.put, List.setIfInBounds_toArray, List.set_cons_zero, List.set_cons_succ])
      refine wpAnyH_take (i := 8) (oi := { dst := some 16, op := Go.Op.call { callee := Go.Callee.value (Go.Operand.func 103), args := #[Go.Operand.tmp 15, Go.Operand.const (Go.Value.int Go.IntKind.u64 2)], argTypes := #[149, 197] }, type := 149, pos := "fixed.go:89", after := #[{ on := 7, ground := Go.Ground.data }, { on := 5, ground := Go.Ground.chain }, { on := 5, ground := Go.Ground.guard }], guard := some (5, true) }) (v := undef) rfl (by kernel_rfl) (by kernel_rfl) (by kernel_rfl) (fun _ _ _ h => h) (Or.inr ⟨by rfl, rfl⟩) hHeld2 ?_
      (try simp only [Act.put, List.setIfInBounds_toArray, List.set_cons_zero, List.set_cons_succ])
      refine wpAnyH_take (i := 9) (oi := { dst := some 17, op := Go.Op.move (Go.Operand.tmp 5), type := 147, pos := "fixed.go:89", after := #[{ on := 5, ground := Go.Ground.guard }], guard := some (5, true) }) (v := undef) rfl (by kernel_rfl) (by kernel_rfl) (by kernel_rfl) (fun _ _ _ h => h) (Or.inr ⟨by rfl, rfl⟩) hHeld2 ?_
      (try simp only [Act.put, List.setIfInBounds_toArray, List.set_cons_zero, List.set_cons_succ])
      refine wpAnyH_take (i := 10) (oi := { dst := some 18, op := Go.Op.binOp Go.BinOp.mul 147 (Go.Operand.const (Go.Value.int Go.IntKind.u64 2)) (Go.Operand.tmp 17) 147, type := 147, pos := "fixed.go:89", after := #[{ on := 9, ground := Go.Ground.data }, { on := 5, ground := Go.Ground.guard }], guard := some (5, true) }) (v := undef) rfl (by kernel_rfl) (by kernel_rfl) (by kernel_rfl) (fun _ _ _ h => h) (Or.inr ⟨by rfl, rfl⟩) hHeld2 ?_
      (try simp only [Act.put, List.setIfInBounds_toArray, List.set_cons_zero, List.set_cons_succ])
      refine wpAnyH_take (i := 11) (oi := { dst := some 19, op := Go.Op.binOp Go.BinOp.add 147 (Go.Operand.tmp 18) (Go.Operand.const (Go.Value.int Go.IntKind.u64 1)) 147, type := 147, pos := "fixed.go:89", after := #[{ on := 10, ground := Go.Ground.data }, { on := 5, ground := Go.Ground.guard }], guard := some (5, true) }) (v := undef) rfl (by kernel_rfl) (by kernel_rfl) (by kernel_rfl) (fun _ _ _ h => h) (Or.inr ⟨by rfl, rfl⟩) hHeld2 ?_
      (try simp only [Act.put, List.setIfInBounds_toArray, List.set_cons_zero, List.set_cons_succ])
      refine wpAnyH_take (i := 12) (oi := { dst := some 20, op := Go.Op.move (Go.Operand.tmp 5), type := 147, pos := "fixed.go:89", after := #[{ on := 5, ground := Go.Ground.guard }], guard := some (5, true) }) (v := undef) rfl (by kernel_rfl) (by kernel_rfl) (by kernel_rfl) (fun _ _ _ h => h) (Or.inr ⟨by rfl, rfl⟩) hHeld2 ?_
      (try simp only [Act.put, List.setIfInBounds_toArray, List.set_cons_zero, List.set_cons_succ])
      refine wpAnyH_take (i := 13) (oi := { dst := some 21, op := Go.Op.binOp Go.BinOp.mul 147 (Go.Operand.const (Go.Value.int Go.IntKind.u64 2)) (Go.Operand.tmp 20) 147, type := 147, pos := "fixed.go:89", after := #[{ on := 12, ground := Go.Ground.data }, { on := 5, ground := Go.Ground.guard }], guard := some (5, true) }) (v := undef) rfl (by kernel_rfl) (by kernel_rfl) (by kernel_rfl) (fun _ _ _ h => h) (Or.inr ⟨by rfl, rfl⟩) hHeld2 ?_
      (try simp only [Act.put, List.setIfInBounds_toArray, List.set_cons_zero, List.set_cons_succ])
      refine wpAnyH_take (i := 14) (oi := { dst := some 22, op := Go.Op.binOp Go.BinOp.add 147 (Go.Operand.tmp 21) (Go.Operand.const (Go.Value.int Go.IntKind.u64 1)) 147, type := 147, pos := "fixed.go:89", after := #[{ on := 13, ground := Go.Ground.data }, { on := 5, ground := Go.Ground.guard }], guard := some (5, true) }) (v := undef) rfl (by kernel_rfl) (by kernel_rfl) (by kernel_rfl) (fun _ _ _ h => h) (Or.inr ⟨by rfl, rfl⟩) hHeld2 ?_
      (try simp only [Act.put, List.setIfInBounds_toArray, List.set_cons_zero, List.set_cons_succ])
      refine wpAnyH_take (i := 15) (oi := { dst := some 23, op := Go.Op.call { callee := Go.Callee.value (Go.Operand.func 60), args := #[Go.Operand.tmp 19, Go.Operand.tmp 22], argTypes := #[147, 147] }, type := 149, pos := "fixed.go:89", after := #[{ on := 11, ground := Go.Ground.data }, { on := 14, ground := Go.Ground.data }, { on := 8, ground := Go.Ground.chain }, { on := 5, ground := Go.Ground.guard }], guard := some (5, true) }) (v := undef) rfl (by kernel_rfl) (by kernel_rfl) (by kernel_rfl) (fun _ _ _ h => h) (Or.inr ⟨by rfl, rfl⟩) hHeld2 ?_
      (try simp only [Act.put, List.setIfInBounds_toArray, List.set_cons_zero, List.set_cons_succ])
      refine wpAnyH_take (i := 16) (oi := { dst := some 24, op := Go.Op.call { callee := Go.Callee.value (Go.Operand.func 104), args := #[Go.Operand.tmp 16, Go.Operand.tmp 23], argTypes := #[149, 149] }, type := 3, pos := "fixed.go:89", after := #[{ on := 8, ground := Go.Ground.data }, { on := 15, ground := Go.Ground.data }, { on := 15, ground := Go.Ground.chain }, { on := 5, ground := Go.Ground.guard }], guard := some (5, true) }) (v := undef) rfl (by kernel_rfl) (by kernel_rfl) (by kernel_rfl) (fun _ _ _ h => h) (Or.inr ⟨by rfl, rfl⟩) hHeld2 ?_
      (try simp only [Act.put, List.setIfInBounds_toArray, List.set_cons_zero, List.set_cons_succ])
      refine wpAnyH_take (i := 17) (oi := { dst := some 25, op := Go.Op.call { callee := Go.Callee.value (Go.Operand.tmp 14), args := #[Go.Operand.tmp 24, Go.Operand.const (Go.Value.bool false)], argTypes := #[3, 4] }, type := 4, pos := "fixed.go:89", after := #[{ on := 6, ground := Go.Ground.data }, { on := 16, ground := Go.Ground.data }, { on := 16, ground := Go.Ground.chain }, { on := 5, ground := Go.Ground.guard }], guard := some (5, true) }) (v := undef) rfl (by kernel_rfl) (by kernel_rfl) (by kernel_rfl) (fun _ _ _ h => h) (Or.inr ⟨by rfl, rfl⟩) hHeld2 ?_
      (try simp only [Act.put, List.setIfInBounds_toArray, List.set_cons_zero, List.set_cons_succ])
      refine wpAnyH_take (i := 18) (oi := { dst := some 26, op := Go.Op.pick (Go.Operand.tmp 13) (Go.Operand.tmp 25) (Go.Operand.const (Go.Value.bool false)), type := 4, pos := "fixed.go:89", after := #[{ on := 5, ground := Go.Ground.data }, { on := 17, ground := Go.Ground.data }], guard := none }) (v := .bool false) rfl (by kernel_rfl) (by kernel_rfl) (by kernel_rfl) (fun _ _ _ h => h) (Or.inl ⟨by rfl, ?_⟩) hHeld2 ?_
      · intro w hSw
        (try dsimp only at hSw)
        go_simp
      (try simp only [Act.put, List.setIfInBounds_toArray, List.set_cons_zero, List.set_cons_succ])
      refine wpAnyH_done (by kernel_rfl) ?_ _
      go_wp2_with fail
      go_meet
      exact ⟨rfl, rfl, btrans ((Below.refl _ _).drew) (Nat.le_refl _) hb1⟩
    case rest =>
      obtain ⟨rfl, rfl, hb4⟩ := hcut
      have HB4 := hid (btrans HB3.out (by omega) hb4)
      clear hb4
      go_wp2_with fail
      refine (HSG.out _).mono ?_
      rintro e w9 ⟨he, rfl⟩
      by_cases h46 : n ≤ 70368744177664
      · rw [if_pos h46] at he
        obtain rfl : e = .returned (.int .i64 (n : Int)) := he
        go_wp2_with fail
        go_ret
        exact ⟨⟨n, HN.out, by rw [HM.out, signX, if_pos h46]; rfl⟩, HB4.out⟩
      · rw [if_neg h46] at he
        obtain rfl : e = .panicked (misfit 4) := he
        exact ⟨rfl, ⟨n, HN.out, by rw [HM.out, signX, if_neg h46]; rfl⟩, HB4.out⟩
  · rw [if_neg heq] at HM
    have hne : ¬ (ph = hi ∧ pl = lo) := fun h => heq (HWI.out.1 h)
    have hm2 : 2 * n + 1 < 18446744073709551616 := by omega
    have HP2 := hid (fun W => product_any (2 * n + 1) (2 * n + 1) hm2 hm2 W)
    have HC := hid (fun W => compareW_any (4 * a) ((2 * n + 1) * (2 * n + 1)) W)
    obtain ⟨cv, hcv⟩ : ∃ cv, cmpN (4 * a) ((2 * n + 1) * (2 * n + 1)) = cv := ⟨_, rfl⟩
    rw [hcv] at HM HC
    obtain ⟨rb, hrb⟩ : ∃ rb, roundR f cv false = rb := ⟨_, rfl⟩
    have HRD := hid (fun W => round_any f hf cv false W)
    rw [hrb] at HM HRD
    generalize wideV ((2 * n + 1) * (2 * n + 1)) = mv at *
    generalize wideV (4 * a) = uv at *
    rw [show ((2 * n + 1 : Nat) : Int) = 2 * (n : Int) + 1 by simp] at HP2
    clear hcv hrb HWI heq
    go_upto_region 2 with fail
    go_cut [5, 26] (fun x y wx => x = .int .u64 (n : Int) ∧ y = .bool rb ∧ Below W3.heap.size W3 wx)
    case first =>
      by_cases hph : ph = hi
      · have hpl2 : ¬ pl = lo := fun h => hne ⟨hph, h⟩
        clear hne
        refine wp_region_held_drew (S := (fun W => W.cell? ⟨w.heap.size, 0, none⟩ = some (.int .u64 (hi : Int)) ∧ W.cell? ⟨w.heap.size, 1, none⟩ = some (.int .u64 (lo : Int)))) (by kernel_rfl) (HQ3.out _ ((Below.refl _ _).drew)) (fun hHeld => ?_)
        refine wpAnyH_take (i := 0) (oi := { dst := some 8, op := Go.Op.move (Go.Operand.tmp 5), type := 147, pos := "fixed.go:89", after := #[], guard := none }) (v := (.int .u64 (n : Int))) rfl (by kernel_rfl) (by kernel_rfl) (by kernel_rfl) (fun _ _ _ h => h) (Or.inl ⟨by rfl, ?_⟩) hHeld ?_
        · intro w hSw
          (try dsimp only at hSw)
          go_simp
        (try simp only [Act.put, List.setIfInBounds_toArray, List.set_cons_zero, List.set_cons_succ])
        refine wpAnyH_take (i := 1) (oi := { dst := some 9, op := Go.Op.move (Go.Operand.tmp 5), type := 147, pos := "fixed.go:89", after := #[], guard := none }) (v := (.int .u64 (n : Int))) rfl (by kernel_rfl) (by kernel_rfl) (by kernel_rfl) (fun _ _ _ h => h) (Or.inl ⟨by rfl, ?_⟩) hHeld ?_
        · intro w hSw
          (try dsimp only at hSw)
          go_simp
        (try simp only [Act.put, List.setIfInBounds_toArray, List.set_cons_zero, List.set_cons_succ])
        refine wpAnyH_take (i := 3) (oi := { dst := some 11, op := Go.Op.load 149 (Go.Operand.tmp 2), type := 149, pos := "fixed.go:89", after := #[], guard := none }) (v := (.agg #[.int .u64 (hi : Int), .int .u64 (lo : Int)])) rfl (by kernel_rfl) (by kernel_rfl) (by kernel_rfl) (fun _ _ _ h => h) (Or.inl ⟨by rfl, ?_⟩) hHeld ?_
        · intro w hSw
          (try dsimp only at hSw)
          go_simp
        (try simp only [Act.put, List.setIfInBounds_toArray, List.set_cons_zero, List.set_cons_succ])
        refine wpAnyH_ready (rs := [2]) (by kernel_rfl) (by simp) ?_
        refine AllReadyH.cons rfl (fun K hK => ?_) AllReadyH.nil
        go_simp
        refine (HP.out _).mono ?_
        rintro e w1 ⟨rfl, hb1⟩
        refine hK.out _ _ (HQ3.out _ (btrans ((Below.refl _ _).drew) (Nat.le_refl _) hb1)) (fun w1H => ?_)
        clear hK K
        (try simp only [Act.put, List.setIfInBounds_toArray, List.set_cons_zero, List.set_cons_succ])
        refine wpAnyH_take (i := 4) (oi := { dst := some 12, op := Go.Op.binOp Go.BinOp.neq 149 (Go.Operand.tmp 10) (Go.Operand.tmp 11) 149, type := 4, pos := "fixed.go:89", after := #[{ on := 2, ground := Go.Ground.data }, { on := 3, ground := Go.Ground.data }], guard := none }) (v := (.bool true)) rfl (by kernel_rfl) (by kernel_rfl) (by kernel_rfl) (fun _ _ _ h => h) (Or.inl ⟨by rfl, ?_⟩) w1H ?_
        · intro w hSw
          (try dsimp only at hSw)
          go_simp
          first | omega | (intro hh; omega)
        (try simp only [Act.put, List.setIfInBounds_toArray, List.set_cons_zero, List.set_cons_succ])
        refine wpAnyH_take (i := 5) (oi := { dst := some 13, op := Go.Op.move (Go.Operand.tmp 12), type := 4, pos := "fixed.go:89", after := #[{ on := 4, ground := Go.Ground.data }, { on := 2, ground := Go.Ground.chain }], guard := none }) (v := (.bool true)) rfl (by kernel_rfl) (by kernel_rfl) (by kernel_rfl) (fun _ _ _ h => h) (Or.inl ⟨by rfl, ?_⟩) w1H ?_
        · intro w hSw
          (try dsimp only at hSw)
          go_simp
        (try simp only [Act.put, List.setIfInBounds_toArray, List.set_cons_zero, List.set_cons_succ])
        refine wpAnyH_take (i := 6) (oi := { dst := some 14, op := Go.Op.move (Go.Operand.tmp 1), type := 138, pos := "fixed.go:89", after := #[{ on := 5, ground := Go.Ground.guard }], guard := some (5, true) }) (v := (.func (.func f) #[] #[])) rfl (by kernel_rfl) (by kernel_rfl) (by kernel_rfl) (fun _ _ _ h => h) (Or.inl ⟨by rfl, ?_⟩) w1H ?_
        · intro w hSw
          (try dsimp only at hSw)
          go_simp
        (try simp only [Act.put, List.setIfInBounds_toArray, List.set_cons_zero, List.set_cons_succ])
        refine wpAnyH_take (i := 7) (oi := { dst := some 15, op := Go.Op.load 149 (Go.Operand.tmp 2), type := 149, pos := "fixed.go:89", after := #[{ on := 5, ground := Go.Ground.guard }], guard := some (5, true) }) (v := (.agg #[.int .u64 (hi : Int), .int .u64 (lo : Int)])) rfl (by kernel_rfl) (by kernel_rfl) (by kernel_rfl) (fun _ _ _ h => h) (Or.inl ⟨by rfl, ?_⟩) w1H ?_
        · intro w hSw
          (try dsimp only at hSw)
          go_simp
        (try simp only [Act.put, List.setIfInBounds_toArray, List.set_cons_zero, List.set_cons_succ])
        refine wpAnyH_take (i := 9) (oi := { dst := some 17, op := Go.Op.move (Go.Operand.tmp 5), type := 147, pos := "fixed.go:89", after := #[{ on := 5, ground := Go.Ground.guard }], guard := some (5, true) }) (v := (.int .u64 (n : Int))) rfl (by kernel_rfl) (by kernel_rfl) (by kernel_rfl) (fun _ _ _ h => h) (Or.inl ⟨by rfl, ?_⟩) w1H ?_
        · intro w hSw
          (try dsimp only at hSw)
          go_simp
        (try simp only [Act.put, List.setIfInBounds_toArray, List.set_cons_zero, List.set_cons_succ])
        refine wpAnyH_take (i := 10) (oi := { dst := some 18, op := Go.Op.binOp Go.BinOp.mul 147 (Go.Operand.const (Go.Value.int Go.IntKind.u64 2)) (Go.Operand.tmp 17) 147, type := 147, pos := "fixed.go:89", after := #[{ on := 9, ground := Go.Ground.data }, { on := 5, ground := Go.Ground.guard }], guard := some (5, true) }) (v := (.int .u64 (2 * (n : Int)))) rfl (by kernel_rfl) (by kernel_rfl) (by kernel_rfl) (fun _ _ _ h => h) (Or.inl ⟨by rfl, ?_⟩) w1H ?_
        · intro w hSw
          (try dsimp only at hSw)
          go_simp
          rw [IntKind.wrap_u64]; omega
        (try simp only [Act.put, List.setIfInBounds_toArray, List.set_cons_zero, List.set_cons_succ])
        refine wpAnyH_take (i := 11) (oi := { dst := some 19, op := Go.Op.binOp Go.BinOp.add 147 (Go.Operand.tmp 18) (Go.Operand.const (Go.Value.int Go.IntKind.u64 1)) 147, type := 147, pos := "fixed.go:89", after := #[{ on := 10, ground := Go.Ground.data }, { on := 5, ground := Go.Ground.guard }], guard := some (5, true) }) (v := (.int .u64 (2 * (n : Int) + 1))) rfl (by kernel_rfl) (by kernel_rfl) (by kernel_rfl) (fun _ _ _ h => h) (Or.inl ⟨by rfl, ?_⟩) w1H ?_
        · intro w hSw
          (try dsimp only at hSw)
          go_simp
          rw [IntKind.wrap_u64]; omega
        (try simp only [Act.put, List.setIfInBounds_toArray, List.set_cons_zero, List.set_cons_succ])
        refine wpAnyH_take (i := 12) (oi := { dst := some 20, op := Go.Op.move (Go.Operand.tmp 5), type := 147, pos := "fixed.go:89", after := #[{ on := 5, ground := Go.Ground.guard }], guard := some (5, true) }) (v := (.int .u64 (n : Int))) rfl (by kernel_rfl) (by kernel_rfl) (by kernel_rfl) (fun _ _ _ h => h) (Or.inl ⟨by rfl, ?_⟩) w1H ?_
        · intro w hSw
          (try dsimp only at hSw)
          go_simp
        (try simp only [Act.put, List.setIfInBounds_toArray, List.set_cons_zero, List.set_cons_succ])
        refine wpAnyH_take (i := 13) (oi := { dst := some 21, op := Go.Op.binOp Go.BinOp.mul 147 (Go.Operand.const (Go.Value.int Go.IntKind.u64 2)) (Go.Operand.tmp 20) 147, type := 147, pos := "fixed.go:89", after := #[{ on := 12, ground := Go.Ground.data }, { on := 5, ground := Go.Ground.guard }], guard := some (5, true) }) (v := (.int .u64 (2 * (n : Int)))) rfl (by kernel_rfl) (by kernel_rfl) (by kernel_rfl) (fun _ _ _ h => h) (Or.inl ⟨by rfl, ?_⟩) w1H ?_
        · intro w hSw
          (try dsimp only at hSw)
          go_simp
          rw [IntKind.wrap_u64]; omega
        (try simp only [Act.put, List.setIfInBounds_toArray, List.set_cons_zero, List.set_cons_succ])
        refine wpAnyH_take (i := 14) (oi := { dst := some 22, op := Go.Op.binOp Go.BinOp.add 147 (Go.Operand.tmp 21) (Go.Operand.const (Go.Value.int Go.IntKind.u64 1)) 147, type := 147, pos := "fixed.go:89", after := #[{ on := 13, ground := Go.Ground.data }, { on := 5, ground := Go.Ground.guard }], guard := some (5, true) }) (v := (.int .u64 (2 * (n : Int) + 1))) rfl (by kernel_rfl) (by kernel_rfl) (by kernel_rfl) (fun _ _ _ h => h) (Or.inl ⟨by rfl, ?_⟩) w1H ?_
        · intro w hSw
          (try dsimp only at hSw)
          go_simp
          rw [IntKind.wrap_u64]; omega
        (try simp only [Act.put, List.setIfInBounds_toArray, List.set_cons_zero, List.set_cons_succ])
        refine wpAnyH_ready (rs := [8]) (by kernel_rfl) (by simp) ?_
        refine AllReadyH.cons rfl (fun K hK => ?_) AllReadyH.nil
        · go_simp
          refine (HUP.out _).mono ?_
          rintro e w2 ⟨rfl, hb2⟩
          refine hK.out _ _ (HQ3.out _ (btrans (btrans ((Below.refl _ _).drew) (Nat.le_refl _) hb1) (Nat.le_refl _) hb2)) (fun w2H => ?_)
          clear hK K
          (try simp only [Act.put, List.setIfInBounds_toArray, List.set_cons_zero, List.set_cons_succ])
          refine wpAnyH_ready (rs := [15]) (by kernel_rfl) (by simp) ?_
          refine AllReadyH.cons rfl (fun K hK => ?_) AllReadyH.nil
          go_simp
          refine (HP2.out _).mono ?_
          rintro e w3 ⟨rfl, hb3⟩
          refine hK.out _ _ (HQ3.out _ (btrans (btrans (btrans ((Below.refl _ _).drew) (Nat.le_refl _) hb1) (Nat.le_refl _) hb2) (Nat.le_refl _) hb3)) (fun w3H => ?_)
          clear hK K
          (try simp only [Act.put, List.setIfInBounds_toArray, List.set_cons_zero, List.set_cons_succ])
          refine wpAnyH_ready (rs := [16]) (by kernel_rfl) (by simp) ?_
          refine AllReadyH.cons rfl (fun K hK => ?_) AllReadyH.nil
          go_simp
          refine (HC.out _).mono ?_
          rintro e w4 ⟨rfl, hb4⟩
          refine hK.out _ _ (HQ3.out _ (btrans (btrans (btrans (btrans ((Below.refl _ _).drew) (Nat.le_refl _) hb1) (Nat.le_refl _) hb2) (Nat.le_refl _) hb3) (Nat.le_refl _) hb4)) (fun w4H => ?_)
          clear hK K
          (try simp only [Act.put, List.setIfInBounds_toArray, List.set_cons_zero, List.set_cons_succ])
          refine wpAnyH_ready (rs := [17]) (by kernel_rfl) (by simp) ?_
          refine AllReadyH.cons rfl (fun K hK => ?_) AllReadyH.nil
          go_simp
          refine (HRD.out _).mono ?_
          rintro e w5 ⟨rfl, rfl⟩
          refine hK.out _ _ (HQ3.out _ (btrans (btrans (btrans (btrans ((Below.refl _ _).drew) (Nat.le_refl _) hb1) (Nat.le_refl _) hb2) (Nat.le_refl _) hb3) (Nat.le_refl _) hb4)) (fun w5H => ?_)
          clear hK K
          (try simp only [Act.put, List.setIfInBounds_toArray, List.set_cons_zero, List.set_cons_succ])
          refine wpAnyH_take (i := 18) (oi := { dst := some 26, op := Go.Op.pick (Go.Operand.tmp 13) (Go.Operand.tmp 25) (Go.Operand.const (Go.Value.bool false)), type := 4, pos := "fixed.go:89", after := #[{ on := 5, ground := Go.Ground.data }, { on := 17, ground := Go.Ground.data }], guard := none }) (v := (.bool rb)) rfl (by kernel_rfl) (by kernel_rfl) (by kernel_rfl) (fun _ _ _ h => h) (Or.inl ⟨by rfl, ?_⟩) w5H ?_
          · intro w hSw
            (try dsimp only at hSw)
            go_simp
          (try simp only [Act.put, List.setIfInBounds_toArray, List.set_cons_zero, List.set_cons_succ])
          refine wpAnyH_done (by kernel_rfl) ?_ _
          go_wp2_with fail
          go_meet
          exact ⟨rfl, rfl, btrans (btrans (btrans (btrans ((Below.refl _ _).drew) (Nat.le_refl _) hb1) (Nat.le_refl _) hb2) (Nat.le_refl _) hb3) (Nat.le_refl _) hb4⟩
      · clear hne
        refine wp_region_held_drew (S := (fun W => W.cell? ⟨w.heap.size, 0, none⟩ = some (.int .u64 (hi : Int)) ∧ W.cell? ⟨w.heap.size, 1, none⟩ = some (.int .u64 (lo : Int)))) (by kernel_rfl) (HQ3.out _ ((Below.refl _ _).drew)) (fun hHeld => ?_)
        refine wpAnyH_take (i := 0) (oi := { dst := some 8, op := Go.Op.move (Go.Operand.tmp 5), type := 147, pos := "fixed.go:89", after := #[], guard := none }) (v := (.int .u64 (n : Int))) rfl (by kernel_rfl) (by kernel_rfl) (by kernel_rfl) (fun _ _ _ h => h) (Or.inl ⟨by rfl, ?_⟩) hHeld ?_
        · intro w hSw
          (try dsimp only at hSw)
          go_simp
        (try simp only [Act.put, List.setIfInBounds_toArray, List.set_cons_zero, List.set_cons_succ])
        refine wpAnyH_take (i := 1) (oi := { dst := some 9, op := Go.Op.move (Go.Operand.tmp 5), type := 147, pos := "fixed.go:89", after := #[], guard := none }) (v := (.int .u64 (n : Int))) rfl (by kernel_rfl) (by kernel_rfl) (by kernel_rfl) (fun _ _ _ h => h) (Or.inl ⟨by rfl, ?_⟩) hHeld ?_
        · intro w hSw
          (try dsimp only at hSw)
          go_simp
        (try simp only [Act.put, List.setIfInBounds_toArray, List.set_cons_zero, List.set_cons_succ])
        refine wpAnyH_take (i := 3) (oi := { dst := some 11, op := Go.Op.load 149 (Go.Operand.tmp 2), type := 149, pos := "fixed.go:89", after := #[], guard := none }) (v := (.agg #[.int .u64 (hi : Int), .int .u64 (lo : Int)])) rfl (by kernel_rfl) (by kernel_rfl) (by kernel_rfl) (fun _ _ _ h => h) (Or.inl ⟨by rfl, ?_⟩) hHeld ?_
        · intro w hSw
          (try dsimp only at hSw)
          go_simp
        (try simp only [Act.put, List.setIfInBounds_toArray, List.set_cons_zero, List.set_cons_succ])
        refine wpAnyH_ready (rs := [2]) (by kernel_rfl) (by simp) ?_
        refine AllReadyH.cons rfl (fun K hK => ?_) AllReadyH.nil
        go_simp
        refine (HP.out _).mono ?_
        rintro e w1 ⟨rfl, hb1⟩
        refine hK.out _ _ (HQ3.out _ (btrans ((Below.refl _ _).drew) (Nat.le_refl _) hb1)) (fun w1H => ?_)
        clear hK K
        (try simp only [Act.put, List.setIfInBounds_toArray, List.set_cons_zero, List.set_cons_succ])
        refine wpAnyH_take (i := 4) (oi := { dst := some 12, op := Go.Op.binOp Go.BinOp.neq 149 (Go.Operand.tmp 10) (Go.Operand.tmp 11) 149, type := 4, pos := "fixed.go:89", after := #[{ on := 2, ground := Go.Ground.data }, { on := 3, ground := Go.Ground.data }], guard := none }) (v := (.bool true)) rfl (by kernel_rfl) (by kernel_rfl) (by kernel_rfl) (fun _ _ _ h => h) (Or.inl ⟨by rfl, ?_⟩) w1H ?_
        · intro w hSw
          (try dsimp only at hSw)
          go_simp
          first | omega | (intro hh; omega)
        (try simp only [Act.put, List.setIfInBounds_toArray, List.set_cons_zero, List.set_cons_succ])
        refine wpAnyH_take (i := 5) (oi := { dst := some 13, op := Go.Op.move (Go.Operand.tmp 12), type := 4, pos := "fixed.go:89", after := #[{ on := 4, ground := Go.Ground.data }, { on := 2, ground := Go.Ground.chain }], guard := none }) (v := (.bool true)) rfl (by kernel_rfl) (by kernel_rfl) (by kernel_rfl) (fun _ _ _ h => h) (Or.inl ⟨by rfl, ?_⟩) w1H ?_
        · intro w hSw
          (try dsimp only at hSw)
          go_simp
        (try simp only [Act.put, List.setIfInBounds_toArray, List.set_cons_zero, List.set_cons_succ])
        refine wpAnyH_take (i := 6) (oi := { dst := some 14, op := Go.Op.move (Go.Operand.tmp 1), type := 138, pos := "fixed.go:89", after := #[{ on := 5, ground := Go.Ground.guard }], guard := some (5, true) }) (v := (.func (.func f) #[] #[])) rfl (by kernel_rfl) (by kernel_rfl) (by kernel_rfl) (fun _ _ _ h => h) (Or.inl ⟨by rfl, ?_⟩) w1H ?_
        · intro w hSw
          (try dsimp only at hSw)
          go_simp
        (try simp only [Act.put, List.setIfInBounds_toArray, List.set_cons_zero, List.set_cons_succ])
        refine wpAnyH_take (i := 7) (oi := { dst := some 15, op := Go.Op.load 149 (Go.Operand.tmp 2), type := 149, pos := "fixed.go:89", after := #[{ on := 5, ground := Go.Ground.guard }], guard := some (5, true) }) (v := (.agg #[.int .u64 (hi : Int), .int .u64 (lo : Int)])) rfl (by kernel_rfl) (by kernel_rfl) (by kernel_rfl) (fun _ _ _ h => h) (Or.inl ⟨by rfl, ?_⟩) w1H ?_
        · intro w hSw
          (try dsimp only at hSw)
          go_simp
        (try simp only [Act.put, List.setIfInBounds_toArray, List.set_cons_zero, List.set_cons_succ])
        refine wpAnyH_take (i := 9) (oi := { dst := some 17, op := Go.Op.move (Go.Operand.tmp 5), type := 147, pos := "fixed.go:89", after := #[{ on := 5, ground := Go.Ground.guard }], guard := some (5, true) }) (v := (.int .u64 (n : Int))) rfl (by kernel_rfl) (by kernel_rfl) (by kernel_rfl) (fun _ _ _ h => h) (Or.inl ⟨by rfl, ?_⟩) w1H ?_
        · intro w hSw
          (try dsimp only at hSw)
          go_simp
        (try simp only [Act.put, List.setIfInBounds_toArray, List.set_cons_zero, List.set_cons_succ])
        refine wpAnyH_take (i := 10) (oi := { dst := some 18, op := Go.Op.binOp Go.BinOp.mul 147 (Go.Operand.const (Go.Value.int Go.IntKind.u64 2)) (Go.Operand.tmp 17) 147, type := 147, pos := "fixed.go:89", after := #[{ on := 9, ground := Go.Ground.data }, { on := 5, ground := Go.Ground.guard }], guard := some (5, true) }) (v := (.int .u64 (2 * (n : Int)))) rfl (by kernel_rfl) (by kernel_rfl) (by kernel_rfl) (fun _ _ _ h => h) (Or.inl ⟨by rfl, ?_⟩) w1H ?_
        · intro w hSw
          (try dsimp only at hSw)
          go_simp
          rw [IntKind.wrap_u64]; omega
        (try simp only [Act.put, List.setIfInBounds_toArray, List.set_cons_zero, List.set_cons_succ])
        refine wpAnyH_take (i := 11) (oi := { dst := some 19, op := Go.Op.binOp Go.BinOp.add 147 (Go.Operand.tmp 18) (Go.Operand.const (Go.Value.int Go.IntKind.u64 1)) 147, type := 147, pos := "fixed.go:89", after := #[{ on := 10, ground := Go.Ground.data }, { on := 5, ground := Go.Ground.guard }], guard := some (5, true) }) (v := (.int .u64 (2 * (n : Int) + 1))) rfl (by kernel_rfl) (by kernel_rfl) (by kernel_rfl) (fun _ _ _ h => h) (Or.inl ⟨by rfl, ?_⟩) w1H ?_
        · intro w hSw
          (try dsimp only at hSw)
          go_simp
          rw [IntKind.wrap_u64]; omega
        (try simp only [Act.put, List.setIfInBounds_toArray, List.set_cons_zero, List.set_cons_succ])
        refine wpAnyH_take (i := 12) (oi := { dst := some 20, op := Go.Op.move (Go.Operand.tmp 5), type := 147, pos := "fixed.go:89", after := #[{ on := 5, ground := Go.Ground.guard }], guard := some (5, true) }) (v := (.int .u64 (n : Int))) rfl (by kernel_rfl) (by kernel_rfl) (by kernel_rfl) (fun _ _ _ h => h) (Or.inl ⟨by rfl, ?_⟩) w1H ?_
        · intro w hSw
          (try dsimp only at hSw)
          go_simp
        (try simp only [Act.put, List.setIfInBounds_toArray, List.set_cons_zero, List.set_cons_succ])
        refine wpAnyH_take (i := 13) (oi := { dst := some 21, op := Go.Op.binOp Go.BinOp.mul 147 (Go.Operand.const (Go.Value.int Go.IntKind.u64 2)) (Go.Operand.tmp 20) 147, type := 147, pos := "fixed.go:89", after := #[{ on := 12, ground := Go.Ground.data }, { on := 5, ground := Go.Ground.guard }], guard := some (5, true) }) (v := (.int .u64 (2 * (n : Int)))) rfl (by kernel_rfl) (by kernel_rfl) (by kernel_rfl) (fun _ _ _ h => h) (Or.inl ⟨by rfl, ?_⟩) w1H ?_
        · intro w hSw
          (try dsimp only at hSw)
          go_simp
          rw [IntKind.wrap_u64]; omega
        (try simp only [Act.put, List.setIfInBounds_toArray, List.set_cons_zero, List.set_cons_succ])
        refine wpAnyH_take (i := 14) (oi := { dst := some 22, op := Go.Op.binOp Go.BinOp.add 147 (Go.Operand.tmp 21) (Go.Operand.const (Go.Value.int Go.IntKind.u64 1)) 147, type := 147, pos := "fixed.go:89", after := #[{ on := 13, ground := Go.Ground.data }, { on := 5, ground := Go.Ground.guard }], guard := some (5, true) }) (v := (.int .u64 (2 * (n : Int) + 1))) rfl (by kernel_rfl) (by kernel_rfl) (by kernel_rfl) (fun _ _ _ h => h) (Or.inl ⟨by rfl, ?_⟩) w1H ?_
        · intro w hSw
          (try dsimp only at hSw)
          go_simp
          rw [IntKind.wrap_u64]; omega
        (try simp only [Act.put, List.setIfInBounds_toArray, List.set_cons_zero, List.set_cons_succ])
        refine wpAnyH_ready (rs := [8]) (by kernel_rfl) (by simp) ?_
        refine AllReadyH.cons rfl (fun K hK => ?_) AllReadyH.nil
        · go_simp
          refine (HUP.out _).mono ?_
          rintro e w2 ⟨rfl, hb2⟩
          refine hK.out _ _ (HQ3.out _ (btrans (btrans ((Below.refl _ _).drew) (Nat.le_refl _) hb1) (Nat.le_refl _) hb2)) (fun w2H => ?_)
          clear hK K
          (try simp only [Act.put, List.setIfInBounds_toArray, List.set_cons_zero, List.set_cons_succ])
          refine wpAnyH_ready (rs := [15]) (by kernel_rfl) (by simp) ?_
          refine AllReadyH.cons rfl (fun K hK => ?_) AllReadyH.nil
          go_simp
          refine (HP2.out _).mono ?_
          rintro e w3 ⟨rfl, hb3⟩
          refine hK.out _ _ (HQ3.out _ (btrans (btrans (btrans ((Below.refl _ _).drew) (Nat.le_refl _) hb1) (Nat.le_refl _) hb2) (Nat.le_refl _) hb3)) (fun w3H => ?_)
          clear hK K
          (try simp only [Act.put, List.setIfInBounds_toArray, List.set_cons_zero, List.set_cons_succ])
          refine wpAnyH_ready (rs := [16]) (by kernel_rfl) (by simp) ?_
          refine AllReadyH.cons rfl (fun K hK => ?_) AllReadyH.nil
          go_simp
          refine (HC.out _).mono ?_
          rintro e w4 ⟨rfl, hb4⟩
          refine hK.out _ _ (HQ3.out _ (btrans (btrans (btrans (btrans ((Below.refl _ _).drew) (Nat.le_refl _) hb1) (Nat.le_refl _) hb2) (Nat.le_refl _) hb3) (Nat.le_refl _) hb4)) (fun w4H => ?_)
          clear hK K
          (try simp only [Act.put, List.setIfInBounds_toArray, List.set_cons_zero, List.set_cons_succ])
          refine wpAnyH_ready (rs := [17]) (by kernel_rfl) (by simp) ?_
          refine AllReadyH.cons rfl (fun K hK => ?_) AllReadyH.nil
          go_simp
          refine (HRD.out _).mono ?_
          rintro e w5 ⟨rfl, rfl⟩
          refine hK.out _ _ (HQ3.out _ (btrans (btrans (btrans (btrans ((Below.refl _ _).drew) (Nat.le_refl _) hb1) (Nat.le_refl _) hb2) (Nat.le_refl _) hb3) (Nat.le_refl _) hb4)) (fun w5H => ?_)
          clear hK K
          (try simp only [Act.put, List.setIfInBounds_toArray, List.set_cons_zero, List.set_cons_succ])
          refine wpAnyH_take (i := 18) (oi := { dst := some 26, op := Go.Op.pick (Go.Operand.tmp 13) (Go.Operand.tmp 25) (Go.Operand.const (Go.Value.bool false)), type := 4, pos := "fixed.go:89", after := #[{ on := 5, ground := Go.Ground.data }, { on := 17, ground := Go.Ground.data }], guard := none }) (v := (.bool rb)) rfl (by kernel_rfl) (by kernel_rfl) (by kernel_rfl) (fun _ _ _ h => h) (Or.inl ⟨by rfl, ?_⟩) w5H ?_
          · intro w hSw
            (try dsimp only at hSw)
            go_simp
          (try simp only [Act.put, List.setIfInBounds_toArray, List.set_cons_zero, List.set_cons_succ])
          refine wpAnyH_done (by kernel_rfl) ?_ _
          go_wp2_with fail
          go_meet
          exact ⟨rfl, rfl, btrans (btrans (btrans (btrans ((Below.refl _ _).drew) (Nat.le_refl _) hb1) (Nat.le_refl _) hb2) (Nat.le_refl _) hb3) (Nat.le_refl _) hb4⟩
    case rest =>
      obtain ⟨rfl, rfl, hb4⟩ := hcut
      have HB4 := hid (btrans HB3.out (by omega) hb4)
      clear hb4
      cases rb with
      | false =>
        rw [if_neg (by simp)] at HM
        have HSG := hid (fun W => signed_any n false hnn W)
        go_wp2_with fail
        refine (HSG.out _).mono ?_
        rintro e w9 ⟨he, rfl⟩
        by_cases h46 : n ≤ 70368744177664
        · rw [if_pos h46] at he
          obtain rfl : e = .returned (.int .i64 ((n : Nat) : Int)) := he
          go_wp2_with fail
          go_ret
          exact ⟨⟨n, HN.out, by rw [HM.out, signX, if_pos h46]; rfl⟩, HB4.out⟩
        · rw [if_neg h46] at he
          obtain rfl : e = .panicked (misfit 4) := he
          exact ⟨rfl, ⟨n, HN.out, by rw [HM.out, signX, if_neg h46]; rfl⟩, HB4.out⟩
      | true =>
        rw [if_pos rfl] at HM
        have HSG := hid (fun W => signed_any (n + 1) false (by omega) W)
        rw [show ((n + 1 : Nat) : Int) = (n : Int) + 1 by simp] at HSG
        go_wp2_with fail
        refine (HSG.out _).mono ?_
        rintro e w9 ⟨he, rfl⟩
        by_cases h46 : n + 1 ≤ 70368744177664
        · rw [if_pos h46] at he
          obtain rfl : e = .returned (.int .i64 ((n : Int) + 1)) := he
          go_wp2_with fail
          go_ret
          exact ⟨⟨n, HN.out, by rw [HM.out, signX, if_pos h46]; rfl⟩, HB4.out⟩
        · rw [if_neg h46] at he
          obtain rfl : e = .panicked (misfit 4) := he
          exact ⟨rfl, ⟨n, HN.out, by rw [HM.out, signX, if_neg h46]; rfl⟩, HB4.out⟩
end Go.Proofs.YtolnhicngepnnaaGreat
