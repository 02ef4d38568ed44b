/- fixed.Dot: the closure. -/
import Derived.Test.YtolnhicngepnnaaGreatC3
import Derived.Test.YtolnhicngepnnaaGreatW7
namespace Go.Proofs.YtolnhicngepnnaaGreat
open Go.RowKit

theorem wpAnyH_listed {P : Program} {md : Region.Mode} {ops : Array Oper} {Q : Exit → Act → World → Prop} {S : World → Prop} {fuel : Nat} {l l' : Array Bool} {a : Act} {w : World} (h : l' = l) (hw : wpAnyH P md ops Q S fuel l' a w) : wpAnyH P md ops Q S fuel l a w := h ▸ hw
theorem wpAnyH_gen {P : Program} {md : Region.Mode} {ops : Array Oper} {Q : Exit → Act → World → Prop} {S : World → Prop} {fuel : Nat} {l : Array Bool} {a : Act} {w : World}
    (h : ∀ (ops' : Array Oper) (Q' : Exit → Act → World → Prop) (a' : Act), ops = ops' → Q = Q' → a = a' → wpAnyH P md ops' Q' S fuel l a' w) : wpAnyH P md ops Q S fuel l a w := h _ _ _ rfl rfl rfl
set_option maxRecDepth 100000 in
set_option maxHeartbeats 8000000 in
/-- Dot$1 behind its two products. -/
theorem dot173_core (ax ay bx by1 how : Int) (f : FuncId) (x1 x0 y1 y0 : Int) (s1 s2 s3 s4 m n : Bool) (hs1 : decide (ax < 0) = s1) (hs2 : decide (bx < 0) = s2) (hs3 : decide (ay < 0) = s3) (hs4 : decide (by1 < 0) = s4) (hm : (s1 != s2) = m) (hn : (s3 != s4) = n)
    (na nb nc nd : Int) (ge : Bool) (ci : Int) (hci : decide (0 ≤ ci) = ge) (R1 R2 R3 : Except Int Int) (s1v s2v s3v : Value)
    (h2 : ∀ W, Calls Tryz.prog 94 #[.int .i64 ax] W fun e W' => e = .returned (.int .u64 na) ∧ Below W.heap.size W W')
    (h5 : ∀ W, Calls Tryz.prog 94 #[.int .i64 bx] W fun e W' => e = .returned (.int .u64 nb) ∧ Below W.heap.size W W')
    (h9 : ∀ W, Calls Tryz.prog 94 #[.int .i64 ay] W fun e W' => e = .returned (.int .u64 nc) ∧ Below W.heap.size W W')
    (h12 : ∀ W, Calls Tryz.prog 94 #[.int .i64 by1] W fun e W' => e = .returned (.int .u64 nd) ∧ Below W.heap.size W W')
    (h6 : ∀ W, Calls Tryz.prog 60 #[.int .u64 na, .int .u64 nb] W fun e W' => e = .returned (.agg #[.int .u64 x1, .int .u64 x0]) ∧ Below W.heap.size W W')
    (h13 : ∀ W, Calls Tryz.prog 60 #[.int .u64 nc, .int .u64 nd] W fun e W' => e = .returned (.agg #[.int .u64 y1, .int .u64 y0]) ∧ Below W.heap.size W W')
    (hr : ∀ W v, SlI W v [ax, ay, bx, by1] → Calls Tryz.prog 57 #[v] W fun e W' => e = .returned (.tuple #[]) ∧ Below W.heap.size W W')
    (hw : ∀ W, Calls Tryz.prog 53 #[.int .i64 how] W fun e W' => e = .returned (.func (.func f) #[] #[]) ∧ W' = W)
    (hpl : m = n → ∀ W, Calls Tryz.prog 148 #[.agg #[.int .u64 x1, .int .u64 x0], .agg #[.int .u64 y1, .int .u64 y0]] W fun e W' => e = .returned s1v ∧ Below W.heap.size W W')
    (hcm : m ≠ n → ∀ W, Calls Tryz.prog 104 #[.agg #[.int .u64 x1, .int .u64 x0], .agg #[.int .u64 y1, .int .u64 y0]] W fun e W' => e = .returned (.int .i64 ci) ∧ Below W.heap.size W W')
    (hmi : m ≠ n → ge = true → ∀ W, Calls Tryz.prog 174 #[.agg #[.int .u64 x1, .int .u64 x0], .agg #[.int .u64 y1, .int .u64 y0]] W fun e W' => e = .returned s2v ∧ Below W.heap.size W W')
    (hmj : m ≠ n → ge = false → ∀ W, Calls Tryz.prog 174 #[.agg #[.int .u64 y1, .int .u64 y0], .agg #[.int .u64 x1, .int .u64 x0]] W fun e W' => e = .returned s3v ∧ Below W.heap.size W W')
    (hq1 : m = n → ∀ W, Calls Tryz.prog 93 #[s1v, .int .u64 65536, .bool m, .func (.func f) #[] #[]] W fun e W' => EndsX R1 e ∧ Below W.heap.size W W')
    (hq2 : m ≠ n → ge = true → ∀ W, Calls Tryz.prog 93 #[s2v, .int .u64 65536, .bool m, .func (.func f) #[] #[]] W fun e W' => EndsX R2 e ∧ Below W.heap.size W W')
    (hq3 : m ≠ n → ge = false → ∀ W, Calls Tryz.prog 93 #[s3v, .int .u64 65536, .bool n, .func (.func f) #[] #[]] W fun e W' => EndsX R3 e ∧ Below W.heap.size W W')
    (pa pb ph : Nat) (w : World) (c0 : w.cell? ⟨pa, 0, none⟩ = some (.int .i64 ax)) (c1 : w.cell? ⟨pa, 1, none⟩ = some (.int .i64 ay)) (c2 : w.cell? ⟨pb, 0, none⟩ = some (.int .i64 bx)) (c3 : w.cell? ⟨pb, 1, none⟩ = some (.int .i64 by1)) (c4 : w.cell? ⟨ph, 0, none⟩ = some (.int .i64 how)) :
    Calls Tryz.prog 173 #[.pointer (some ⟨pa, 0, none⟩), .pointer (some ⟨pb, 0, none⟩), .pointer (some ⟨ph, 0, none⟩)] w fun e w' => EndsX (if m = n then R1 else if ge then R2 else R3) e ∧ Below w.heap.size w w' := by
  have H2 := hid h2
  have H5 := hid h5
  have H9 := hid h9
  have H12 := hid h12
  have H6 := hid h6
  have H13 := hid h13
  have HR := hid hr
  have HW := hid hw
  have HPL := hid hpl
  have HCM := hid hcm
  have HMI := hid hmi
  have HMJ := hid hmj
  have HQ1 := hid hq1
  have HQ2 := hid hq2
  have HQ3 := hid hq3
  clear h2 h5 h9 h12 h6 h13 hr hw hpl hcm hmi hmj hq1 hq2 hq3
  have HM := hid hm
  have HN := hid hn
  clear hm hn
  have HQ0 := hid (show ∀ W, Below w.heap.size w W → (W.cell? ⟨pa, 0, none⟩ = some (.int .i64 ax) ∧ W.cell? ⟨pa, 1, none⟩ = some (.int .i64 ay) ∧ W.cell? ⟨pb, 0, none⟩ = some (.int .i64 bx) ∧ W.cell? ⟨pb, 1, none⟩ = some (.int .i64 by1)) ∧ W.cell? ⟨ph, 0, none⟩ = some (.int .i64 how) from fun W h => ⟨⟨bcs h c0, bcs h c1, bcs h c2, bcs h c3⟩, bcs h c4⟩)
  have hsl : SlI (w.alloc (.cells #[.int .i64 ax, .int .i64 ay, .int .i64 bx, .int .i64 by1] 22)) (.slice (some ⟨w.heap.size, 0, none⟩) 4 4) [ax, ay, bx, by1] := new_SlI w [ax, ay, bx, by1] #[.int .i64 ax, .int .i64 ay, .int .i64 bx, .int .i64 by1] 22 rfl (by simp)
  have HR2 := hid (HR.out _ _ hsl)
  have HBA := hid ((Below.refl _ w).alloc (Nat.le_refl _) (.cells #[.int .i64 ax, .int .i64 ay, .int .i64 bx, .int .i64 by1] 22))
  clear hsl HR
  go_enter Tryz.func173, Tryz.ntmps173
  go_wp2_with fail
  refine HR2.out.mono ?_
  rintro e W0 ⟨rfl, hb1⟩
  have HB1 := hid (btrans HBA.out (by simp) hb1)
  clear hb1 HBA HR2 c0 c1 c2 c3 c4
  obtain ⟨⟨c0, c1, c2, c3⟩, c4⟩ := HQ0.out _ HB1.out
  go_wp2_with fail
  refine (HW.out _).mono ?_
  rintro e W1 ⟨rfl, rfl⟩
  have HQ := hid (show ∀ W, Below W1.heap.size W1 W → W.cell? ⟨pa, 0, none⟩ = some (.int .i64 ax) ∧ W.cell? ⟨pa, 1, none⟩ = some (.int .i64 ay) ∧ W.cell? ⟨pb, 0, none⟩ = some (.int .i64 bx) ∧ W.cell? ⟨pb, 1, none⟩ = some (.int .i64 by1) from fun W h => ⟨bcs h c0, bcs h c1, bcs h c2, bcs h c3⟩)
  clear c0 c1 c2 c3 c4 HQ0 HW
  go_upto_region 3 with fail
  go_cut [5, 6] (fun a6 a7 wx => ∃ B6 B7, a6 = .pointer (some ⟨B6, 0, none⟩) ∧ a7 = .pointer (some ⟨B7, 0, none⟩) ∧ wx.heap[B6]? = some (.cells #[.int .u64 x1, .int .u64 x0] 149 (0, 0)) ∧ wx.heap[B7]? = some (.cells #[.int .u64 y1, .int .u64 y0] 149 (0, 0)) ∧ W1.heap.size ≤ B6 ∧ W1.heap.size ≤ B7 ∧ Below W1.heap.size W1 wx)
  case rest =>
    obtain ⟨B6, B7, rfl, rfl, k6, k7, hg6, hg7, hb3⟩ := hcut
    obtain ⟨wx, rfl⟩ := nameWx hb3
    have HB3 := hid ((HB1.out.trans (hb3.mono HB1.out.size)).drew)
    have HS := hid (show ∀ W, Below wx.heap.size wx W → W.cell? ⟨pa, 0, none⟩ = some (.int .i64 ax) ∧ W.cell? ⟨pa, 1, none⟩ = some (.int .i64 ay) ∧ W.cell? ⟨pb, 0, none⟩ = some (.int .i64 bx) ∧ W.cell? ⟨pb, 1, none⟩ = some (.int .i64 by1) from fun W h => HQ.out _ (hb3.trans (h.mono hb3.size)))
    have HK := hid (And.intro (carry k6 ((Below.refl _ _).drew)) (carry k7 ((Below.refl _ _).drew)))
    clear k6 k7 hb3 hg6 hg7 HQ HB1 H2 H5 H9 H12 H6 H13
    go_upto_region 4 with fail
    refine wp_region_held_drew (S := (fun W => W.cell? ⟨pa, 0, none⟩ = some (.int .i64 ax) ∧ W.cell? ⟨pa, 1, none⟩ = some (.int .i64 ay) ∧ W.cell? ⟨pb, 0, none⟩ = some (.int .i64 bx) ∧ W.cell? ⟨pb, 1, none⟩ = some (.int .i64 by1))) (by kernel_rfl) (HS.out _ (Below.refl _ _).drew) (fun hH => ?_)
    refine wpAnyH_take (i := 0) (oi := { dst := some 35, op := Go.Op.fieldAddr 28 (Go.Operand.tmp 0) 0, type := 0, pos := "fixed.go:216", after := #[], guard := none }) (v := (.pointer (some ⟨pa, 0, none⟩))) rfl (by kernel_rfl) (by kernel_rfl) (by kernel_rfl) (fun _ _ _ h => h) (Or.inl ⟨by rfl, ?_⟩) hH ?_
    · intro w hSw
      (try dsimp only at hSw)
      go_simp
    (try simp only [Act.put, List.setIfInBounds_toArray, List.set_cons_zero, List.set_cons_succ])
    refine wpAnyH_take (i := 1) (oi := { dst := some 36, op := Go.Op.load 22 (Go.Operand.tmp 35), type := 22, pos := "fixed.go:216", after := #[{ on := 0, ground := Go.Ground.data }], guard := none }) (v := (.int .i64 ax)) rfl (by kernel_rfl) (by kernel_rfl) (by kernel_rfl) (fun _ _ _ h => h) (Or.inl ⟨by rfl, ?_⟩) hH ?_
    · intro w hSw
      (try dsimp only at hSw)
      go_simp
    (try simp only [Act.put, List.setIfInBounds_toArray, List.set_cons_zero, List.set_cons_succ])
    refine wpAnyH_take (i := 2) (oi := { dst := some 37, op := Go.Op.binOp Go.BinOp.lss 22 (Go.Operand.tmp 36) (Go.Operand.const (Go.Value.int Go.IntKind.i64 0)) 22, type := 4, pos := "fixed.go:216", after := #[{ on := 1, ground := Go.Ground.data }], guard := none }) (v := (.bool s1)) rfl (by kernel_rfl) (by kernel_rfl) (by kernel_rfl) (fun _ _ _ h => h) (Or.inl ⟨by rfl, ?_⟩) hH ?_
    · intro w hSw
      (try dsimp only at hSw)
      go_simp
    (try simp only [Act.put, List.setIfInBounds_toArray, List.set_cons_zero, List.set_cons_succ])
    refine wpAnyH_take (i := 3) (oi := { dst := some 38, op := Go.Op.fieldAddr 28 (Go.Operand.tmp 1) 0, type := 0, pos := "fixed.go:216", after := #[], guard := none }) (v := (.pointer (some ⟨pb, 0, none⟩))) rfl (by kernel_rfl) (by kernel_rfl) (by kernel_rfl) (fun _ _ _ h => h) (Or.inl ⟨by rfl, ?_⟩) hH ?_
    · intro w hSw
      (try dsimp only at hSw)
      go_simp
    (try simp only [Act.put, List.setIfInBounds_toArray, List.set_cons_zero, List.set_cons_succ])
    refine wpAnyH_take (i := 4) (oi := { dst := some 39, op := Go.Op.load 22 (Go.Operand.tmp 38), type := 22, pos := "fixed.go:216", after := #[{ on := 3, ground := Go.Ground.data }], guard := none }) (v := (.int .i64 bx)) rfl (by kernel_rfl) (by kernel_rfl) (by kernel_rfl) (fun _ _ _ h => h) (Or.inl ⟨by rfl, ?_⟩) hH ?_
    · intro w hSw
      (try dsimp only at hSw)
      go_simp
    (try simp only [Act.put, List.setIfInBounds_toArray, List.set_cons_zero, List.set_cons_succ])
    refine wpAnyH_take (i := 5) (oi := { dst := some 40, op := Go.Op.binOp Go.BinOp.lss 22 (Go.Operand.tmp 39) (Go.Operand.const (Go.Value.int Go.IntKind.i64 0)) 22, type := 4, pos := "fixed.go:216", after := #[{ on := 4, ground := Go.Ground.data }], guard := none }) (v := (.bool s2)) rfl (by kernel_rfl) (by kernel_rfl) (by kernel_rfl) (fun _ _ _ h => h) (Or.inl ⟨by rfl, ?_⟩) hH ?_
    · intro w hSw
      (try dsimp only at hSw)
      go_simp
    (try simp only [Act.put, List.setIfInBounds_toArray, List.set_cons_zero, List.set_cons_succ])
    refine wpAnyH_take (i := 6) (oi := { dst := some 41, op := Go.Op.binOp Go.BinOp.neq 4 (Go.Operand.tmp 37) (Go.Operand.tmp 40) 4, type := 4, pos := "fixed.go:216", after := #[{ on := 2, ground := Go.Ground.data }, { on := 5, ground := Go.Ground.data }], guard := none }) (v := (.bool m)) rfl (by kernel_rfl) (by kernel_rfl) (by kernel_rfl) (fun _ _ _ h => h) (Or.inl ⟨by rfl, ?_⟩) hH ?_
    · intro w hSw
      (try dsimp only at hSw)
      go_simp
      first | exact HM.out | (rw [← HM.out]; cases s1 <;> cases s2 <;> rfl)
    (try simp only [Act.put, List.setIfInBounds_toArray, List.set_cons_zero, List.set_cons_succ])
    refine wpAnyH_take (i := 7) (oi := { dst := some 42, op := Go.Op.fieldAddr 28 (Go.Operand.tmp 0) 1, type := 0, pos := "fixed.go:216", after := #[{ on := 14, ground := Go.Ground.gcOnly Go.Departure.lateStores }], guard := none }) (v := (.pointer (some ⟨pa, 1, none⟩))) rfl (by kernel_rfl) (by kernel_rfl) (by kernel_rfl) (fun _ _ _ h => h) (Or.inl ⟨by rfl, ?_⟩) hH ?_
    · intro w hSw
      (try dsimp only at hSw)
      go_simp
    (try simp only [Act.put, List.setIfInBounds_toArray, List.set_cons_zero, List.set_cons_succ])
    refine wpAnyH_take (i := 8) (oi := { dst := some 43, op := Go.Op.load 22 (Go.Operand.tmp 42), type := 22, pos := "fixed.go:216", after := #[{ on := 7, ground := Go.Ground.data }, { on := 14, ground := Go.Ground.gcOnly Go.Departure.lateStores }], guard := none }) (v := (.int .i64 ay)) rfl (by kernel_rfl) (by kernel_rfl) (by kernel_rfl) (fun _ _ _ h => h) (Or.inl ⟨by rfl, ?_⟩) hH ?_
    · intro w hSw
      (try dsimp only at hSw)
      go_simp
    (try simp only [Act.put, List.setIfInBounds_toArray, List.set_cons_zero, List.set_cons_succ])
    refine wpAnyH_take (i := 9) (oi := { dst := some 44, op := Go.Op.binOp Go.BinOp.lss 22 (Go.Operand.tmp 43) (Go.Operand.const (Go.Value.int Go.IntKind.i64 0)) 22, type := 4, pos := "fixed.go:216", after := #[{ on := 8, ground := Go.Ground.data }, { on := 14, ground := Go.Ground.gcOnly Go.Departure.lateStores }], guard := none }) (v := (.bool s3)) rfl (by kernel_rfl) (by kernel_rfl) (by kernel_rfl) (fun _ _ _ h => h) (Or.inl ⟨by rfl, ?_⟩) hH ?_
    · intro w hSw
      (try dsimp only at hSw)
      go_simp
    (try simp only [Act.put, List.setIfInBounds_toArray, List.set_cons_zero, List.set_cons_succ])
    refine wpAnyH_take (i := 10) (oi := { dst := some 45, op := Go.Op.fieldAddr 28 (Go.Operand.tmp 1) 1, type := 0, pos := "fixed.go:216", after := #[{ on := 14, ground := Go.Ground.gcOnly Go.Departure.lateStores }], guard := none }) (v := (.pointer (some ⟨pb, 1, none⟩))) rfl (by kernel_rfl) (by kernel_rfl) (by kernel_rfl) (fun _ _ _ h => h) (Or.inl ⟨by rfl, ?_⟩) hH ?_
    · intro w hSw
      (try dsimp only at hSw)
      go_simp
    (try simp only [Act.put, List.setIfInBounds_toArray, List.set_cons_zero, List.set_cons_succ])
    refine wpAnyH_take (i := 11) (oi := { dst := some 46, op := Go.Op.load 22 (Go.Operand.tmp 45), type := 22, pos := "fixed.go:216", after := #[{ on := 10, ground := Go.Ground.data }, { on := 14, ground := Go.Ground.gcOnly Go.Departure.lateStores }], guard := none }) (v := (.int .i64 by1)) rfl (by kernel_rfl) (by kernel_rfl) (by kernel_rfl) (fun _ _ _ h => h) (Or.inl ⟨by rfl, ?_⟩) hH ?_
    · intro w hSw
      (try dsimp only at hSw)
      go_simp
    (try simp only [Act.put, List.setIfInBounds_toArray, List.set_cons_zero, List.set_cons_succ])
    refine wpAnyH_take (i := 12) (oi := { dst := some 47, op := Go.Op.binOp Go.BinOp.lss 22 (Go.Operand.tmp 46) (Go.Operand.const (Go.Value.int Go.IntKind.i64 0)) 22, type := 4, pos := "fixed.go:216", after := #[{ on := 11, ground := Go.Ground.data }, { on := 14, ground := Go.Ground.gcOnly Go.Departure.lateStores }], guard := none }) (v := (.bool s4)) rfl (by kernel_rfl) (by kernel_rfl) (by kernel_rfl) (fun _ _ _ h => h) (Or.inl ⟨by rfl, ?_⟩) hH ?_
    · intro w hSw
      (try dsimp only at hSw)
      go_simp
    (try simp only [Act.put, List.setIfInBounds_toArray, List.set_cons_zero, List.set_cons_succ])
    refine wpAnyH_take (i := 13) (oi := { dst := some 48, op := Go.Op.binOp Go.BinOp.neq 4 (Go.Operand.tmp 44) (Go.Operand.tmp 47) 4, type := 4, pos := "fixed.go:216", after := #[{ on := 9, ground := Go.Ground.data }, { on := 12, ground := Go.Ground.data }, { on := 14, ground := Go.Ground.gcOnly Go.Departure.lateStores }], guard := none }) (v := (.bool n)) rfl (by kernel_rfl) (by kernel_rfl) (by kernel_rfl) (fun _ _ _ h => h) (Or.inl ⟨by rfl, ?_⟩) hH ?_
    · intro w hSw
      (try dsimp only at hSw)
      go_simp
      first | exact HN.out | (rw [← HN.out]; cases s3 <;> cases s4 <;> rfl)
    (try simp only [Act.put, List.setIfInBounds_toArray, List.set_cons_zero, List.set_cons_succ])
    refine wpAnyH_take (i := 14) (oi := { dst := some 7, op := Go.Op.assign (Go.Operand.tmp 41), type := 4, pos := "fixed.go:216", after := #[{ on := 6, ground := Go.Ground.data }, { on := 0, ground := Go.Ground.phase }, { on := 1, ground := Go.Ground.phase }, { on := 2, ground := Go.Ground.phase }, { on := 3, ground := Go.Ground.phase }, { on := 4, ground := Go.Ground.phase }, { on := 5, ground := Go.Ground.phase }, { on := 6, ground := Go.Ground.phase }, { on := 7, ground := Go.Ground.textOnly Go.Departure.lateStores }, { on := 8, ground := Go.Ground.textOnly Go.Departure.lateStores }, { on := 9, ground := Go.Ground.textOnly Go.Departure.lateStores }, { on := 10, ground := Go.Ground.textOnly Go.Departure.lateStores }, { on := 11, ground := Go.Ground.textOnly Go.Departure.lateStores }, { on := 12, ground := Go.Ground.textOnly Go.Departure.lateStores }, { on := 13, ground := Go.Ground.textOnly Go.Departure.lateStores }], guard := none }) (v := (.bool m)) rfl (by kernel_rfl) (by kernel_rfl) (by kernel_rfl) (fun _ _ _ h => h) (Or.inl ⟨by rfl, ?_⟩) hH ?_
    · intro w hSw
      (try dsimp only at hSw)
      go_simp
    (try simp only [Act.put, List.setIfInBounds_toArray, List.set_cons_zero, List.set_cons_succ])
    refine wpAnyH_take (i := 15) (oi := { dst := some 8, op := Go.Op.assign (Go.Operand.tmp 48), type := 4, pos := "fixed.go:216", after := #[{ on := 13, ground := Go.Ground.data }, { on := 14, ground := Go.Ground.chain }, { on := 0, ground := Go.Ground.phase }, { on := 1, ground := Go.Ground.phase }, { on := 2, ground := Go.Ground.phase }, { on := 3, ground := Go.Ground.phase }, { on := 4, ground := Go.Ground.phase }, { on := 5, ground := Go.Ground.phase }, { on := 6, ground := Go.Ground.phase }, { on := 7, ground := Go.Ground.phase }, { on := 8, ground := Go.Ground.phase }, { on := 9, ground := Go.Ground.phase }, { on := 10, ground := Go.Ground.phase }, { on := 11, ground := Go.Ground.phase }, { on := 12, ground := Go.Ground.phase }, { on := 13, ground := Go.Ground.phase }, { on := 14, ground := Go.Ground.phase }], guard := none }) (v := (.bool n)) rfl (by kernel_rfl) (by kernel_rfl) (by kernel_rfl) (fun _ _ _ h => h) (Or.inl ⟨by rfl, ?_⟩) hH ?_
    · intro w hSw
      (try dsimp only at hSw)
      go_simp
    (try simp only [Act.put, List.setIfInBounds_toArray, List.set_cons_zero, List.set_cons_succ])
    refine wpAnyH_done (by kernel_rfl) ?_ _
    all_goals go_upto_region 5 with fail
    clear HS HM HN hs1 hs2 hs3 hs4 hH
    generalize wx.drew = wy at *
    obtain ⟨k0, k1, -, -⟩ := cells2 HK.out.1
    obtain ⟨k4, k5, -, -⟩ := cells2 HK.out.2
    by_cases hmn : m = n
    · subst hmn
      have HP := hid (HPL.out rfl)
      have HQ1' := hid (HQ1.out rfl)
      clear HPL HCM HMI HMJ HQ1 HQ2 HQ3
      cases m
      all_goals
        go_wp2_with fail
        refine (HP.out _).mono ?_
        rintro e w1 ⟨rfl, hb⟩
        have HB4 := hid (HB3.out.trans (hb.mono HB3.out.size))
        clear hb
        go_wp2_with fail
        refine (HQ1'.out _).mono ?_
        rintro e w2 ⟨he, hb⟩
        have HB5 := hid (HB4.out.trans (hb.mono HB4.out.size))
        clear hb
        cases R1 with
        | ok z =>
          obtain rfl := he
          go_wp2_with fail
          go_ret
          exact ⟨rfl, HB5.out⟩
        | error c =>
          obtain rfl := he
          exact ⟨rfl, rfl, HB5.out⟩
    · have HC := hid (HCM.out hmn)
      have hge : ∀ b, ge = b → (0 ≤ ci ↔ b = true) := by rintro b rfl; rw [← hci]; simp
      cases ge with
      | true =>
        have hc0 : 0 ≤ ci := (hge _ rfl).2 rfl
        have HP := hid (HMI.out hmn rfl)
        have HQ1' := hid (HQ2.out hmn rfl)
        clear HPL HCM HMI HMJ HQ1 HQ2 HQ3 hci hge
        cases m <;> cases n <;> (try exact absurd rfl hmn)
        all_goals
          go_wp2_with fail
          refine (HC.out _).mono ?_
          rintro e w1 ⟨rfl, hb⟩
          have HB4 := hid (HB3.out.trans (hb.mono HB3.out.size))
          have j0 := bcs hb k0
          have j1 := bcs hb k1
          have j4 := bcs hb k4
          have j5 := bcs hb k5
          clear hb k0 k1 k4 k5
          go_wp2_with fail
          refine (HP.out _).mono ?_
          rintro e w1 ⟨rfl, hb⟩
          have HB5 := hid (HB4.out.trans (hb.mono HB4.out.size))
          clear hb
          go_wp2_with fail
          refine (HQ1'.out _).mono ?_
          rintro e w2 ⟨he, hb⟩
          have HB6 := hid (HB5.out.trans (hb.mono HB5.out.size))
          clear hb
          cases R2 with
          | ok z =>
            obtain rfl := he
            go_wp2_with fail
            go_ret
            exact ⟨rfl, HB6.out⟩
          | error c =>
            obtain rfl := he
            exact ⟨rfl, rfl, HB6.out⟩
      | false =>
        have hc0 : ¬ 0 ≤ ci := fun h => Bool.noConfusion ((hge _ rfl).1 h)
        have HP := hid (HMJ.out hmn rfl)
        have HQ1' := hid (HQ3.out hmn rfl)
        clear HPL HCM HMI HMJ HQ1 HQ2 HQ3 hci hge
        cases m <;> cases n <;> (try exact absurd rfl hmn)
        all_goals
          go_wp2_with fail
          refine (HC.out _).mono ?_
          rintro e w1 ⟨rfl, hb⟩
          have HB4 := hid (HB3.out.trans (hb.mono HB3.out.size))
          have j0 := bcs hb k0
          have j1 := bcs hb k1
          have j4 := bcs hb k4
          have j5 := bcs hb k5
          clear hb k0 k1 k4 k5
          go_wp2_with fail
          refine (HP.out _).mono ?_
          rintro e w1 ⟨rfl, hb⟩
          have HB5 := hid (HB4.out.trans (hb.mono HB4.out.size))
          clear hb
          go_wp2_with fail
          refine (HQ1'.out _).mono ?_
          rintro e w2 ⟨he, hb⟩
          have HB6 := hid (HB5.out.trans (hb.mono HB5.out.size))
          clear hb
          cases R3 with
          | ok z =>
            obtain rfl := he
            go_wp2_with fail
            go_ret
            exact ⟨rfl, HB6.out⟩
          | error c =>
            obtain rfl := he
            exact ⟨rfl, rfl, HB6.out⟩
  case first =>
    refine wp_region_held_drew (S := (fun W => W.cell? ⟨pa, 0, none⟩ = some (.int .i64 ax) ∧ W.cell? ⟨pa, 1, none⟩ = some (.int .i64 ay) ∧ W.cell? ⟨pb, 0, none⟩ = some (.int .i64 bx) ∧ W.cell? ⟨pb, 1, none⟩ = some (.int .i64 by1))) (by kernel_rfl) (HQ.out _ (Below.refl _ _).drew) (fun hH => ?_)
    have hB0 : Below W1.heap.size W1 W1.drew := (Below.refl _ _).drew
    generalize W1.drew = v0 at *
    refine wpAnyH_take (i := 0) (oi := { dst := some 21, op := Go.Op.fieldAddr 28 (Go.Operand.tmp 0) 0, type := 0, pos := "fixed.go:215", after := #[], guard := none }) (v := (.pointer (some ⟨pa, 0, none⟩))) rfl (by kernel_rfl) (by kernel_rfl) (by kernel_rfl) (fun _ _ _ h => h) (Or.inl ⟨by rfl, ?_⟩) hH ?_
    · intro w hSw
      (try dsimp only at hSw)
      go_simp
    (try simp only [Act.put, List.setIfInBounds_toArray, List.set_cons_zero, List.set_cons_succ])
    refine wpAnyH_take (i := 1) (oi := { dst := some 22, op := Go.Op.load 22 (Go.Operand.tmp 21), type := 22, pos := "fixed.go:215", after := #[{ on := 0, ground := Go.Ground.data }], guard := none }) (v := (.int .i64 ax)) rfl (by kernel_rfl) (by kernel_rfl) (by kernel_rfl) (fun _ _ _ h => h) (Or.inl ⟨by rfl, ?_⟩) hH ?_
    · intro w hSw
      (try dsimp only at hSw)
      go_simp
    (try simp only [Act.put, List.setIfInBounds_toArray, List.set_cons_zero, List.set_cons_succ])
    refine wpAnyH_take (i := 3) (oi := { dst := some 24, op := Go.Op.fieldAddr 28 (Go.Operand.tmp 1) 0, type := 0, pos := "fixed.go:215", after := #[], guard := none }) (v := (.pointer (some ⟨pb, 0, none⟩))) rfl (by kernel_rfl) (by kernel_rfl) (by kernel_rfl) (fun _ _ _ h => h) (Or.inl ⟨by rfl, ?_⟩) hH ?_
    · intro w hSw
      (try dsimp only at hSw)
      go_simp
    (try simp only [Act.put, List.setIfInBounds_toArray, List.set_cons_zero, List.set_cons_succ])
    refine wpAnyH_take (i := 4) (oi := { dst := some 25, op := Go.Op.load 22 (Go.Operand.tmp 24), type := 22, pos := "fixed.go:215", after := #[{ on := 3, ground := Go.Ground.data }], guard := none }) (v := (.int .i64 bx)) rfl (by kernel_rfl) (by kernel_rfl) (by kernel_rfl) (fun _ _ _ h => h) (Or.inl ⟨by rfl, ?_⟩) hH ?_
    · intro w hSw
      (try dsimp only at hSw)
      go_simp
    (try simp only [Act.put, List.setIfInBounds_toArray, List.set_cons_zero, List.set_cons_succ])
    refine wpAnyH_take (i := 7) (oi := { dst := some 28, op := Go.Op.fieldAddr 28 (Go.Operand.tmp 0) 1, type := 0, pos := "fixed.go:215", after := #[], guard := none }) (v := (.pointer (some ⟨pa, 1, none⟩))) rfl (by kernel_rfl) (by kernel_rfl) (by kernel_rfl) (fun _ _ _ h => h) (Or.inl ⟨by rfl, ?_⟩) hH ?_
    · intro w hSw
      (try dsimp only at hSw)
      go_simp
    (try simp only [Act.put, List.setIfInBounds_toArray, List.set_cons_zero, List.set_cons_succ])
    refine wpAnyH_take (i := 8) (oi := { dst := some 29, op := Go.Op.load 22 (Go.Operand.tmp 28), type := 22, pos := "fixed.go:215", after := #[{ on := 7, ground := Go.Ground.data }], guard := none }) (v := (.int .i64 ay)) rfl (by kernel_rfl) (by kernel_rfl) (by kernel_rfl) (fun _ _ _ h => h) (Or.inl ⟨by rfl, ?_⟩) hH ?_
    · intro w hSw
      (try dsimp only at hSw)
      go_simp
    (try simp only [Act.put, List.setIfInBounds_toArray, List.set_cons_zero, List.set_cons_succ])
    refine wpAnyH_take (i := 10) (oi := { dst := some 31, op := Go.Op.fieldAddr 28 (Go.Operand.tmp 1) 1, type := 0, pos := "fixed.go:215", after := #[], guard := none }) (v := (.pointer (some ⟨pb, 1, none⟩))) rfl (by kernel_rfl) (by kernel_rfl) (by kernel_rfl) (fun _ _ _ h => h) (Or.inl ⟨by rfl, ?_⟩) hH ?_
    · intro w hSw
      (try dsimp only at hSw)
      go_simp
    (try simp only [Act.put, List.setIfInBounds_toArray, List.set_cons_zero, List.set_cons_succ])
    refine wpAnyH_take (i := 11) (oi := { dst := some 32, op := Go.Op.load 22 (Go.Operand.tmp 31), type := 22, pos := "fixed.go:215", after := #[{ on := 10, ground := Go.Ground.data }], guard := none }) (v := (.int .i64 by1)) rfl (by kernel_rfl) (by kernel_rfl) (by kernel_rfl) (fun _ _ _ h => h) (Or.inl ⟨by rfl, ?_⟩) hH ?_
    · intro w hSw
      (try dsimp only at hSw)
      go_simp
    (try simp only [Act.put, List.setIfInBounds_toArray, List.set_cons_zero, List.set_cons_succ])
    clear hH
    refine wpAnyH_gen (fun ops Q a0 hops hQQ ha0 => ?_)
    have HS611 := hid (show ∀ (v : World) (b5 b6 : Nat) (hB : Below W1.heap.size W1 v) (ha5 : v.heap[b5]? = some (.cells #[.int .u64 0, .int .u64 0] 149 (0, 0))) (hg5 : W1.heap.size ≤ b5) (ha6 : v.heap[b6]? = some (.cells #[.int .u64 0, .int .u64 0] 149 (0, 0))) (hg6 : W1.heap.size ≤ b6) (hne : b6 ≠ b5), wpAnyH Tryz.prog .any ops Q (fun W => W.cell? ⟨pa, 0, none⟩ = some (.int .i64 ax) ∧ W.cell? ⟨pa, 1, none⟩ = some (.int .i64 ay) ∧ W.cell? ⟨pb, 0, none⟩ = some (.int .i64 bx) ∧ W.cell? ⟨pb, 1, none⟩ = some (.int .i64 by1)) 2 #[true, true, true, true, true, true, true, true, true, true, true, true, true, true, true, true, false, false] ((((((((a0.put (some 23) (.int .u64 na)).put (some 26) (.int .u64 nb)).put (some 27) (.agg #[.int .u64 x1, .int .u64 x0])).put (some 30) (.int .u64 nc)).put (some 33) (.int .u64 nd)).put (some 34) (.agg #[.int .u64 y1, .int .u64 y0])).put (some 5) (.pointer (some ⟨b5, 0, none⟩))).put (some 6) (.pointer (some ⟨b6, 0, none⟩))) v from by
      intro v b5 b6 hB ha5 hg5 ha6 hg6 hne
      subst hops hQQ ha0
      have hH := HQ.out v hB
      (try simp only [Act.put, List.setIfInBounds_toArray, List.set_cons_zero, List.set_cons_succ])
      refine wpAnyH_ready (rs := [16]) (by kernel_rfl) (by simp) ?_
      refine AllReadyH.cons rfl (fun K hK => ?_) AllReadyH.nil
      obtain ⟨q0, q1, q2, q3⟩ := cells2 ha5
      go_simp
      refine hK.out _ _ (HQ.out _ (put2_below (.int .u64 x1) (.int .u64 x0) hB hg5)) (fun hH1 => ?_)
      clear hK K
      (try simp only [List.setIfInBounds_toArray, List.set_cons_zero, List.set_cons_succ])
      have ha6 := (put2_oth (w := v) (.int .u64 x1) (.int .u64 x0) hne).trans ha6
      have ha5 := put2_same (.int .u64 x1) (.int .u64 x0) ha5
      have hB := put2_below (.int .u64 x1) (.int .u64 x0) hB hg5
      generalize ((v.setCell ⟨b5, 0, none⟩ (.int .u64 x1)).setCell ⟨b5, 1, none⟩ (.int .u64 x0)) = v1 at *
      clear q0 q1 q2 q3
      refine wpAnyH_ready (rs := [17]) (by kernel_rfl) (by simp) ?_
      refine AllReadyH.cons rfl (fun K hK => ?_) AllReadyH.nil
      obtain ⟨q0, q1, q2, q3⟩ := cells2 ha6
      go_simp
      refine hK.out _ _ (HQ.out _ (put2_below (.int .u64 y1) (.int .u64 y0) hB hg6)) (fun hH2 => ?_)
      clear hK K
      (try simp only [List.setIfInBounds_toArray, List.set_cons_zero, List.set_cons_succ])
      have ha5 := (put2_oth (w := v1) (.int .u64 y1) (.int .u64 y0) (Ne.symm hne)).trans ha5
      have ha6 := put2_same (.int .u64 y1) (.int .u64 y0) ha6
      have hB := put2_below (.int .u64 y1) (.int .u64 y0) hB hg6
      generalize (v1.setCell ⟨b6, 0, none⟩ (.int .u64 y1)).setCell ⟨b6, 1, none⟩ (.int .u64 y0) = v2 at *
      refine wpAnyH_done (by kernel_rfl) ?_ _
      go_wp2_with fail
      go_meet
      exact ⟨_, _, rfl, rfl, ha5, ha6, hg5, hg6, hB⟩)
    have HS511 := hid (show ∀ (v : World) (b5 b6 : Nat) (hB : Below W1.heap.size W1 v) (ha5 : v.heap[b5]? = some (.cells #[.int .u64 0, .int .u64 0] 149 (0, 0))) (hg5 : W1.heap.size ≤ b5) (ha6 : v.heap[b6]? = some (.cells #[.int .u64 0, .int .u64 0] 149 (0, 0))) (hg6 : W1.heap.size ≤ b6) (hne : b6 ≠ b5), wpAnyH Tryz.prog .any ops Q (fun W => W.cell? ⟨pa, 0, none⟩ = some (.int .i64 ax) ∧ W.cell? ⟨pa, 1, none⟩ = some (.int .i64 ay) ∧ W.cell? ⟨pb, 0, none⟩ = some (.int .i64 bx) ∧ W.cell? ⟨pb, 1, none⟩ = some (.int .i64 by1)) 3 #[true, true, true, true, true, true, true, true, true, true, true, true, true, false, true, true, false, false] (((((((a0.put (some 23) (.int .u64 na)).put (some 26) (.int .u64 nb)).put (some 27) (.agg #[.int .u64 x1, .int .u64 x0])).put (some 30) (.int .u64 nc)).put (some 33) (.int .u64 nd)).put (some 5) (.pointer (some ⟨b5, 0, none⟩))).put (some 6) (.pointer (some ⟨b6, 0, none⟩))) v from by
      intro v b5 b6 hB ha5 hg5 ha6 hg6 hne
      subst hops hQQ ha0
      have hH := HQ.out v hB
      (try simp only [Act.put, List.setIfInBounds_toArray, List.set_cons_zero, List.set_cons_succ])
      refine wpAnyH_ready (rs := [13]) (by kernel_rfl) (by simp) ?_
      refine AllReadyH.cons rfl (fun K hK => ?_) (AllReadyH.nil)
      go_simp
      refine (H13.out _).mono ?_
      rintro e u ⟨rfl, hb⟩
      refine hK.out _ _ (HQ.out _ (btrans hB (Nat.le_refl _) hb)) (fun _ => ?_)
      have hx := HS611.out _ b5 b6 (btrans hB (Nat.le_refl _) hb) (carry ha5 hb) hg5 (carry ha6 hb) hg6 hne
      simp only [Act.put, List.setIfInBounds_toArray, List.set_cons_zero, List.set_cons_succ] at hx
      exact wpAnyH_listed (by kernel_rfl) hx)
    have HS601 := hid (show ∀ (v : World) (b5 b6 : Nat) (hB : Below W1.heap.size W1 v) (ha6 : v.heap[b6]? = some (.cells #[.int .u64 0, .int .u64 0] 149 (0, 0))) (hg6 : W1.heap.size ≤ b6), wpAnyH Tryz.prog .any ops Q (fun W => W.cell? ⟨pa, 0, none⟩ = some (.int .i64 ax) ∧ W.cell? ⟨pa, 1, none⟩ = some (.int .i64 ay) ∧ W.cell? ⟨pb, 0, none⟩ = some (.int .i64 bx) ∧ W.cell? ⟨pb, 1, none⟩ = some (.int .i64 by1)) 3 #[true, true, true, true, true, true, true, true, true, true, true, true, true, true, false, true, false, false] (((((((a0.put (some 23) (.int .u64 na)).put (some 26) (.int .u64 nb)).put (some 27) (.agg #[.int .u64 x1, .int .u64 x0])).put (some 30) (.int .u64 nc)).put (some 33) (.int .u64 nd)).put (some 34) (.agg #[.int .u64 y1, .int .u64 y0])).put (some 6) (.pointer (some ⟨b6, 0, none⟩))) v from by
      intro v b5 b6 hB ha6 hg6
      subst hops hQQ ha0
      have hH := HQ.out v hB
      (try simp only [Act.put, List.setIfInBounds_toArray, List.set_cons_zero, List.set_cons_succ])
      refine wpAnyH_ready (rs := [14]) (by kernel_rfl) (by simp) ?_
      refine AllReadyH.cons rfl (fun K hK => ?_) (AllReadyH.nil)
      go_simp
      refine hK.out _ _ (HQ.out _ (hB.alloc hB.size (.cells #[.int .u64 0, .int .u64 0] 149))) (fun _ => ?_)
      have hx := HS611.out _ v.heap.size b6 (hB.alloc hB.size (.cells #[.int .u64 0, .int .u64 0] 149)) (heap_alloc_new v (.cells #[.int .u64 0, .int .u64 0] 149)) (hB.size) (carryA ha6 _) hg6 (Nat.ne_of_lt (Array.getElem?_eq_some_iff.1 ha6).1)
      simp only [Act.put, List.setIfInBounds_toArray, List.set_cons_zero, List.set_cons_succ] at hx
      exact wpAnyH_listed (by kernel_rfl) hx)
    have HS610 := hid (show ∀ (v : World) (b5 b6 : Nat) (hB : Below W1.heap.size W1 v) (ha5 : v.heap[b5]? = some (.cells #[.int .u64 0, .int .u64 0] 149 (0, 0))) (hg5 : W1.heap.size ≤ b5), wpAnyH Tryz.prog .any ops Q (fun W => W.cell? ⟨pa, 0, none⟩ = some (.int .i64 ax) ∧ W.cell? ⟨pa, 1, none⟩ = some (.int .i64 ay) ∧ W.cell? ⟨pb, 0, none⟩ = some (.int .i64 bx) ∧ W.cell? ⟨pb, 1, none⟩ = some (.int .i64 by1)) 3 #[true, true, true, true, true, true, true, true, true, true, true, true, true, true, true, false, false, false] (((((((a0.put (some 23) (.int .u64 na)).put (some 26) (.int .u64 nb)).put (some 27) (.agg #[.int .u64 x1, .int .u64 x0])).put (some 30) (.int .u64 nc)).put (some 33) (.int .u64 nd)).put (some 34) (.agg #[.int .u64 y1, .int .u64 y0])).put (some 5) (.pointer (some ⟨b5, 0, none⟩))) v from by
      intro v b5 b6 hB ha5 hg5
      subst hops hQQ ha0
      have hH := HQ.out v hB
      (try simp only [Act.put, List.setIfInBounds_toArray, List.set_cons_zero, List.set_cons_succ])
      refine wpAnyH_ready (rs := [15]) (by kernel_rfl) (by simp) ?_
      refine AllReadyH.cons rfl (fun K hK => ?_) (AllReadyH.nil)
      go_simp
      refine hK.out _ _ (HQ.out _ (hB.alloc hB.size (.cells #[.int .u64 0, .int .u64 0] 149))) (fun _ => ?_)
      have hx := HS611.out _ b5 v.heap.size (hB.alloc hB.size (.cells #[.int .u64 0, .int .u64 0] 149)) (carryA ha5 _) hg5 (heap_alloc_new v (.cells #[.int .u64 0, .int .u64 0] 149)) (hB.size) (Nat.ne_of_gt (Array.getElem?_eq_some_iff.1 ha5).1)
      simp only [Act.put, List.setIfInBounds_toArray, List.set_cons_zero, List.set_cons_succ] at hx
      exact wpAnyH_listed (by kernel_rfl) hx)
    have HS411 := hid (show ∀ (v : World) (b5 b6 : Nat) (hB : Below W1.heap.size W1 v) (ha5 : v.heap[b5]? = some (.cells #[.int .u64 0, .int .u64 0] 149 (0, 0))) (hg5 : W1.heap.size ≤ b5) (ha6 : v.heap[b6]? = some (.cells #[.int .u64 0, .int .u64 0] 149 (0, 0))) (hg6 : W1.heap.size ≤ b6) (hne : b6 ≠ b5), wpAnyH Tryz.prog .any ops Q (fun W => W.cell? ⟨pa, 0, none⟩ = some (.int .i64 ax) ∧ W.cell? ⟨pa, 1, none⟩ = some (.int .i64 ay) ∧ W.cell? ⟨pb, 0, none⟩ = some (.int .i64 bx) ∧ W.cell? ⟨pb, 1, none⟩ = some (.int .i64 by1)) 4 #[true, true, true, true, true, true, true, true, true, true, true, true, false, false, true, true, false, false] ((((((a0.put (some 23) (.int .u64 na)).put (some 26) (.int .u64 nb)).put (some 27) (.agg #[.int .u64 x1, .int .u64 x0])).put (some 30) (.int .u64 nc)).put (some 5) (.pointer (some ⟨b5, 0, none⟩))).put (some 6) (.pointer (some ⟨b6, 0, none⟩))) v from by
      intro v b5 b6 hB ha5 hg5 ha6 hg6 hne
      subst hops hQQ ha0
      have hH := HQ.out v hB
      (try simp only [Act.put, List.setIfInBounds_toArray, List.set_cons_zero, List.set_cons_succ])
      refine wpAnyH_ready (rs := [12]) (by kernel_rfl) (by simp) ?_
      refine AllReadyH.cons rfl (fun K hK => ?_) (AllReadyH.nil)
      go_simp
      refine (H12.out _).mono ?_
      rintro e u ⟨rfl, hb⟩
      refine hK.out _ _ (HQ.out _ (btrans hB (Nat.le_refl _) hb)) (fun _ => ?_)
      have hx := HS511.out _ b5 b6 (btrans hB (Nat.le_refl _) hb) (carry ha5 hb) hg5 (carry ha6 hb) hg6 hne
      simp only [Act.put, List.setIfInBounds_toArray, List.set_cons_zero, List.set_cons_succ] at hx
      exact wpAnyH_listed (by kernel_rfl) hx)
    have HS501 := hid (show ∀ (v : World) (b5 b6 : Nat) (hB : Below W1.heap.size W1 v) (ha6 : v.heap[b6]? = some (.cells #[.int .u64 0, .int .u64 0] 149 (0, 0))) (hg6 : W1.heap.size ≤ b6), wpAnyH Tryz.prog .any ops Q (fun W => W.cell? ⟨pa, 0, none⟩ = some (.int .i64 ax) ∧ W.cell? ⟨pa, 1, none⟩ = some (.int .i64 ay) ∧ W.cell? ⟨pb, 0, none⟩ = some (.int .i64 bx) ∧ W.cell? ⟨pb, 1, none⟩ = some (.int .i64 by1)) 4 #[true, true, true, true, true, true, true, true, true, true, true, true, true, false, false, true, false, false] ((((((a0.put (some 23) (.int .u64 na)).put (some 26) (.int .u64 nb)).put (some 27) (.agg #[.int .u64 x1, .int .u64 x0])).put (some 30) (.int .u64 nc)).put (some 33) (.int .u64 nd)).put (some 6) (.pointer (some ⟨b6, 0, none⟩))) v from by
      intro v b5 b6 hB ha6 hg6
      subst hops hQQ ha0
      have hH := HQ.out v hB
      (try simp only [Act.put, List.setIfInBounds_toArray, List.set_cons_zero, List.set_cons_succ])
      refine wpAnyH_ready (rs := [13, 14]) (by kernel_rfl) (by simp) ?_
      refine AllReadyH.cons rfl (fun K hK => ?_) (AllReadyH.cons rfl (fun K hK => ?_) (AllReadyH.nil))
      · go_simp
        refine (H13.out _).mono ?_
        rintro e u ⟨rfl, hb⟩
        refine hK.out _ _ (HQ.out _ (btrans hB (Nat.le_refl _) hb)) (fun _ => ?_)
        have hx := HS601.out _ b5 b6 (btrans hB (Nat.le_refl _) hb) (carry ha6 hb) hg6
        simp only [Act.put, List.setIfInBounds_toArray, List.set_cons_zero, List.set_cons_succ] at hx
        exact wpAnyH_listed (by kernel_rfl) hx
      · go_simp
        refine hK.out _ _ (HQ.out _ (hB.alloc hB.size (.cells #[.int .u64 0, .int .u64 0] 149))) (fun _ => ?_)
        have hx := HS511.out _ v.heap.size b6 (hB.alloc hB.size (.cells #[.int .u64 0, .int .u64 0] 149)) (heap_alloc_new v (.cells #[.int .u64 0, .int .u64 0] 149)) (hB.size) (carryA ha6 _) hg6 (Nat.ne_of_lt (Array.getElem?_eq_some_iff.1 ha6).1)
        simp only [Act.put, List.setIfInBounds_toArray, List.set_cons_zero, List.set_cons_succ] at hx
        exact wpAnyH_listed (by kernel_rfl) hx)
    have HS510 := hid (show ∀ (v : World) (b5 b6 : Nat) (hB : Below W1.heap.size W1 v) (ha5 : v.heap[b5]? = some (.cells #[.int .u64 0, .int .u64 0] 149 (0, 0))) (hg5 : W1.heap.size ≤ b5), wpAnyH Tryz.prog .any ops Q (fun W => W.cell? ⟨pa, 0, none⟩ = some (.int .i64 ax) ∧ W.cell? ⟨pa, 1, none⟩ = some (.int .i64 ay) ∧ W.cell? ⟨pb, 0, none⟩ = some (.int .i64 bx) ∧ W.cell? ⟨pb, 1, none⟩ = some (.int .i64 by1)) 4 #[true, true, true, true, true, true, true, true, true, true, true, true, true, false, true, false, false, false] ((((((a0.put (some 23) (.int .u64 na)).put (some 26) (.int .u64 nb)).put (some 27) (.agg #[.int .u64 x1, .int .u64 x0])).put (some 30) (.int .u64 nc)).put (some 33) (.int .u64 nd)).put (some 5) (.pointer (some ⟨b5, 0, none⟩))) v from by
      intro v b5 b6 hB ha5 hg5
      subst hops hQQ ha0
      have hH := HQ.out v hB
      (try simp only [Act.put, List.setIfInBounds_toArray, List.set_cons_zero, List.set_cons_succ])
      refine wpAnyH_ready (rs := [13, 15]) (by kernel_rfl) (by simp) ?_
      refine AllReadyH.cons rfl (fun K hK => ?_) (AllReadyH.cons rfl (fun K hK => ?_) (AllReadyH.nil))
      · go_simp
        refine (H13.out _).mono ?_
        rintro e u ⟨rfl, hb⟩
        refine hK.out _ _ (HQ.out _ (btrans hB (Nat.le_refl _) hb)) (fun _ => ?_)
        have hx := HS610.out _ b5 b6 (btrans hB (Nat.le_refl _) hb) (carry ha5 hb) hg5
        simp only [Act.put, List.setIfInBounds_toArray, List.set_cons_zero, List.set_cons_succ] at hx
        exact wpAnyH_listed (by kernel_rfl) hx
      · go_simp
        refine hK.out _ _ (HQ.out _ (hB.alloc hB.size (.cells #[.int .u64 0, .int .u64 0] 149))) (fun _ => ?_)
        have hx := HS511.out _ b5 v.heap.size (hB.alloc hB.size (.cells #[.int .u64 0, .int .u64 0] 149)) (carryA ha5 _) hg5 (heap_alloc_new v (.cells #[.int .u64 0, .int .u64 0] 149)) (hB.size) (Nat.ne_of_gt (Array.getElem?_eq_some_iff.1 ha5).1)
        simp only [Act.put, List.setIfInBounds_toArray, List.set_cons_zero, List.set_cons_succ] at hx
        exact wpAnyH_listed (by kernel_rfl) hx)
    have HS600 := hid (show ∀ (v : World) (b5 b6 : Nat) (hB : Below W1.heap.size W1 v), wpAnyH Tryz.prog .any ops Q (fun W => W.cell? ⟨pa, 0, none⟩ = some (.int .i64 ax) ∧ W.cell? ⟨pa, 1, none⟩ = some (.int .i64 ay) ∧ W.cell? ⟨pb, 0, none⟩ = some (.int .i64 bx) ∧ W.cell? ⟨pb, 1, none⟩ = some (.int .i64 by1)) 4 #[true, true, true, true, true, true, true, true, true, true, true, true, true, true, false, false, false, false] ((((((a0.put (some 23) (.int .u64 na)).put (some 26) (.int .u64 nb)).put (some 27) (.agg #[.int .u64 x1, .int .u64 x0])).put (some 30) (.int .u64 nc)).put (some 33) (.int .u64 nd)).put (some 34) (.agg #[.int .u64 y1, .int .u64 y0])) v from by
      intro v b5 b6 hB
      subst hops hQQ ha0
      have hH := HQ.out v hB
      (try simp only [Act.put, List.setIfInBounds_toArray, List.set_cons_zero, List.set_cons_succ])
      refine wpAnyH_ready (rs := [14, 15]) (by kernel_rfl) (by simp) ?_
      refine AllReadyH.cons rfl (fun K hK => ?_) (AllReadyH.cons rfl (fun K hK => ?_) (AllReadyH.nil))
      · go_simp
        refine hK.out _ _ (HQ.out _ (hB.alloc hB.size (.cells #[.int .u64 0, .int .u64 0] 149))) (fun _ => ?_)
        have hx := HS610.out _ v.heap.size b6 (hB.alloc hB.size (.cells #[.int .u64 0, .int .u64 0] 149)) (heap_alloc_new v (.cells #[.int .u64 0, .int .u64 0] 149)) (hB.size)
        simp only [Act.put, List.setIfInBounds_toArray, List.set_cons_zero, List.set_cons_succ] at hx
        exact wpAnyH_listed (by kernel_rfl) hx
      · go_simp
        refine hK.out _ _ (HQ.out _ (hB.alloc hB.size (.cells #[.int .u64 0, .int .u64 0] 149))) (fun _ => ?_)
        have hx := HS601.out _ b5 v.heap.size (hB.alloc hB.size (.cells #[.int .u64 0, .int .u64 0] 149)) (heap_alloc_new v (.cells #[.int .u64 0, .int .u64 0] 149)) (hB.size)
        simp only [Act.put, List.setIfInBounds_toArray, List.set_cons_zero, List.set_cons_succ] at hx
        exact wpAnyH_listed (by kernel_rfl) hx)
    have HS311 := hid (show ∀ (v : World) (b5 b6 : Nat) (hB : Below W1.heap.size W1 v) (ha5 : v.heap[b5]? = some (.cells #[.int .u64 0, .int .u64 0] 149 (0, 0))) (hg5 : W1.heap.size ≤ b5) (ha6 : v.heap[b6]? = some (.cells #[.int .u64 0, .int .u64 0] 149 (0, 0))) (hg6 : W1.heap.size ≤ b6) (hne : b6 ≠ b5), wpAnyH Tryz.prog .any ops Q (fun W => W.cell? ⟨pa, 0, none⟩ = some (.int .i64 ax) ∧ W.cell? ⟨pa, 1, none⟩ = some (.int .i64 ay) ∧ W.cell? ⟨pb, 0, none⟩ = some (.int .i64 bx) ∧ W.cell? ⟨pb, 1, none⟩ = some (.int .i64 by1)) 5 #[true, true, true, true, true, true, true, true, true, false, true, true, false, false, true, true, false, false] (((((a0.put (some 23) (.int .u64 na)).put (some 26) (.int .u64 nb)).put (some 27) (.agg #[.int .u64 x1, .int .u64 x0])).put (some 5) (.pointer (some ⟨b5, 0, none⟩))).put (some 6) (.pointer (some ⟨b6, 0, none⟩))) v from by
      intro v b5 b6 hB ha5 hg5 ha6 hg6 hne
      subst hops hQQ ha0
      have hH := HQ.out v hB
      (try simp only [Act.put, List.setIfInBounds_toArray, List.set_cons_zero, List.set_cons_succ])
      refine wpAnyH_ready (rs := [9]) (by kernel_rfl) (by simp) ?_
      refine AllReadyH.cons rfl (fun K hK => ?_) (AllReadyH.nil)
      go_simp
      refine (H9.out _).mono ?_
      rintro e u ⟨rfl, hb⟩
      refine hK.out _ _ (HQ.out _ (btrans hB (Nat.le_refl _) hb)) (fun _ => ?_)
      have hx := HS411.out _ b5 b6 (btrans hB (Nat.le_refl _) hb) (carry ha5 hb) hg5 (carry ha6 hb) hg6 hne
      simp only [Act.put, List.setIfInBounds_toArray, List.set_cons_zero, List.set_cons_succ] at hx
      exact wpAnyH_listed (by kernel_rfl) hx)
    have HS401 := hid (show ∀ (v : World) (b5 b6 : Nat) (hB : Below W1.heap.size W1 v) (ha6 : v.heap[b6]? = some (.cells #[.int .u64 0, .int .u64 0] 149 (0, 0))) (hg6 : W1.heap.size ≤ b6), wpAnyH Tryz.prog .any ops Q (fun W => W.cell? ⟨pa, 0, none⟩ = some (.int .i64 ax) ∧ W.cell? ⟨pa, 1, none⟩ = some (.int .i64 ay) ∧ W.cell? ⟨pb, 0, none⟩ = some (.int .i64 bx) ∧ W.cell? ⟨pb, 1, none⟩ = some (.int .i64 by1)) 5 #[true, true, true, true, true, true, true, true, true, true, true, true, false, false, false, true, false, false] (((((a0.put (some 23) (.int .u64 na)).put (some 26) (.int .u64 nb)).put (some 27) (.agg #[.int .u64 x1, .int .u64 x0])).put (some 30) (.int .u64 nc)).put (some 6) (.pointer (some ⟨b6, 0, none⟩))) v from by
      intro v b5 b6 hB ha6 hg6
      subst hops hQQ ha0
      have hH := HQ.out v hB
      (try simp only [Act.put, List.setIfInBounds_toArray, List.set_cons_zero, List.set_cons_succ])
      refine wpAnyH_ready (rs := [12, 14]) (by kernel_rfl) (by simp) ?_
      refine AllReadyH.cons rfl (fun K hK => ?_) (AllReadyH.cons rfl (fun K hK => ?_) (AllReadyH.nil))
      · go_simp
        refine (H12.out _).mono ?_
        rintro e u ⟨rfl, hb⟩
        refine hK.out _ _ (HQ.out _ (btrans hB (Nat.le_refl _) hb)) (fun _ => ?_)
        have hx := HS501.out _ b5 b6 (btrans hB (Nat.le_refl _) hb) (carry ha6 hb) hg6
        simp only [Act.put, List.setIfInBounds_toArray, List.set_cons_zero, List.set_cons_succ] at hx
        exact wpAnyH_listed (by kernel_rfl) hx
      · go_simp
        refine hK.out _ _ (HQ.out _ (hB.alloc hB.size (.cells #[.int .u64 0, .int .u64 0] 149))) (fun _ => ?_)
        have hx := HS411.out _ v.heap.size b6 (hB.alloc hB.size (.cells #[.int .u64 0, .int .u64 0] 149)) (heap_alloc_new v (.cells #[.int .u64 0, .int .u64 0] 149)) (hB.size) (carryA ha6 _) hg6 (Nat.ne_of_lt (Array.getElem?_eq_some_iff.1 ha6).1)
        simp only [Act.put, List.setIfInBounds_toArray, List.set_cons_zero, List.set_cons_succ] at hx
        exact wpAnyH_listed (by kernel_rfl) hx)
    have HS410 := hid (show ∀ (v : World) (b5 b6 : Nat) (hB : Below W1.heap.size W1 v) (ha5 : v.heap[b5]? = some (.cells #[.int .u64 0, .int .u64 0] 149 (0, 0))) (hg5 : W1.heap.size ≤ b5), wpAnyH Tryz.prog .any ops Q (fun W => W.cell? ⟨pa, 0, none⟩ = some (.int .i64 ax) ∧ W.cell? ⟨pa, 1, none⟩ = some (.int .i64 ay) ∧ W.cell? ⟨pb, 0, none⟩ = some (.int .i64 bx) ∧ W.cell? ⟨pb, 1, none⟩ = some (.int .i64 by1)) 5 #[true, true, true, true, true, true, true, true, true, true, true, true, false, false, true, false, false, false] (((((a0.put (some 23) (.int .u64 na)).put (some 26) (.int .u64 nb)).put (some 27) (.agg #[.int .u64 x1, .int .u64 x0])).put (some 30) (.int .u64 nc)).put (some 5) (.pointer (some ⟨b5, 0, none⟩))) v from by
      intro v b5 b6 hB ha5 hg5
      subst hops hQQ ha0
      have hH := HQ.out v hB
      (try simp only [Act.put, List.setIfInBounds_toArray, List.set_cons_zero, List.set_cons_succ])
      refine wpAnyH_ready (rs := [12, 15]) (by kernel_rfl) (by simp) ?_
      refine AllReadyH.cons rfl (fun K hK => ?_) (AllReadyH.cons rfl (fun K hK => ?_) (AllReadyH.nil))
      · go_simp
        refine (H12.out _).mono ?_
        rintro e u ⟨rfl, hb⟩
        refine hK.out _ _ (HQ.out _ (btrans hB (Nat.le_refl _) hb)) (fun _ => ?_)
        have hx := HS510.out _ b5 b6 (btrans hB (Nat.le_refl _) hb) (carry ha5 hb) hg5
        simp only [Act.put, List.setIfInBounds_toArray, List.set_cons_zero, List.set_cons_succ] at hx
        exact wpAnyH_listed (by kernel_rfl) hx
      · go_simp
        refine hK.out _ _ (HQ.out _ (hB.alloc hB.size (.cells #[.int .u64 0, .int .u64 0] 149))) (fun _ => ?_)
        have hx := HS411.out _ b5 v.heap.size (hB.alloc hB.size (.cells #[.int .u64 0, .int .u64 0] 149)) (carryA ha5 _) hg5 (heap_alloc_new v (.cells #[.int .u64 0, .int .u64 0] 149)) (hB.size) (Nat.ne_of_gt (Array.getElem?_eq_some_iff.1 ha5).1)
        simp only [Act.put, List.setIfInBounds_toArray, List.set_cons_zero, List.set_cons_succ] at hx
        exact wpAnyH_listed (by kernel_rfl) hx)
    have HS500 := hid (show ∀ (v : World) (b5 b6 : Nat) (hB : Below W1.heap.size W1 v), wpAnyH Tryz.prog .any ops Q (fun W => W.cell? ⟨pa, 0, none⟩ = some (.int .i64 ax) ∧ W.cell? ⟨pa, 1, none⟩ = some (.int .i64 ay) ∧ W.cell? ⟨pb, 0, none⟩ = some (.int .i64 bx) ∧ W.cell? ⟨pb, 1, none⟩ = some (.int .i64 by1)) 5 #[true, true, true, true, true, true, true, true, true, true, true, true, true, false, false, false, false, false] (((((a0.put (some 23) (.int .u64 na)).put (some 26) (.int .u64 nb)).put (some 27) (.agg #[.int .u64 x1, .int .u64 x0])).put (some 30) (.int .u64 nc)).put (some 33) (.int .u64 nd)) v from by
      intro v b5 b6 hB
      subst hops hQQ ha0
      have hH := HQ.out v hB
      (try simp only [Act.put, List.setIfInBounds_toArray, List.set_cons_zero, List.set_cons_succ])
      refine wpAnyH_ready (rs := [13, 14, 15]) (by kernel_rfl) (by simp) ?_
      refine AllReadyH.cons rfl (fun K hK => ?_) (AllReadyH.cons rfl (fun K hK => ?_) (AllReadyH.cons rfl (fun K hK => ?_) (AllReadyH.nil)))
      · go_simp
        refine (H13.out _).mono ?_
        rintro e u ⟨rfl, hb⟩
        refine hK.out _ _ (HQ.out _ (btrans hB (Nat.le_refl _) hb)) (fun _ => ?_)
        have hx := HS600.out _ b5 b6 (btrans hB (Nat.le_refl _) hb)
        simp only [Act.put, List.setIfInBounds_toArray, List.set_cons_zero, List.set_cons_succ] at hx
        exact wpAnyH_listed (by kernel_rfl) hx
      · go_simp
        refine hK.out _ _ (HQ.out _ (hB.alloc hB.size (.cells #[.int .u64 0, .int .u64 0] 149))) (fun _ => ?_)
        have hx := HS510.out _ v.heap.size b6 (hB.alloc hB.size (.cells #[.int .u64 0, .int .u64 0] 149)) (heap_alloc_new v (.cells #[.int .u64 0, .int .u64 0] 149)) (hB.size)
        simp only [Act.put, List.setIfInBounds_toArray, List.set_cons_zero, List.set_cons_succ] at hx
        exact wpAnyH_listed (by kernel_rfl) hx
      · go_simp
        refine hK.out _ _ (HQ.out _ (hB.alloc hB.size (.cells #[.int .u64 0, .int .u64 0] 149))) (fun _ => ?_)
        have hx := HS501.out _ b5 v.heap.size (hB.alloc hB.size (.cells #[.int .u64 0, .int .u64 0] 149)) (heap_alloc_new v (.cells #[.int .u64 0, .int .u64 0] 149)) (hB.size)
        simp only [Act.put, List.setIfInBounds_toArray, List.set_cons_zero, List.set_cons_succ] at hx
        exact wpAnyH_listed (by kernel_rfl) hx)
    have HS211 := hid (show ∀ (v : World) (b5 b6 : Nat) (hB : Below W1.heap.size W1 v) (ha5 : v.heap[b5]? = some (.cells #[.int .u64 0, .int .u64 0] 149 (0, 0))) (hg5 : W1.heap.size ≤ b5) (ha6 : v.heap[b6]? = some (.cells #[.int .u64 0, .int .u64 0] 149 (0, 0))) (hg6 : W1.heap.size ≤ b6) (hne : b6 ≠ b5), wpAnyH Tryz.prog .any ops Q (fun W => W.cell? ⟨pa, 0, none⟩ = some (.int .i64 ax) ∧ W.cell? ⟨pa, 1, none⟩ = some (.int .i64 ay) ∧ W.cell? ⟨pb, 0, none⟩ = some (.int .i64 bx) ∧ W.cell? ⟨pb, 1, none⟩ = some (.int .i64 by1)) 6 #[true, true, true, true, true, true, false, true, true, false, true, true, false, false, true, true, false, false] ((((a0.put (some 23) (.int .u64 na)).put (some 26) (.int .u64 nb)).put (some 5) (.pointer (some ⟨b5, 0, none⟩))).put (some 6) (.pointer (some ⟨b6, 0, none⟩))) v from by
      intro v b5 b6 hB ha5 hg5 ha6 hg6 hne
      subst hops hQQ ha0
      have hH := HQ.out v hB
      (try simp only [Act.put, List.setIfInBounds_toArray, List.set_cons_zero, List.set_cons_succ])
      refine wpAnyH_ready (rs := [6]) (by kernel_rfl) (by simp) ?_
      refine AllReadyH.cons rfl (fun K hK => ?_) (AllReadyH.nil)
      go_simp
      refine (H6.out _).mono ?_
      rintro e u ⟨rfl, hb⟩
      refine hK.out _ _ (HQ.out _ (btrans hB (Nat.le_refl _) hb)) (fun _ => ?_)
      have hx := HS311.out _ b5 b6 (btrans hB (Nat.le_refl _) hb) (carry ha5 hb) hg5 (carry ha6 hb) hg6 hne
      simp only [Act.put, List.setIfInBounds_toArray, List.set_cons_zero, List.set_cons_succ] at hx
      exact wpAnyH_listed (by kernel_rfl) hx)
    have HS301 := hid (show ∀ (v : World) (b5 b6 : Nat) (hB : Below W1.heap.size W1 v) (ha6 : v.heap[b6]? = some (.cells #[.int .u64 0, .int .u64 0] 149 (0, 0))) (hg6 : W1.heap.size ≤ b6), wpAnyH Tryz.prog .any ops Q (fun W => W.cell? ⟨pa, 0, none⟩ = some (.int .i64 ax) ∧ W.cell? ⟨pa, 1, none⟩ = some (.int .i64 ay) ∧ W.cell? ⟨pb, 0, none⟩ = some (.int .i64 bx) ∧ W.cell? ⟨pb, 1, none⟩ = some (.int .i64 by1)) 6 #[true, true, true, true, true, true, true, true, true, false, true, true, false, false, false, true, false, false] ((((a0.put (some 23) (.int .u64 na)).put (some 26) (.int .u64 nb)).put (some 27) (.agg #[.int .u64 x1, .int .u64 x0])).put (some 6) (.pointer (some ⟨b6, 0, none⟩))) v from by
      intro v b5 b6 hB ha6 hg6
      subst hops hQQ ha0
      have hH := HQ.out v hB
      (try simp only [Act.put, List.setIfInBounds_toArray, List.set_cons_zero, List.set_cons_succ])
      refine wpAnyH_ready (rs := [9, 14]) (by kernel_rfl) (by simp) ?_
      refine AllReadyH.cons rfl (fun K hK => ?_) (AllReadyH.cons rfl (fun K hK => ?_) (AllReadyH.nil))
      · go_simp
        refine (H9.out _).mono ?_
        rintro e u ⟨rfl, hb⟩
        refine hK.out _ _ (HQ.out _ (btrans hB (Nat.le_refl _) hb)) (fun _ => ?_)
        have hx := HS401.out _ b5 b6 (btrans hB (Nat.le_refl _) hb) (carry ha6 hb) hg6
        simp only [Act.put, List.setIfInBounds_toArray, List.set_cons_zero, List.set_cons_succ] at hx
        exact wpAnyH_listed (by kernel_rfl) hx
      · go_simp
        refine hK.out _ _ (HQ.out _ (hB.alloc hB.size (.cells #[.int .u64 0, .int .u64 0] 149))) (fun _ => ?_)
        have hx := HS311.out _ v.heap.size b6 (hB.alloc hB.size (.cells #[.int .u64 0, .int .u64 0] 149)) (heap_alloc_new v (.cells #[.int .u64 0, .int .u64 0] 149)) (hB.size) (carryA ha6 _) hg6 (Nat.ne_of_lt (Array.getElem?_eq_some_iff.1 ha6).1)
        simp only [Act.put, List.setIfInBounds_toArray, List.set_cons_zero, List.set_cons_succ] at hx
        exact wpAnyH_listed (by kernel_rfl) hx)
    have HS310 := hid (show ∀ (v : World) (b5 b6 : Nat) (hB : Below W1.heap.size W1 v) (ha5 : v.heap[b5]? = some (.cells #[.int .u64 0, .int .u64 0] 149 (0, 0))) (hg5 : W1.heap.size ≤ b5), wpAnyH Tryz.prog .any ops Q (fun W => W.cell? ⟨pa, 0, none⟩ = some (.int .i64 ax) ∧ W.cell? ⟨pa, 1, none⟩ = some (.int .i64 ay) ∧ W.cell? ⟨pb, 0, none⟩ = some (.int .i64 bx) ∧ W.cell? ⟨pb, 1, none⟩ = some (.int .i64 by1)) 6 #[true, true, true, true, true, true, true, true, true, false, true, true, false, false, true, false, false, false] ((((a0.put (some 23) (.int .u64 na)).put (some 26) (.int .u64 nb)).put (some 27) (.agg #[.int .u64 x1, .int .u64 x0])).put (some 5) (.pointer (some ⟨b5, 0, none⟩))) v from by
      intro v b5 b6 hB ha5 hg5
      subst hops hQQ ha0
      have hH := HQ.out v hB
      (try simp only [Act.put, List.setIfInBounds_toArray, List.set_cons_zero, List.set_cons_succ])
      refine wpAnyH_ready (rs := [9, 15]) (by kernel_rfl) (by simp) ?_
      refine AllReadyH.cons rfl (fun K hK => ?_) (AllReadyH.cons rfl (fun K hK => ?_) (AllReadyH.nil))
      · go_simp
        refine (H9.out _).mono ?_
        rintro e u ⟨rfl, hb⟩
        refine hK.out _ _ (HQ.out _ (btrans hB (Nat.le_refl _) hb)) (fun _ => ?_)
        have hx := HS410.out _ b5 b6 (btrans hB (Nat.le_refl _) hb) (carry ha5 hb) hg5
        simp only [Act.put, List.setIfInBounds_toArray, List.set_cons_zero, List.set_cons_succ] at hx
        exact wpAnyH_listed (by kernel_rfl) hx
      · go_simp
        refine hK.out _ _ (HQ.out _ (hB.alloc hB.size (.cells #[.int .u64 0, .int .u64 0] 149))) (fun _ => ?_)
        have hx := HS311.out _ b5 v.heap.size (hB.alloc hB.size (.cells #[.int .u64 0, .int .u64 0] 149)) (carryA ha5 _) hg5 (heap_alloc_new v (.cells #[.int .u64 0, .int .u64 0] 149)) (hB.size) (Nat.ne_of_gt (Array.getElem?_eq_some_iff.1 ha5).1)
        simp only [Act.put, List.setIfInBounds_toArray, List.set_cons_zero, List.set_cons_succ] at hx
        exact wpAnyH_listed (by kernel_rfl) hx)
    have HS400 := hid (show ∀ (v : World) (b5 b6 : Nat) (hB : Below W1.heap.size W1 v), wpAnyH Tryz.prog .any ops Q (fun W => W.cell? ⟨pa, 0, none⟩ = some (.int .i64 ax) ∧ W.cell? ⟨pa, 1, none⟩ = some (.int .i64 ay) ∧ W.cell? ⟨pb, 0, none⟩ = some (.int .i64 bx) ∧ W.cell? ⟨pb, 1, none⟩ = some (.int .i64 by1)) 6 #[true, true, true, true, true, true, true, true, true, true, true, true, false, false, false, false, false, false] ((((a0.put (some 23) (.int .u64 na)).put (some 26) (.int .u64 nb)).put (some 27) (.agg #[.int .u64 x1, .int .u64 x0])).put (some 30) (.int .u64 nc)) v from by
      intro v b5 b6 hB
      subst hops hQQ ha0
      have hH := HQ.out v hB
      (try simp only [Act.put, List.setIfInBounds_toArray, List.set_cons_zero, List.set_cons_succ])
      refine wpAnyH_ready (rs := [12, 14, 15]) (by kernel_rfl) (by simp) ?_
      refine AllReadyH.cons rfl (fun K hK => ?_) (AllReadyH.cons rfl (fun K hK => ?_) (AllReadyH.cons rfl (fun K hK => ?_) (AllReadyH.nil)))
      · go_simp
        refine (H12.out _).mono ?_
        rintro e u ⟨rfl, hb⟩
        refine hK.out _ _ (HQ.out _ (btrans hB (Nat.le_refl _) hb)) (fun _ => ?_)
        have hx := HS500.out _ b5 b6 (btrans hB (Nat.le_refl _) hb)
        simp only [Act.put, List.setIfInBounds_toArray, List.set_cons_zero, List.set_cons_succ] at hx
        exact wpAnyH_listed (by kernel_rfl) hx
      · go_simp
        refine hK.out _ _ (HQ.out _ (hB.alloc hB.size (.cells #[.int .u64 0, .int .u64 0] 149))) (fun _ => ?_)
        have hx := HS410.out _ v.heap.size b6 (hB.alloc hB.size (.cells #[.int .u64 0, .int .u64 0] 149)) (heap_alloc_new v (.cells #[.int .u64 0, .int .u64 0] 149)) (hB.size)
        simp only [Act.put, List.setIfInBounds_toArray, List.set_cons_zero, List.set_cons_succ] at hx
        exact wpAnyH_listed (by kernel_rfl) hx
      · go_simp
        refine hK.out _ _ (HQ.out _ (hB.alloc hB.size (.cells #[.int .u64 0, .int .u64 0] 149))) (fun _ => ?_)
        have hx := HS401.out _ b5 v.heap.size (hB.alloc hB.size (.cells #[.int .u64 0, .int .u64 0] 149)) (heap_alloc_new v (.cells #[.int .u64 0, .int .u64 0] 149)) (hB.size)
        simp only [Act.put, List.setIfInBounds_toArray, List.set_cons_zero, List.set_cons_succ] at hx
        exact wpAnyH_listed (by kernel_rfl) hx)
    have HS111 := hid (show ∀ (v : World) (b5 b6 : Nat) (hB : Below W1.heap.size W1 v) (ha5 : v.heap[b5]? = some (.cells #[.int .u64 0, .int .u64 0] 149 (0, 0))) (hg5 : W1.heap.size ≤ b5) (ha6 : v.heap[b6]? = some (.cells #[.int .u64 0, .int .u64 0] 149 (0, 0))) (hg6 : W1.heap.size ≤ b6) (hne : b6 ≠ b5), wpAnyH Tryz.prog .any ops Q (fun W => W.cell? ⟨pa, 0, none⟩ = some (.int .i64 ax) ∧ W.cell? ⟨pa, 1, none⟩ = some (.int .i64 ay) ∧ W.cell? ⟨pb, 0, none⟩ = some (.int .i64 bx) ∧ W.cell? ⟨pb, 1, none⟩ = some (.int .i64 by1)) 7 #[true, true, true, true, true, false, false, true, true, false, true, true, false, false, true, true, false, false] (((a0.put (some 23) (.int .u64 na)).put (some 5) (.pointer (some ⟨b5, 0, none⟩))).put (some 6) (.pointer (some ⟨b6, 0, none⟩))) v from by
      intro v b5 b6 hB ha5 hg5 ha6 hg6 hne
      subst hops hQQ ha0
      have hH := HQ.out v hB
      (try simp only [Act.put, List.setIfInBounds_toArray, List.set_cons_zero, List.set_cons_succ])
      refine wpAnyH_ready (rs := [5]) (by kernel_rfl) (by simp) ?_
      refine AllReadyH.cons rfl (fun K hK => ?_) (AllReadyH.nil)
      go_simp
      refine (H5.out _).mono ?_
      rintro e u ⟨rfl, hb⟩
      refine hK.out _ _ (HQ.out _ (btrans hB (Nat.le_refl _) hb)) (fun _ => ?_)
      have hx := HS211.out _ b5 b6 (btrans hB (Nat.le_refl _) hb) (carry ha5 hb) hg5 (carry ha6 hb) hg6 hne
      simp only [Act.put, List.setIfInBounds_toArray, List.set_cons_zero, List.set_cons_succ] at hx
      exact wpAnyH_listed (by kernel_rfl) hx)
    have HS201 := hid (show ∀ (v : World) (b5 b6 : Nat) (hB : Below W1.heap.size W1 v) (ha6 : v.heap[b6]? = some (.cells #[.int .u64 0, .int .u64 0] 149 (0, 0))) (hg6 : W1.heap.size ≤ b6), wpAnyH Tryz.prog .any ops Q (fun W => W.cell? ⟨pa, 0, none⟩ = some (.int .i64 ax) ∧ W.cell? ⟨pa, 1, none⟩ = some (.int .i64 ay) ∧ W.cell? ⟨pb, 0, none⟩ = some (.int .i64 bx) ∧ W.cell? ⟨pb, 1, none⟩ = some (.int .i64 by1)) 7 #[true, true, true, true, true, true, false, true, true, false, true, true, false, false, false, true, false, false] (((a0.put (some 23) (.int .u64 na)).put (some 26) (.int .u64 nb)).put (some 6) (.pointer (some ⟨b6, 0, none⟩))) v from by
      intro v b5 b6 hB ha6 hg6
      subst hops hQQ ha0
      have hH := HQ.out v hB
      (try simp only [Act.put, List.setIfInBounds_toArray, List.set_cons_zero, List.set_cons_succ])
      refine wpAnyH_ready (rs := [6, 14]) (by kernel_rfl) (by simp) ?_
      refine AllReadyH.cons rfl (fun K hK => ?_) (AllReadyH.cons rfl (fun K hK => ?_) (AllReadyH.nil))
      · go_simp
        refine (H6.out _).mono ?_
        rintro e u ⟨rfl, hb⟩
        refine hK.out _ _ (HQ.out _ (btrans hB (Nat.le_refl _) hb)) (fun _ => ?_)
        have hx := HS301.out _ b5 b6 (btrans hB (Nat.le_refl _) hb) (carry ha6 hb) hg6
        simp only [Act.put, List.setIfInBounds_toArray, List.set_cons_zero, List.set_cons_succ] at hx
        exact wpAnyH_listed (by kernel_rfl) hx
      · go_simp
        refine hK.out _ _ (HQ.out _ (hB.alloc hB.size (.cells #[.int .u64 0, .int .u64 0] 149))) (fun _ => ?_)
        have hx := HS211.out _ v.heap.size b6 (hB.alloc hB.size (.cells #[.int .u64 0, .int .u64 0] 149)) (heap_alloc_new v (.cells #[.int .u64 0, .int .u64 0] 149)) (hB.size) (carryA ha6 _) hg6 (Nat.ne_of_lt (Array.getElem?_eq_some_iff.1 ha6).1)
        simp only [Act.put, List.setIfInBounds_toArray, List.set_cons_zero, List.set_cons_succ] at hx
        exact wpAnyH_listed (by kernel_rfl) hx)
    have HS210 := hid (show ∀ (v : World) (b5 b6 : Nat) (hB : Below W1.heap.size W1 v) (ha5 : v.heap[b5]? = some (.cells #[.int .u64 0, .int .u64 0] 149 (0, 0))) (hg5 : W1.heap.size ≤ b5), wpAnyH Tryz.prog .any ops Q (fun W => W.cell? ⟨pa, 0, none⟩ = some (.int .i64 ax) ∧ W.cell? ⟨pa, 1, none⟩ = some (.int .i64 ay) ∧ W.cell? ⟨pb, 0, none⟩ = some (.int .i64 bx) ∧ W.cell? ⟨pb, 1, none⟩ = some (.int .i64 by1)) 7 #[true, true, true, true, true, true, false, true, true, false, true, true, false, false, true, false, false, false] (((a0.put (some 23) (.int .u64 na)).put (some 26) (.int .u64 nb)).put (some 5) (.pointer (some ⟨b5, 0, none⟩))) v from by
      intro v b5 b6 hB ha5 hg5
      subst hops hQQ ha0
      have hH := HQ.out v hB
      (try simp only [Act.put, List.setIfInBounds_toArray, List.set_cons_zero, List.set_cons_succ])
      refine wpAnyH_ready (rs := [6, 15]) (by kernel_rfl) (by simp) ?_
      refine AllReadyH.cons rfl (fun K hK => ?_) (AllReadyH.cons rfl (fun K hK => ?_) (AllReadyH.nil))
      · go_simp
        refine (H6.out _).mono ?_
        rintro e u ⟨rfl, hb⟩
        refine hK.out _ _ (HQ.out _ (btrans hB (Nat.le_refl _) hb)) (fun _ => ?_)
        have hx := HS310.out _ b5 b6 (btrans hB (Nat.le_refl _) hb) (carry ha5 hb) hg5
        simp only [Act.put, List.setIfInBounds_toArray, List.set_cons_zero, List.set_cons_succ] at hx
        exact wpAnyH_listed (by kernel_rfl) hx
      · go_simp
        refine hK.out _ _ (HQ.out _ (hB.alloc hB.size (.cells #[.int .u64 0, .int .u64 0] 149))) (fun _ => ?_)
        have hx := HS211.out _ b5 v.heap.size (hB.alloc hB.size (.cells #[.int .u64 0, .int .u64 0] 149)) (carryA ha5 _) hg5 (heap_alloc_new v (.cells #[.int .u64 0, .int .u64 0] 149)) (hB.size) (Nat.ne_of_gt (Array.getElem?_eq_some_iff.1 ha5).1)
        simp only [Act.put, List.setIfInBounds_toArray, List.set_cons_zero, List.set_cons_succ] at hx
        exact wpAnyH_listed (by kernel_rfl) hx)
    have HS300 := hid (show ∀ (v : World) (b5 b6 : Nat) (hB : Below W1.heap.size W1 v), wpAnyH Tryz.prog .any ops Q (fun W => W.cell? ⟨pa, 0, none⟩ = some (.int .i64 ax) ∧ W.cell? ⟨pa, 1, none⟩ = some (.int .i64 ay) ∧ W.cell? ⟨pb, 0, none⟩ = some (.int .i64 bx) ∧ W.cell? ⟨pb, 1, none⟩ = some (.int .i64 by1)) 7 #[true, true, true, true, true, true, true, true, true, false, true, true, false, false, false, false, false, false] (((a0.put (some 23) (.int .u64 na)).put (some 26) (.int .u64 nb)).put (some 27) (.agg #[.int .u64 x1, .int .u64 x0])) v from by
      intro v b5 b6 hB
      subst hops hQQ ha0
      have hH := HQ.out v hB
      (try simp only [Act.put, List.setIfInBounds_toArray, List.set_cons_zero, List.set_cons_succ])
      refine wpAnyH_ready (rs := [9, 14, 15]) (by kernel_rfl) (by simp) ?_
      refine AllReadyH.cons rfl (fun K hK => ?_) (AllReadyH.cons rfl (fun K hK => ?_) (AllReadyH.cons rfl (fun K hK => ?_) (AllReadyH.nil)))
      · go_simp
        refine (H9.out _).mono ?_
        rintro e u ⟨rfl, hb⟩
        refine hK.out _ _ (HQ.out _ (btrans hB (Nat.le_refl _) hb)) (fun _ => ?_)
        have hx := HS400.out _ b5 b6 (btrans hB (Nat.le_refl _) hb)
        simp only [Act.put, List.setIfInBounds_toArray, List.set_cons_zero, List.set_cons_succ] at hx
        exact wpAnyH_listed (by kernel_rfl) hx
      · go_simp
        refine hK.out _ _ (HQ.out _ (hB.alloc hB.size (.cells #[.int .u64 0, .int .u64 0] 149))) (fun _ => ?_)
        have hx := HS310.out _ v.heap.size b6 (hB.alloc hB.size (.cells #[.int .u64 0, .int .u64 0] 149)) (heap_alloc_new v (.cells #[.int .u64 0, .int .u64 0] 149)) (hB.size)
        simp only [Act.put, List.setIfInBounds_toArray, List.set_cons_zero, List.set_cons_succ] at hx
        exact wpAnyH_listed (by kernel_rfl) hx
      · go_simp
        refine hK.out _ _ (HQ.out _ (hB.alloc hB.size (.cells #[.int .u64 0, .int .u64 0] 149))) (fun _ => ?_)
        have hx := HS301.out _ b5 v.heap.size (hB.alloc hB.size (.cells #[.int .u64 0, .int .u64 0] 149)) (heap_alloc_new v (.cells #[.int .u64 0, .int .u64 0] 149)) (hB.size)
        simp only [Act.put, List.setIfInBounds_toArray, List.set_cons_zero, List.set_cons_succ] at hx
        exact wpAnyH_listed (by kernel_rfl) hx)
    have HS011 := hid (show ∀ (v : World) (b5 b6 : Nat) (hB : Below W1.heap.size W1 v) (ha5 : v.heap[b5]? = some (.cells #[.int .u64 0, .int .u64 0] 149 (0, 0))) (hg5 : W1.heap.size ≤ b5) (ha6 : v.heap[b6]? = some (.cells #[.int .u64 0, .int .u64 0] 149 (0, 0))) (hg6 : W1.heap.size ≤ b6) (hne : b6 ≠ b5), wpAnyH Tryz.prog .any ops Q (fun W => W.cell? ⟨pa, 0, none⟩ = some (.int .i64 ax) ∧ W.cell? ⟨pa, 1, none⟩ = some (.int .i64 ay) ∧ W.cell? ⟨pb, 0, none⟩ = some (.int .i64 bx) ∧ W.cell? ⟨pb, 1, none⟩ = some (.int .i64 by1)) 8 #[true, true, false, true, true, false, false, true, true, false, true, true, false, false, true, true, false, false] ((a0.put (some 5) (.pointer (some ⟨b5, 0, none⟩))).put (some 6) (.pointer (some ⟨b6, 0, none⟩))) v from by
      intro v b5 b6 hB ha5 hg5 ha6 hg6 hne
      subst hops hQQ ha0
      have hH := HQ.out v hB
      (try simp only [Act.put, List.setIfInBounds_toArray, List.set_cons_zero, List.set_cons_succ])
      refine wpAnyH_ready (rs := [2]) (by kernel_rfl) (by simp) ?_
      refine AllReadyH.cons rfl (fun K hK => ?_) (AllReadyH.nil)
      go_simp
      refine (H2.out _).mono ?_
      rintro e u ⟨rfl, hb⟩
      refine hK.out _ _ (HQ.out _ (btrans hB (Nat.le_refl _) hb)) (fun _ => ?_)
      have hx := HS111.out _ b5 b6 (btrans hB (Nat.le_refl _) hb) (carry ha5 hb) hg5 (carry ha6 hb) hg6 hne
      simp only [Act.put, List.setIfInBounds_toArray, List.set_cons_zero, List.set_cons_succ] at hx
      exact wpAnyH_listed (by kernel_rfl) hx)
    have HS101 := hid (show ∀ (v : World) (b5 b6 : Nat) (hB : Below W1.heap.size W1 v) (ha6 : v.heap[b6]? = some (.cells #[.int .u64 0, .int .u64 0] 149 (0, 0))) (hg6 : W1.heap.size ≤ b6), wpAnyH Tryz.prog .any ops Q (fun W => W.cell? ⟨pa, 0, none⟩ = some (.int .i64 ax) ∧ W.cell? ⟨pa, 1, none⟩ = some (.int .i64 ay) ∧ W.cell? ⟨pb, 0, none⟩ = some (.int .i64 bx) ∧ W.cell? ⟨pb, 1, none⟩ = some (.int .i64 by1)) 8 #[true, true, true, true, true, false, false, true, true, false, true, true, false, false, false, true, false, false] ((a0.put (some 23) (.int .u64 na)).put (some 6) (.pointer (some ⟨b6, 0, none⟩))) v from by
      intro v b5 b6 hB ha6 hg6
      subst hops hQQ ha0
      have hH := HQ.out v hB
      (try simp only [Act.put, List.setIfInBounds_toArray, List.set_cons_zero, List.set_cons_succ])
      refine wpAnyH_ready (rs := [5, 14]) (by kernel_rfl) (by simp) ?_
      refine AllReadyH.cons rfl (fun K hK => ?_) (AllReadyH.cons rfl (fun K hK => ?_) (AllReadyH.nil))
      · go_simp
        refine (H5.out _).mono ?_
        rintro e u ⟨rfl, hb⟩
        refine hK.out _ _ (HQ.out _ (btrans hB (Nat.le_refl _) hb)) (fun _ => ?_)
        have hx := HS201.out _ b5 b6 (btrans hB (Nat.le_refl _) hb) (carry ha6 hb) hg6
        simp only [Act.put, List.setIfInBounds_toArray, List.set_cons_zero, List.set_cons_succ] at hx
        exact wpAnyH_listed (by kernel_rfl) hx
      · go_simp
        refine hK.out _ _ (HQ.out _ (hB.alloc hB.size (.cells #[.int .u64 0, .int .u64 0] 149))) (fun _ => ?_)
        have hx := HS111.out _ v.heap.size b6 (hB.alloc hB.size (.cells #[.int .u64 0, .int .u64 0] 149)) (heap_alloc_new v (.cells #[.int .u64 0, .int .u64 0] 149)) (hB.size) (carryA ha6 _) hg6 (Nat.ne_of_lt (Array.getElem?_eq_some_iff.1 ha6).1)
        simp only [Act.put, List.setIfInBounds_toArray, List.set_cons_zero, List.set_cons_succ] at hx
        exact wpAnyH_listed (by kernel_rfl) hx)
    have HS110 := hid (show ∀ (v : World) (b5 b6 : Nat) (hB : Below W1.heap.size W1 v) (ha5 : v.heap[b5]? = some (.cells #[.int .u64 0, .int .u64 0] 149 (0, 0))) (hg5 : W1.heap.size ≤ b5), wpAnyH Tryz.prog .any ops Q (fun W => W.cell? ⟨pa, 0, none⟩ = some (.int .i64 ax) ∧ W.cell? ⟨pa, 1, none⟩ = some (.int .i64 ay) ∧ W.cell? ⟨pb, 0, none⟩ = some (.int .i64 bx) ∧ W.cell? ⟨pb, 1, none⟩ = some (.int .i64 by1)) 8 #[true, true, true, true, true, false, false, true, true, false, true, true, false, false, true, false, false, false] ((a0.put (some 23) (.int .u64 na)).put (some 5) (.pointer (some ⟨b5, 0, none⟩))) v from by
      intro v b5 b6 hB ha5 hg5
      subst hops hQQ ha0
      have hH := HQ.out v hB
      (try simp only [Act.put, List.setIfInBounds_toArray, List.set_cons_zero, List.set_cons_succ])
      refine wpAnyH_ready (rs := [5, 15]) (by kernel_rfl) (by simp) ?_
      refine AllReadyH.cons rfl (fun K hK => ?_) (AllReadyH.cons rfl (fun K hK => ?_) (AllReadyH.nil))
      · go_simp
        refine (H5.out _).mono ?_
        rintro e u ⟨rfl, hb⟩
        refine hK.out _ _ (HQ.out _ (btrans hB (Nat.le_refl _) hb)) (fun _ => ?_)
        have hx := HS210.out _ b5 b6 (btrans hB (Nat.le_refl _) hb) (carry ha5 hb) hg5
        simp only [Act.put, List.setIfInBounds_toArray, List.set_cons_zero, List.set_cons_succ] at hx
        exact wpAnyH_listed (by kernel_rfl) hx
      · go_simp
        refine hK.out _ _ (HQ.out _ (hB.alloc hB.size (.cells #[.int .u64 0, .int .u64 0] 149))) (fun _ => ?_)
        have hx := HS111.out _ b5 v.heap.size (hB.alloc hB.size (.cells #[.int .u64 0, .int .u64 0] 149)) (carryA ha5 _) hg5 (heap_alloc_new v (.cells #[.int .u64 0, .int .u64 0] 149)) (hB.size) (Nat.ne_of_gt (Array.getElem?_eq_some_iff.1 ha5).1)
        simp only [Act.put, List.setIfInBounds_toArray, List.set_cons_zero, List.set_cons_succ] at hx
        exact wpAnyH_listed (by kernel_rfl) hx)
    have HS200 := hid (show ∀ (v : World) (b5 b6 : Nat) (hB : Below W1.heap.size W1 v), wpAnyH Tryz.prog .any ops Q (fun W => W.cell? ⟨pa, 0, none⟩ = some (.int .i64 ax) ∧ W.cell? ⟨pa, 1, none⟩ = some (.int .i64 ay) ∧ W.cell? ⟨pb, 0, none⟩ = some (.int .i64 bx) ∧ W.cell? ⟨pb, 1, none⟩ = some (.int .i64 by1)) 8 #[true, true, true, true, true, true, false, true, true, false, true, true, false, false, false, false, false, false] ((a0.put (some 23) (.int .u64 na)).put (some 26) (.int .u64 nb)) v from by
      intro v b5 b6 hB
      subst hops hQQ ha0
      have hH := HQ.out v hB
      (try simp only [Act.put, List.setIfInBounds_toArray, List.set_cons_zero, List.set_cons_succ])
      refine wpAnyH_ready (rs := [6, 14, 15]) (by kernel_rfl) (by simp) ?_
      refine AllReadyH.cons rfl (fun K hK => ?_) (AllReadyH.cons rfl (fun K hK => ?_) (AllReadyH.cons rfl (fun K hK => ?_) (AllReadyH.nil)))
      · go_simp
        refine (H6.out _).mono ?_
        rintro e u ⟨rfl, hb⟩
        refine hK.out _ _ (HQ.out _ (btrans hB (Nat.le_refl _) hb)) (fun _ => ?_)
        have hx := HS300.out _ b5 b6 (btrans hB (Nat.le_refl _) hb)
        simp only [Act.put, List.setIfInBounds_toArray, List.set_cons_zero, List.set_cons_succ] at hx
        exact wpAnyH_listed (by kernel_rfl) hx
      · go_simp
        refine hK.out _ _ (HQ.out _ (hB.alloc hB.size (.cells #[.int .u64 0, .int .u64 0] 149))) (fun _ => ?_)
        have hx := HS210.out _ v.heap.size b6 (hB.alloc hB.size (.cells #[.int .u64 0, .int .u64 0] 149)) (heap_alloc_new v (.cells #[.int .u64 0, .int .u64 0] 149)) (hB.size)
        simp only [Act.put, List.setIfInBounds_toArray, List.set_cons_zero, List.set_cons_succ] at hx
        exact wpAnyH_listed (by kernel_rfl) hx
      · go_simp
        refine hK.out _ _ (HQ.out _ (hB.alloc hB.size (.cells #[.int .u64 0, .int .u64 0] 149))) (fun _ => ?_)
        have hx := HS201.out _ b5 v.heap.size (hB.alloc hB.size (.cells #[.int .u64 0, .int .u64 0] 149)) (heap_alloc_new v (.cells #[.int .u64 0, .int .u64 0] 149)) (hB.size)
        simp only [Act.put, List.setIfInBounds_toArray, List.set_cons_zero, List.set_cons_succ] at hx
        exact wpAnyH_listed (by kernel_rfl) hx)
    have HS001 := hid (show ∀ (v : World) (b5 b6 : Nat) (hB : Below W1.heap.size W1 v) (ha6 : v.heap[b6]? = some (.cells #[.int .u64 0, .int .u64 0] 149 (0, 0))) (hg6 : W1.heap.size ≤ b6), wpAnyH Tryz.prog .any ops Q (fun W => W.cell? ⟨pa, 0, none⟩ = some (.int .i64 ax) ∧ W.cell? ⟨pa, 1, none⟩ = some (.int .i64 ay) ∧ W.cell? ⟨pb, 0, none⟩ = some (.int .i64 bx) ∧ W.cell? ⟨pb, 1, none⟩ = some (.int .i64 by1)) 9 #[true, true, false, true, true, false, false, true, true, false, true, true, false, false, false, true, false, false] (a0.put (some 6) (.pointer (some ⟨b6, 0, none⟩))) v from by
      intro v b5 b6 hB ha6 hg6
      subst hops hQQ ha0
      have hH := HQ.out v hB
      (try simp only [Act.put, List.setIfInBounds_toArray, List.set_cons_zero, List.set_cons_succ])
      refine wpAnyH_ready (rs := [2, 14]) (by kernel_rfl) (by simp) ?_
      refine AllReadyH.cons rfl (fun K hK => ?_) (AllReadyH.cons rfl (fun K hK => ?_) (AllReadyH.nil))
      · go_simp
        refine (H2.out _).mono ?_
        rintro e u ⟨rfl, hb⟩
        refine hK.out _ _ (HQ.out _ (btrans hB (Nat.le_refl _) hb)) (fun _ => ?_)
        have hx := HS101.out _ b5 b6 (btrans hB (Nat.le_refl _) hb) (carry ha6 hb) hg6
        simp only [Act.put, List.setIfInBounds_toArray, List.set_cons_zero, List.set_cons_succ] at hx
        exact wpAnyH_listed (by kernel_rfl) hx
      · go_simp
        refine hK.out _ _ (HQ.out _ (hB.alloc hB.size (.cells #[.int .u64 0, .int .u64 0] 149))) (fun _ => ?_)
        have hx := HS011.out _ v.heap.size b6 (hB.alloc hB.size (.cells #[.int .u64 0, .int .u64 0] 149)) (heap_alloc_new v (.cells #[.int .u64 0, .int .u64 0] 149)) (hB.size) (carryA ha6 _) hg6 (Nat.ne_of_lt (Array.getElem?_eq_some_iff.1 ha6).1)
        simp only [Act.put, List.setIfInBounds_toArray, List.set_cons_zero, List.set_cons_succ] at hx
        exact wpAnyH_listed (by kernel_rfl) hx)
    have HS010 := hid (show ∀ (v : World) (b5 b6 : Nat) (hB : Below W1.heap.size W1 v) (ha5 : v.heap[b5]? = some (.cells #[.int .u64 0, .int .u64 0] 149 (0, 0))) (hg5 : W1.heap.size ≤ b5), wpAnyH Tryz.prog .any ops Q (fun W => W.cell? ⟨pa, 0, none⟩ = some (.int .i64 ax) ∧ W.cell? ⟨pa, 1, none⟩ = some (.int .i64 ay) ∧ W.cell? ⟨pb, 0, none⟩ = some (.int .i64 bx) ∧ W.cell? ⟨pb, 1, none⟩ = some (.int .i64 by1)) 9 #[true, true, false, true, true, false, false, true, true, false, true, true, false, false, true, false, false, false] (a0.put (some 5) (.pointer (some ⟨b5, 0, none⟩))) v from by
      intro v b5 b6 hB ha5 hg5
      subst hops hQQ ha0
      have hH := HQ.out v hB
      (try simp only [Act.put, List.setIfInBounds_toArray, List.set_cons_zero, List.set_cons_succ])
      refine wpAnyH_ready (rs := [2, 15]) (by kernel_rfl) (by simp) ?_
      refine AllReadyH.cons rfl (fun K hK => ?_) (AllReadyH.cons rfl (fun K hK => ?_) (AllReadyH.nil))
      · go_simp
        refine (H2.out _).mono ?_
        rintro e u ⟨rfl, hb⟩
        refine hK.out _ _ (HQ.out _ (btrans hB (Nat.le_refl _) hb)) (fun _ => ?_)
        have hx := HS110.out _ b5 b6 (btrans hB (Nat.le_refl _) hb) (carry ha5 hb) hg5
        simp only [Act.put, List.setIfInBounds_toArray, List.set_cons_zero, List.set_cons_succ] at hx
        exact wpAnyH_listed (by kernel_rfl) hx
      · go_simp
        refine hK.out _ _ (HQ.out _ (hB.alloc hB.size (.cells #[.int .u64 0, .int .u64 0] 149))) (fun _ => ?_)
        have hx := HS011.out _ b5 v.heap.size (hB.alloc hB.size (.cells #[.int .u64 0, .int .u64 0] 149)) (carryA ha5 _) hg5 (heap_alloc_new v (.cells #[.int .u64 0, .int .u64 0] 149)) (hB.size) (Nat.ne_of_gt (Array.getElem?_eq_some_iff.1 ha5).1)
        simp only [Act.put, List.setIfInBounds_toArray, List.set_cons_zero, List.set_cons_succ] at hx
        exact wpAnyH_listed (by kernel_rfl) hx)
    have HS100 := hid (show ∀ (v : World) (b5 b6 : Nat) (hB : Below W1.heap.size W1 v), wpAnyH Tryz.prog .any ops Q (fun W => W.cell? ⟨pa, 0, none⟩ = some (.int .i64 ax) ∧ W.cell? ⟨pa, 1, none⟩ = some (.int .i64 ay) ∧ W.cell? ⟨pb, 0, none⟩ = some (.int .i64 bx) ∧ W.cell? ⟨pb, 1, none⟩ = some (.int .i64 by1)) 9 #[true, true, true, true, true, false, false, true, true, false, true, true, false, false, false, false, false, false] (a0.put (some 23) (.int .u64 na)) v from by
      intro v b5 b6 hB
      subst hops hQQ ha0
      have hH := HQ.out v hB
      (try simp only [Act.put, List.setIfInBounds_toArray, List.set_cons_zero, List.set_cons_succ])
      refine wpAnyH_ready (rs := [5, 14, 15]) (by kernel_rfl) (by simp) ?_
      refine AllReadyH.cons rfl (fun K hK => ?_) (AllReadyH.cons rfl (fun K hK => ?_) (AllReadyH.cons rfl (fun K hK => ?_) (AllReadyH.nil)))
      · go_simp
        refine (H5.out _).mono ?_
        rintro e u ⟨rfl, hb⟩
        refine hK.out _ _ (HQ.out _ (btrans hB (Nat.le_refl _) hb)) (fun _ => ?_)
        have hx := HS200.out _ b5 b6 (btrans hB (Nat.le_refl _) hb)
        simp only [Act.put, List.setIfInBounds_toArray, List.set_cons_zero, List.set_cons_succ] at hx
        exact wpAnyH_listed (by kernel_rfl) hx
      · go_simp
        refine hK.out _ _ (HQ.out _ (hB.alloc hB.size (.cells #[.int .u64 0, .int .u64 0] 149))) (fun _ => ?_)
        have hx := HS110.out _ v.heap.size b6 (hB.alloc hB.size (.cells #[.int .u64 0, .int .u64 0] 149)) (heap_alloc_new v (.cells #[.int .u64 0, .int .u64 0] 149)) (hB.size)
        simp only [Act.put, List.setIfInBounds_toArray, List.set_cons_zero, List.set_cons_succ] at hx
        exact wpAnyH_listed (by kernel_rfl) hx
      · go_simp
        refine hK.out _ _ (HQ.out _ (hB.alloc hB.size (.cells #[.int .u64 0, .int .u64 0] 149))) (fun _ => ?_)
        have hx := HS101.out _ b5 v.heap.size (hB.alloc hB.size (.cells #[.int .u64 0, .int .u64 0] 149)) (heap_alloc_new v (.cells #[.int .u64 0, .int .u64 0] 149)) (hB.size)
        simp only [Act.put, List.setIfInBounds_toArray, List.set_cons_zero, List.set_cons_succ] at hx
        exact wpAnyH_listed (by kernel_rfl) hx)
    have HS000 := hid (show ∀ (v : World) (b5 b6 : Nat) (hB : Below W1.heap.size W1 v), wpAnyH Tryz.prog .any ops Q (fun W => W.cell? ⟨pa, 0, none⟩ = some (.int .i64 ax) ∧ W.cell? ⟨pa, 1, none⟩ = some (.int .i64 ay) ∧ W.cell? ⟨pb, 0, none⟩ = some (.int .i64 bx) ∧ W.cell? ⟨pb, 1, none⟩ = some (.int .i64 by1)) 10 #[true, true, false, true, true, false, false, true, true, false, true, true, false, false, false, false, false, false] a0 v from by
      intro v b5 b6 hB
      subst hops hQQ ha0
      have hH := HQ.out v hB
      (try simp only [Act.put, List.setIfInBounds_toArray, List.set_cons_zero, List.set_cons_succ])
      refine wpAnyH_ready (rs := [2, 14, 15]) (by kernel_rfl) (by simp) ?_
      refine AllReadyH.cons rfl (fun K hK => ?_) (AllReadyH.cons rfl (fun K hK => ?_) (AllReadyH.cons rfl (fun K hK => ?_) (AllReadyH.nil)))
      · go_simp
        refine (H2.out _).mono ?_
        rintro e u ⟨rfl, hb⟩
        refine hK.out _ _ (HQ.out _ (btrans hB (Nat.le_refl _) hb)) (fun _ => ?_)
        have hx := HS100.out _ b5 b6 (btrans hB (Nat.le_refl _) hb)
        simp only [Act.put, List.setIfInBounds_toArray, List.set_cons_zero, List.set_cons_succ] at hx
        exact wpAnyH_listed (by kernel_rfl) hx
      · go_simp
        refine hK.out _ _ (HQ.out _ (hB.alloc hB.size (.cells #[.int .u64 0, .int .u64 0] 149))) (fun _ => ?_)
        have hx := HS010.out _ v.heap.size b6 (hB.alloc hB.size (.cells #[.int .u64 0, .int .u64 0] 149)) (heap_alloc_new v (.cells #[.int .u64 0, .int .u64 0] 149)) (hB.size)
        simp only [Act.put, List.setIfInBounds_toArray, List.set_cons_zero, List.set_cons_succ] at hx
        exact wpAnyH_listed (by kernel_rfl) hx
      · go_simp
        refine hK.out _ _ (HQ.out _ (hB.alloc hB.size (.cells #[.int .u64 0, .int .u64 0] 149))) (fun _ => ?_)
        have hx := HS001.out _ b5 v.heap.size (hB.alloc hB.size (.cells #[.int .u64 0, .int .u64 0] 149)) (heap_alloc_new v (.cells #[.int .u64 0, .int .u64 0] 149)) (hB.size)
        simp only [Act.put, List.setIfInBounds_toArray, List.set_cons_zero, List.set_cons_succ] at hx
        exact wpAnyH_listed (by kernel_rfl) hx)
    subst hops hQQ ha0
    exact wpAnyH_listed (by kernel_rfl) (HS000.out _ 0 0 hB0)
end Go.Proofs.YtolnhicngepnnaaGreat
