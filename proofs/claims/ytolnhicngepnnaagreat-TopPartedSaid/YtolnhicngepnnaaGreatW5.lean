/- fixed.each; Plus, Minus. -/
import Derived.Test.YtolnhicngepnnaaGreatW4
namespace Go.Proofs.YtolnhicngepnnaaGreat
open Go.RowKit

/-- The same done with both coordinates. -/
def eachR (F : Int → Int → Except Int Int) (ax ay bx by' : Int) : Except Int (Int × Int) :=
  if (okF ax && okF ay) && (okF bx && okF by') then (match F ax bx with | .error c => .error c | .ok x => match F ay by' with | .error c => .error c | .ok y => .ok (x, y)) else .error 2
set_option maxRecDepth 100000 in
set_option maxHeartbeats 4000000 in
theorem each194_any (F : Int → Int → Except Int Int) (g : FuncId) (cap : Array Value) (ax ay bx by' : Int) (pa pb pf : Nat) (w : World) (hcf : ∀ args w, (callFunc g args).run Tryz.prog w = .ok (.enter g args) w)
    (hg : ∀ x y, okF x = true → okF y = true → (x = ax ∨ x = ay) → ∀ W, Below w.heap.size w W → Calls Tryz.prog g (#[.int .i64 x, .int .i64 y] ++ cap) W fun e W' => EndsX (F x y) e ∧ Below W.heap.size W W') (hc : w.cell? ⟨pa, 0, none⟩ = some (.int .i64 ax) ∧ w.cell? ⟨pa, 1, none⟩ = some (.int .i64 ay) ∧ w.cell? ⟨pb, 0, none⟩ = some (.int .i64 bx) ∧ w.cell? ⟨pb, 1, none⟩ = some (.int .i64 by') ∧ w.cell? ⟨pf, 0, none⟩ = some (.func (.func g) #[] cap)) :
    Calls Tryz.prog 194 #[.pointer (some ⟨pa, 0, none⟩), .pointer (some ⟨pb, 0, none⟩), .pointer (some ⟨pf, 0, none⟩)] w fun e w' => EndsS (eachR F ax ay bx by') e ∧ Below w.heap.size w w' := by
  have HR := hid (fun W v hs => right_any v [ax, ay, bx, by'] W hs)
  have HG := hid hg
  have HX := hid (show eachR F ax ay bx by' = if (okF ax && okF ay) && (okF bx && okF by') then (match F ax bx with | .error c => .error c | .ok x => match F ay by' with | .error c => .error c | .ok y => .ok (x, y)) else .error 2 from rfl)
  obtain ⟨W1, hW1⟩ : ∃ W1, w.alloc (.cells #[.int .i64 0, .int .i64 0] 28) = W1 := ⟨_, rfl⟩
  have hz : W1.heap.size = w.heap.size + 1 := by rw [← hW1]; simp
  have hb1 : Below w.heap.size w W1 := by rw [← hW1]; exact (Below.refl _ _).alloc (Nat.le_refl _) _
  have HN := hid (show W1.heap[w.heap.size]? = some (.cells #[.int .i64 0, .int .i64 0] 28 (0, 0)) by rw [← hW1]; exact heap_alloc_new w _)
  have HB := hid hb1
  have HSL := hid (new_SlI W1 [ax, ay, bx, by'] #[.int .i64 ax, .int .i64 ay, .int .i64 bx, .int .i64 by'] 22 rfl (by simp))
  obtain ⟨c0, c1, c2, c3, c4⟩ := hc
  have l0 := World.block_lt_of_cell? w ⟨pa, 0, none⟩ c0
  have l1 := World.block_lt_of_cell? w ⟨pb, 0, none⟩ c2
  have l2 := World.block_lt_of_cell? w ⟨pf, 0, none⟩ c4
  have HCC := hid (show ∀ U, Below w.heap.size w U → U.cell? ⟨pa, 0, none⟩ = some (.int .i64 ax) ∧ U.cell? ⟨pa, 1, none⟩ = some (.int .i64 ay) ∧ U.cell? ⟨pb, 0, none⟩ = some (.int .i64 bx) ∧ U.cell? ⟨pb, 1, none⟩ = some (.int .i64 by') ∧ U.cell? ⟨pf, 0, none⟩ = some (.func (.func g) #[] cap) from fun U hb => ⟨bcs hb c0, bcs hb c1, bcs hb c2, bcs hb c3, bcs hb c4⟩)
  clear c0 c1 c2 c3 c4 hg
  obtain ⟨c0, c1, c2, c3, c4⟩ := HCC.out W1 hb1
  have HW := hid hW1
  have HAL := hid (show [ax, ay, bx, by'].all okF = ((okF ax && okF ay) && (okF bx && okF by')) by simp [Bool.and_assoc])
  obtain ⟨r, hr⟩ : ∃ r, eachR F ax ay bx by' = r := ⟨_, rfl⟩
  rw [hr] at HX ⊢
  clear hr hW1 hb1
  simp only at l0 l1 l2
  go_enter Tryz.func194, Tryz.ntmps194
  go_upto_region 1 with fail
  rw [HW.out]
  clear HW
  go_wp2_with fail
  refine (HR.out _ _ (by have := HSL.out; rwa [hz] at this)).mono ?_
  rintro e W3 ⟨he, hb3⟩
  have hb3' : Below W1.heap.size W1 W3 := btrans ((Below.refl _ W1).alloc (Nat.le_refl _) _) (by simp) hb3
  have HB1 := hid (btrans HB.out (by omega) hb3')
  have HN3 := hid ((hb3'.block w.heap.size (by omega)).trans HN.out)
  rw [HAL.out] at he
  clear hb3 hb3' c0 c1 c2 c3 c4 HR HSL
  cases hok : (okF ax && okF ay) && (okF bx && okF by') with
  | false =>
    rw [hok] at he HX
    obtain rfl : e = .panicked (misfit 2) := he
    refine ⟨rfl, ?_, HB1.out⟩
    rw [HX.out]; rfl
  | true =>
  rw [hok] at he HX
  obtain rfl : e = .returned (.tuple #[]) := he
  rw [if_pos rfl] at HX
  have h4 : (okF ax = true ∧ okF ay = true) ∧ okF bx = true ∧ okF by' = true := by simpa using hok
  have HG1 := hid (fun W (hb : Below W3.heap.size W3 W) => HG.out ax bx h4.1.1 h4.2.1 (.inl rfl) W (HB1.out.trans (hb.mono HB1.out.size)))
  have HG2 := hid (fun W (hb : Below W3.heap.size W3 W) => HG.out ay by' h4.1.2 h4.2.2 (.inr rfl) W (HB1.out.trans (hb.mono HB1.out.size)))
  have HQ := hid (show ∀ W, Below W3.heap.size W3 W → (W.cell? ⟨pa, 0, none⟩ = some (.int .i64 ax) ∧ W.cell? ⟨pa, 1, none⟩ = some (.int .i64 ay) ∧ W.cell? ⟨pb, 0, none⟩ = some (.int .i64 bx) ∧ W.cell? ⟨pb, 1, none⟩ = some (.int .i64 by') ∧ W.cell? ⟨pf, 0, none⟩ = some (.func (.func g) #[] cap)) ∧ ∃ u v, W.heap[w.heap.size]? = some (.cells #[u, v] 28 (0, 0)) from fun W hb => ⟨HCC.out W (HB1.out.trans (hb.mono HB1.out.size)), _, _, (hb.block w.heap.size (Array.getElem?_eq_some_iff.1 HN3.out).1).trans HN3.out⟩)
  have HQS := hid (show ∀ (U : World) (u v : Value), ((U.cell? ⟨pa, 0, none⟩ = some (.int .i64 ax) ∧ U.cell? ⟨pa, 1, none⟩ = some (.int .i64 ay) ∧ U.cell? ⟨pb, 0, none⟩ = some (.int .i64 bx) ∧ U.cell? ⟨pb, 1, none⟩ = some (.int .i64 by') ∧ U.cell? ⟨pf, 0, none⟩ = some (.func (.func g) #[] cap)) ∧ ∃ u v, U.heap[w.heap.size]? = some (.cells #[u, v] 28 (0, 0))) → ((((U.setCell ⟨w.heap.size, 0, none⟩ u).setCell ⟨w.heap.size, 1, none⟩ v).cell? ⟨pa, 0, none⟩ = some (.int .i64 ax) ∧ ((U.setCell ⟨w.heap.size, 0, none⟩ u).setCell ⟨w.heap.size, 1, none⟩ v).cell? ⟨pa, 1, none⟩ = some (.int .i64 ay) ∧ ((U.setCell ⟨w.heap.size, 0, none⟩ u).setCell ⟨w.heap.size, 1, none⟩ v).cell? ⟨pb, 0, none⟩ = some (.int .i64 bx) ∧ ((U.setCell ⟨w.heap.size, 0, none⟩ u).setCell ⟨w.heap.size, 1, none⟩ v).cell? ⟨pb, 1, none⟩ = some (.int .i64 by') ∧ ((U.setCell ⟨w.heap.size, 0, none⟩ u).setCell ⟨w.heap.size, 1, none⟩ v).cell? ⟨pf, 0, none⟩ = some (.func (.func g) #[] cap)) ∧ ∃ u' v', ((U.setCell ⟨w.heap.size, 0, none⟩ u).setCell ⟨w.heap.size, 1, none⟩ v).heap[w.heap.size]? = some (.cells #[u', v'] 28 (0, 0))) from fun U u v ⟨⟨g0, g1, g2, g3, g4⟩, _, _, g5⟩ => ⟨⟨(put2_other u v (by omega)).trans g0, (put2_other u v (by omega)).trans g1, (put2_other u v (by omega)).trans g2, (put2_other u v (by omega)).trans g3, (put2_other u v (by omega)).trans g4⟩, _, _, put2_same u v g5⟩)
  clear hok h4 HG HCC HN3 HN HAL
  go_upto_region 2 with fail
  cases h1 : F ax bx with
  | error c =>
    rw [h1] at HG1 HX
    obtain rfl : r = .error c := HX.out
    clear h1
    refine wp_region_held_drew (S := (fun W => (W.cell? ⟨pa, 0, none⟩ = some (.int .i64 ax) ∧ W.cell? ⟨pa, 1, none⟩ = some (.int .i64 ay) ∧ W.cell? ⟨pb, 0, none⟩ = some (.int .i64 bx) ∧ W.cell? ⟨pb, 1, none⟩ = some (.int .i64 by') ∧ W.cell? ⟨pf, 0, none⟩ = some (.func (.func g) #[] cap)) ∧ ∃ u v, W.heap[w.heap.size]? = some (.cells #[u, v] 28 (0, 0)))) (by kernel_rfl) (HQ.out _ ((Below.refl _ _).drew)) (fun hH => ?_)
    refine wpAnyH_take (i := 0) (oi := { dst := some 14, op := Go.Op.load 221 (Go.Operand.tmp 2), type := 221, pos := "fixed.go:188", after := #[], guard := none }) (v := (.func (.func g) #[] cap)) rfl (by kernel_rfl) (by kernel_rfl) (by kernel_rfl) (fun _ _ _ h => h) (Or.inl ⟨by rfl, ?_⟩) hH ?_
    · intro w hSw
      (try dsimp only at hSw)
      go_simp
    (try simp only [Act.put, List.setIfInBounds_toArray, List.set_cons_zero, List.set_cons_succ])
    refine wpAnyH_take (i := 1) (oi := { dst := some 15, op := Go.Op.fieldAddr 28 (Go.Operand.tmp 0) 0, type := 0, pos := "fixed.go:188", after := #[], guard := none }) (v := (.pointer (some ⟨pa, 0, none⟩))) rfl (by kernel_rfl) (by kernel_rfl) (by kernel_rfl) (fun _ _ _ h => h) (Or.inl ⟨by rfl, ?_⟩) hH ?_
    · intro w hSw
      (try dsimp only at hSw)
      go_simp
    (try simp only [Act.put, List.setIfInBounds_toArray, List.set_cons_zero, List.set_cons_succ])
    refine wpAnyH_take (i := 2) (oi := { dst := some 16, op := Go.Op.load 22 (Go.Operand.tmp 15), type := 22, pos := "fixed.go:188", after := #[{ on := 1, ground := Go.Ground.data }], guard := none }) (v := (.int .i64 ax)) rfl (by kernel_rfl) (by kernel_rfl) (by kernel_rfl) (fun _ _ _ h => h) (Or.inl ⟨by rfl, ?_⟩) hH ?_
    · intro w hSw
      (try dsimp only at hSw)
      go_simp
    (try simp only [Act.put, List.setIfInBounds_toArray, List.set_cons_zero, List.set_cons_succ])
    refine wpAnyH_take (i := 3) (oi := { dst := some 17, op := Go.Op.fieldAddr 28 (Go.Operand.tmp 1) 0, type := 0, pos := "fixed.go:188", after := #[], guard := none }) (v := (.pointer (some ⟨pb, 0, none⟩))) rfl (by kernel_rfl) (by kernel_rfl) (by kernel_rfl) (fun _ _ _ h => h) (Or.inl ⟨by rfl, ?_⟩) hH ?_
    · intro w hSw
      (try dsimp only at hSw)
      go_simp
    (try simp only [Act.put, List.setIfInBounds_toArray, List.set_cons_zero, List.set_cons_succ])
    refine wpAnyH_take (i := 4) (oi := { dst := some 18, op := Go.Op.load 22 (Go.Operand.tmp 17), type := 22, pos := "fixed.go:188", after := #[{ on := 3, ground := Go.Ground.data }], guard := none }) (v := (.int .i64 bx)) rfl (by kernel_rfl) (by kernel_rfl) (by kernel_rfl) (fun _ _ _ h => h) (Or.inl ⟨by rfl, ?_⟩) hH ?_
    · intro w hSw
      (try dsimp only at hSw)
      go_simp
    (try simp only [Act.put, List.setIfInBounds_toArray, List.set_cons_zero, List.set_cons_succ])
    refine wpAnyH_take (i := 6) (oi := { dst := some 20, op := Go.Op.load 221 (Go.Operand.tmp 2), type := 221, pos := "fixed.go:188", after := #[], guard := none }) (v := (.func (.func g) #[] cap)) rfl (by kernel_rfl) (by kernel_rfl) (by kernel_rfl) (fun _ _ _ h => h) (Or.inl ⟨by rfl, ?_⟩) hH ?_
    · intro w hSw
      (try dsimp only at hSw)
      go_simp
    (try simp only [Act.put, List.setIfInBounds_toArray, List.set_cons_zero, List.set_cons_succ])
    refine wpAnyH_take (i := 7) (oi := { dst := some 21, op := Go.Op.fieldAddr 28 (Go.Operand.tmp 0) 1, type := 0, pos := "fixed.go:188", after := #[], guard := none }) (v := (.pointer (some ⟨pa, 1, none⟩))) rfl (by kernel_rfl) (by kernel_rfl) (by kernel_rfl) (fun _ _ _ h => h) (Or.inl ⟨by rfl, ?_⟩) hH ?_
    · intro w hSw
      (try dsimp only at hSw)
      go_simp
    (try simp only [Act.put, List.setIfInBounds_toArray, List.set_cons_zero, List.set_cons_succ])
    refine wpAnyH_take (i := 8) (oi := { dst := some 22, op := Go.Op.load 22 (Go.Operand.tmp 21), type := 22, pos := "fixed.go:188", after := #[{ on := 7, ground := Go.Ground.data }], guard := none }) (v := (.int .i64 ay)) rfl (by kernel_rfl) (by kernel_rfl) (by kernel_rfl) (fun _ _ _ h => h) (Or.inl ⟨by rfl, ?_⟩) hH ?_
    · intro w hSw
      (try dsimp only at hSw)
      go_simp
    (try simp only [Act.put, List.setIfInBounds_toArray, List.set_cons_zero, List.set_cons_succ])
    refine wpAnyH_take (i := 9) (oi := { dst := some 23, op := Go.Op.fieldAddr 28 (Go.Operand.tmp 1) 1, type := 0, pos := "fixed.go:188", after := #[], guard := none }) (v := (.pointer (some ⟨pb, 1, none⟩))) rfl (by kernel_rfl) (by kernel_rfl) (by kernel_rfl) (fun _ _ _ h => h) (Or.inl ⟨by rfl, ?_⟩) hH ?_
    · intro w hSw
      (try dsimp only at hSw)
      go_simp
    (try simp only [Act.put, List.setIfInBounds_toArray, List.set_cons_zero, List.set_cons_succ])
    refine wpAnyH_take (i := 10) (oi := { dst := some 24, op := Go.Op.load 22 (Go.Operand.tmp 23), type := 22, pos := "fixed.go:188", after := #[{ on := 9, ground := Go.Ground.data }], guard := none }) (v := (.int .i64 by')) rfl (by kernel_rfl) (by kernel_rfl) (by kernel_rfl) (fun _ _ _ h => h) (Or.inl ⟨by rfl, ?_⟩) hH ?_
    · intro w hSw
      (try dsimp only at hSw)
      go_simp
    (try simp only [Act.put, List.setIfInBounds_toArray, List.set_cons_zero, List.set_cons_succ])
    refine wpAnyH_ready (rs := [5]) (by kernel_rfl) (by simp) ?_
    refine AllReadyH.cons rfl (fun K hK => ?_) AllReadyH.nil
    (try dsimp only at hH)
    go_simp
    refine (HG1.out _ ((Below.refl _ _).drew)).mono ?_
    rintro e w4 ⟨rfl, hb1⟩
    exact ⟨rfl, rfl, HB1.out.trans ((btrans ((Below.refl _ _).drew) (Nat.le_refl _) hb1).mono HB1.out.size)⟩
  | ok x =>
    rw [h1] at HG1 HX
    clear h1
    cases h2 : F ay by' with
    | error c =>
      rw [h2] at HG2 HX
      obtain rfl : r = .error c := HX.out
      clear h2
      refine wp_region_held_drew (S := (fun W => (W.cell? ⟨pa, 0, none⟩ = some (.int .i64 ax) ∧ W.cell? ⟨pa, 1, none⟩ = some (.int .i64 ay) ∧ W.cell? ⟨pb, 0, none⟩ = some (.int .i64 bx) ∧ W.cell? ⟨pb, 1, none⟩ = some (.int .i64 by') ∧ W.cell? ⟨pf, 0, none⟩ = some (.func (.func g) #[] cap)) ∧ ∃ u v, W.heap[w.heap.size]? = some (.cells #[u, v] 28 (0, 0)))) (by kernel_rfl) (HQ.out _ ((Below.refl _ _).drew)) (fun hH => ?_)
      refine wpAnyH_take (i := 0) (oi := { dst := some 14, op := Go.Op.load 221 (Go.Operand.tmp 2), type := 221, pos := "fixed.go:188", after := #[], guard := none }) (v := (.func (.func g) #[] cap)) rfl (by kernel_rfl) (by kernel_rfl) (by kernel_rfl) (fun _ _ _ h => h) (Or.inl ⟨by rfl, ?_⟩) hH ?_
      · intro w hSw
        (try dsimp only at hSw)
        go_simp
      (try simp only [Act.put, List.setIfInBounds_toArray, List.set_cons_zero, List.set_cons_succ])
      refine wpAnyH_take (i := 1) (oi := { dst := some 15, op := Go.Op.fieldAddr 28 (Go.Operand.tmp 0) 0, type := 0, pos := "fixed.go:188", after := #[], guard := none }) (v := (.pointer (some ⟨pa, 0, none⟩))) rfl (by kernel_rfl) (by kernel_rfl) (by kernel_rfl) (fun _ _ _ h => h) (Or.inl ⟨by rfl, ?_⟩) hH ?_
      · intro w hSw
        (try dsimp only at hSw)
        go_simp
      (try simp only [Act.put, List.setIfInBounds_toArray, List.set_cons_zero, List.set_cons_succ])
      refine wpAnyH_take (i := 2) (oi := { dst := some 16, op := Go.Op.load 22 (Go.Operand.tmp 15), type := 22, pos := "fixed.go:188", after := #[{ on := 1, ground := Go.Ground.data }], guard := none }) (v := (.int .i64 ax)) rfl (by kernel_rfl) (by kernel_rfl) (by kernel_rfl) (fun _ _ _ h => h) (Or.inl ⟨by rfl, ?_⟩) hH ?_
      · intro w hSw
        (try dsimp only at hSw)
        go_simp
      (try simp only [Act.put, List.setIfInBounds_toArray, List.set_cons_zero, List.set_cons_succ])
      refine wpAnyH_take (i := 3) (oi := { dst := some 17, op := Go.Op.fieldAddr 28 (Go.Operand.tmp 1) 0, type := 0, pos := "fixed.go:188", after := #[], guard := none }) (v := (.pointer (some ⟨pb, 0, none⟩))) rfl (by kernel_rfl) (by kernel_rfl) (by kernel_rfl) (fun _ _ _ h => h) (Or.inl ⟨by rfl, ?_⟩) hH ?_
      · intro w hSw
        (try dsimp only at hSw)
        go_simp
      (try simp only [Act.put, List.setIfInBounds_toArray, List.set_cons_zero, List.set_cons_succ])
      refine wpAnyH_take (i := 4) (oi := { dst := some 18, op := Go.Op.load 22 (Go.Operand.tmp 17), type := 22, pos := "fixed.go:188", after := #[{ on := 3, ground := Go.Ground.data }], guard := none }) (v := (.int .i64 bx)) rfl (by kernel_rfl) (by kernel_rfl) (by kernel_rfl) (fun _ _ _ h => h) (Or.inl ⟨by rfl, ?_⟩) hH ?_
      · intro w hSw
        (try dsimp only at hSw)
        go_simp
      (try simp only [Act.put, List.setIfInBounds_toArray, List.set_cons_zero, List.set_cons_succ])
      refine wpAnyH_take (i := 6) (oi := { dst := some 20, op := Go.Op.load 221 (Go.Operand.tmp 2), type := 221, pos := "fixed.go:188", after := #[], guard := none }) (v := (.func (.func g) #[] cap)) rfl (by kernel_rfl) (by kernel_rfl) (by kernel_rfl) (fun _ _ _ h => h) (Or.inl ⟨by rfl, ?_⟩) hH ?_
      · intro w hSw
        (try dsimp only at hSw)
        go_simp
      (try simp only [Act.put, List.setIfInBounds_toArray, List.set_cons_zero, List.set_cons_succ])
      refine wpAnyH_take (i := 7) (oi := { dst := some 21, op := Go.Op.fieldAddr 28 (Go.Operand.tmp 0) 1, type := 0, pos := "fixed.go:188", after := #[], guard := none }) (v := (.pointer (some ⟨pa, 1, none⟩))) rfl (by kernel_rfl) (by kernel_rfl) (by kernel_rfl) (fun _ _ _ h => h) (Or.inl ⟨by rfl, ?_⟩) hH ?_
      · intro w hSw
        (try dsimp only at hSw)
        go_simp
      (try simp only [Act.put, List.setIfInBounds_toArray, List.set_cons_zero, List.set_cons_succ])
      refine wpAnyH_take (i := 8) (oi := { dst := some 22, op := Go.Op.load 22 (Go.Operand.tmp 21), type := 22, pos := "fixed.go:188", after := #[{ on := 7, ground := Go.Ground.data }], guard := none }) (v := (.int .i64 ay)) rfl (by kernel_rfl) (by kernel_rfl) (by kernel_rfl) (fun _ _ _ h => h) (Or.inl ⟨by rfl, ?_⟩) hH ?_
      · intro w hSw
        (try dsimp only at hSw)
        go_simp
      (try simp only [Act.put, List.setIfInBounds_toArray, List.set_cons_zero, List.set_cons_succ])
      refine wpAnyH_take (i := 9) (oi := { dst := some 23, op := Go.Op.fieldAddr 28 (Go.Operand.tmp 1) 1, type := 0, pos := "fixed.go:188", after := #[], guard := none }) (v := (.pointer (some ⟨pb, 1, none⟩))) rfl (by kernel_rfl) (by kernel_rfl) (by kernel_rfl) (fun _ _ _ h => h) (Or.inl ⟨by rfl, ?_⟩) hH ?_
      · intro w hSw
        (try dsimp only at hSw)
        go_simp
      (try simp only [Act.put, List.setIfInBounds_toArray, List.set_cons_zero, List.set_cons_succ])
      refine wpAnyH_take (i := 10) (oi := { dst := some 24, op := Go.Op.load 22 (Go.Operand.tmp 23), type := 22, pos := "fixed.go:188", after := #[{ on := 9, ground := Go.Ground.data }], guard := none }) (v := (.int .i64 by')) rfl (by kernel_rfl) (by kernel_rfl) (by kernel_rfl) (fun _ _ _ h => h) (Or.inl ⟨by rfl, ?_⟩) hH ?_
      · intro w hSw
        (try dsimp only at hSw)
        go_simp
      (try simp only [Act.put, List.setIfInBounds_toArray, List.set_cons_zero, List.set_cons_succ])
      refine wpAnyH_ready (rs := [5]) (by kernel_rfl) (by simp) ?_
      refine AllReadyH.cons rfl (fun K hK => ?_) AllReadyH.nil
      (try dsimp only at hH)
      go_simp
      refine (HG1.out _ ((Below.refl _ _).drew)).mono ?_
      rintro e w4 ⟨rfl, hb1⟩
      refine hK.out _ _ (HQ.out _ (btrans ((Below.refl _ _).drew) (Nat.le_refl _) hb1)) (fun hH1 => ?_)
      clear hK K
      (try simp only [Act.put, List.setIfInBounds_toArray, List.set_cons_zero, List.set_cons_succ])
      refine wpAnyH_ready (rs := [11]) (by kernel_rfl) (by simp) ?_
      refine AllReadyH.cons rfl (fun K hK => ?_) AllReadyH.nil
      (try dsimp only at hH1)
      go_simp
      refine (HG2.out _ (btrans ((Below.refl _ _).drew) (Nat.le_refl _) hb1)).mono ?_
      rintro e w5 ⟨rfl, hb2⟩
      exact ⟨rfl, rfl, HB1.out.trans ((btrans (btrans ((Below.refl _ _).drew) (Nat.le_refl _) hb1) (Nat.le_refl _) hb2).mono HB1.out.size)⟩
    | ok y =>
      rw [h2] at HG2 HX
      obtain rfl : r = .ok (x, y) := HX.out
      clear h2
      refine wp_region_held_drew (S := (fun W => (W.cell? ⟨pa, 0, none⟩ = some (.int .i64 ax) ∧ W.cell? ⟨pa, 1, none⟩ = some (.int .i64 ay) ∧ W.cell? ⟨pb, 0, none⟩ = some (.int .i64 bx) ∧ W.cell? ⟨pb, 1, none⟩ = some (.int .i64 by') ∧ W.cell? ⟨pf, 0, none⟩ = some (.func (.func g) #[] cap)) ∧ ∃ u v, W.heap[w.heap.size]? = some (.cells #[u, v] 28 (0, 0)))) (by kernel_rfl) (HQ.out _ ((Below.refl _ _).drew)) (fun hH => ?_)
      refine wpAnyH_take (i := 0) (oi := { dst := some 14, op := Go.Op.load 221 (Go.Operand.tmp 2), type := 221, pos := "fixed.go:188", after := #[], guard := none }) (v := (.func (.func g) #[] cap)) rfl (by kernel_rfl) (by kernel_rfl) (by kernel_rfl) (fun _ _ _ h => h) (Or.inl ⟨by rfl, ?_⟩) hH ?_
      · intro w hSw
        (try dsimp only at hSw)
        go_simp
      (try simp only [Act.put, List.setIfInBounds_toArray, List.set_cons_zero, List.set_cons_succ])
      refine wpAnyH_take (i := 1) (oi := { dst := some 15, op := Go.Op.fieldAddr 28 (Go.Operand.tmp 0) 0, type := 0, pos := "fixed.go:188", after := #[], guard := none }) (v := (.pointer (some ⟨pa, 0, none⟩))) rfl (by kernel_rfl) (by kernel_rfl) (by kernel_rfl) (fun _ _ _ h => h) (Or.inl ⟨by rfl, ?_⟩) hH ?_
      · intro w hSw
        (try dsimp only at hSw)
        go_simp
      (try simp only [Act.put, List.setIfInBounds_toArray, List.set_cons_zero, List.set_cons_succ])
      refine wpAnyH_take (i := 2) (oi := { dst := some 16, op := Go.Op.load 22 (Go.Operand.tmp 15), type := 22, pos := "fixed.go:188", after := #[{ on := 1, ground := Go.Ground.data }], guard := none }) (v := (.int .i64 ax)) rfl (by kernel_rfl) (by kernel_rfl) (by kernel_rfl) (fun _ _ _ h => h) (Or.inl ⟨by rfl, ?_⟩) hH ?_
      · intro w hSw
        (try dsimp only at hSw)
        go_simp
      (try simp only [Act.put, List.setIfInBounds_toArray, List.set_cons_zero, List.set_cons_succ])
      refine wpAnyH_take (i := 3) (oi := { dst := some 17, op := Go.Op.fieldAddr 28 (Go.Operand.tmp 1) 0, type := 0, pos := "fixed.go:188", after := #[], guard := none }) (v := (.pointer (some ⟨pb, 0, none⟩))) rfl (by kernel_rfl) (by kernel_rfl) (by kernel_rfl) (fun _ _ _ h => h) (Or.inl ⟨by rfl, ?_⟩) hH ?_
      · intro w hSw
        (try dsimp only at hSw)
        go_simp
      (try simp only [Act.put, List.setIfInBounds_toArray, List.set_cons_zero, List.set_cons_succ])
      refine wpAnyH_take (i := 4) (oi := { dst := some 18, op := Go.Op.load 22 (Go.Operand.tmp 17), type := 22, pos := "fixed.go:188", after := #[{ on := 3, ground := Go.Ground.data }], guard := none }) (v := (.int .i64 bx)) rfl (by kernel_rfl) (by kernel_rfl) (by kernel_rfl) (fun _ _ _ h => h) (Or.inl ⟨by rfl, ?_⟩) hH ?_
      · intro w hSw
        (try dsimp only at hSw)
        go_simp
      (try simp only [Act.put, List.setIfInBounds_toArray, List.set_cons_zero, List.set_cons_succ])
      refine wpAnyH_take (i := 6) (oi := { dst := some 20, op := Go.Op.load 221 (Go.Operand.tmp 2), type := 221, pos := "fixed.go:188", after := #[], guard := none }) (v := (.func (.func g) #[] cap)) rfl (by kernel_rfl) (by kernel_rfl) (by kernel_rfl) (fun _ _ _ h => h) (Or.inl ⟨by rfl, ?_⟩) hH ?_
      · intro w hSw
        (try dsimp only at hSw)
        go_simp
      (try simp only [Act.put, List.setIfInBounds_toArray, List.set_cons_zero, List.set_cons_succ])
      refine wpAnyH_take (i := 7) (oi := { dst := some 21, op := Go.Op.fieldAddr 28 (Go.Operand.tmp 0) 1, type := 0, pos := "fixed.go:188", after := #[], guard := none }) (v := (.pointer (some ⟨pa, 1, none⟩))) rfl (by kernel_rfl) (by kernel_rfl) (by kernel_rfl) (fun _ _ _ h => h) (Or.inl ⟨by rfl, ?_⟩) hH ?_
      · intro w hSw
        (try dsimp only at hSw)
        go_simp
      (try simp only [Act.put, List.setIfInBounds_toArray, List.set_cons_zero, List.set_cons_succ])
      refine wpAnyH_take (i := 8) (oi := { dst := some 22, op := Go.Op.load 22 (Go.Operand.tmp 21), type := 22, pos := "fixed.go:188", after := #[{ on := 7, ground := Go.Ground.data }], guard := none }) (v := (.int .i64 ay)) rfl (by kernel_rfl) (by kernel_rfl) (by kernel_rfl) (fun _ _ _ h => h) (Or.inl ⟨by rfl, ?_⟩) hH ?_
      · intro w hSw
        (try dsimp only at hSw)
        go_simp
      (try simp only [Act.put, List.setIfInBounds_toArray, List.set_cons_zero, List.set_cons_succ])
      refine wpAnyH_take (i := 9) (oi := { dst := some 23, op := Go.Op.fieldAddr 28 (Go.Operand.tmp 1) 1, type := 0, pos := "fixed.go:188", after := #[], guard := none }) (v := (.pointer (some ⟨pb, 1, none⟩))) rfl (by kernel_rfl) (by kernel_rfl) (by kernel_rfl) (fun _ _ _ h => h) (Or.inl ⟨by rfl, ?_⟩) hH ?_
      · intro w hSw
        (try dsimp only at hSw)
        go_simp
      (try simp only [Act.put, List.setIfInBounds_toArray, List.set_cons_zero, List.set_cons_succ])
      refine wpAnyH_take (i := 10) (oi := { dst := some 24, op := Go.Op.load 22 (Go.Operand.tmp 23), type := 22, pos := "fixed.go:188", after := #[{ on := 9, ground := Go.Ground.data }], guard := none }) (v := (.int .i64 by')) rfl (by kernel_rfl) (by kernel_rfl) (by kernel_rfl) (fun _ _ _ h => h) (Or.inl ⟨by rfl, ?_⟩) hH ?_
      · intro w hSw
        (try dsimp only at hSw)
        go_simp
      (try simp only [Act.put, List.setIfInBounds_toArray, List.set_cons_zero, List.set_cons_succ])
      refine wpAnyH_ready (rs := [5]) (by kernel_rfl) (by simp) ?_
      refine AllReadyH.cons rfl (fun K hK => ?_) AllReadyH.nil
      (try dsimp only at hH)
      go_simp
      refine (HG1.out _ ((Below.refl _ _).drew)).mono ?_
      rintro e w4 ⟨rfl, hb1⟩
      refine hK.out _ _ (HQ.out _ (btrans ((Below.refl _ _).drew) (Nat.le_refl _) hb1)) (fun hH1 => ?_)
      clear hK K
      (try simp only [Act.put, List.setIfInBounds_toArray, List.set_cons_zero, List.set_cons_succ])
      refine wpAnyH_ready (rs := [11]) (by kernel_rfl) (by simp) ?_
      refine AllReadyH.cons rfl (fun K hK => ?_) AllReadyH.nil
      (try dsimp only at hH1)
      go_simp
      refine (HG2.out _ (btrans ((Below.refl _ _).drew) (Nat.le_refl _) hb1)).mono ?_
      rintro e w5 ⟨rfl, hb2⟩
      refine hK.out _ _ (HQ.out _ (btrans (btrans ((Below.refl _ _).drew) (Nat.le_refl _) hb1) (Nat.le_refl _) hb2)) (fun hH2 => ?_)
      clear hK K
      (try simp only [Act.put, List.setIfInBounds_toArray, List.set_cons_zero, List.set_cons_succ])
      refine wpAnyH_take (i := 12) (oi := { dst := some 26, op := Go.Op.build 28 #[(0, Go.Operand.tmp 19), (1, Go.Operand.tmp 25)], type := 28, pos := "fixed.go:188", after := #[{ on := 5, ground := Go.Ground.data }, { on := 11, ground := Go.Ground.data }], guard := none }) (v := (.agg #[.int .i64 x, .int .i64 y])) rfl (by kernel_rfl) (by kernel_rfl) (by kernel_rfl) (fun _ _ _ h => h) (Or.inl ⟨by rfl, ?_⟩) hH2 ?_
      · intro w hSw
        (try dsimp only at hSw)
        go_simp
      (try simp only [Act.put, List.setIfInBounds_toArray, List.set_cons_zero, List.set_cons_succ])
      refine wpAnyH_ready (rs := [13]) (by kernel_rfl) (by simp) ?_
      refine AllReadyH.cons rfl (fun K hK => ?_) AllReadyH.nil
      (try dsimp only at hH2)
      obtain ⟨-, u, v, hS3⟩ := hH2
      obtain ⟨h4, h5, h6, h7⟩ := cells2 hS3
      go_simp
      refine hK.out _ _ (HQS.out _ _ _ (HQ.out _ (btrans (btrans ((Below.refl _ _).drew) (Nat.le_refl _) hb1) (Nat.le_refl _) hb2))) (fun hH3 => ?_)
      clear hK K
      (try simp only [Act.put, List.setIfInBounds_toArray, List.set_cons_zero, List.set_cons_succ])
      refine wpAnyH_done (by kernel_rfl) ?_ _
      go_wp2_with fail
      have hp := put2_same (.int .i64 x) (.int .i64 y) hS3
      have hb9 := ((HB1.out.trans ((btrans (btrans ((Below.refl _ _).drew) (Nat.le_refl _) hb1) (Nat.le_refl _) hb2).mono HB1.out.size)).setCell (p := ⟨w.heap.size, 0, none⟩) (Nat.le_refl _) (.int .i64 x)).setCell (p := ⟨w.heap.size, 1, none⟩) (Nat.le_refl _) (.int .i64 y)
      generalize (w5.setCell ⟨w.heap.size, 0, none⟩ (.int .i64 x)).setCell ⟨w.heap.size, 1, none⟩ (.int .i64 y) = W9 at *
      refine bodyPost_ret (results_c1 rfl _ _ _ ⟨w.heap.size, 0, none⟩ _ rfl (load28 W9 w.heap.size (.int .i64 x) (.int .i64 y) (by simp [World.cell?, hp]) (by simp [World.cell?, hp]))) rfl ⟨rfl, hb9⟩
end Go.Proofs.YtolnhicngepnnaaGreat
