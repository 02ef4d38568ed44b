/- fixed.Mul of valid numbers. -/
import Derived.Test.YtolnhicngepnnaaGreatW1
namespace Go.Proofs.YtolnhicngepnnaaGreat
open Go.RowKit

/-- A product, rounded. -/
def mulX (f : FuncId) (a b : Int) : Except Int Int := signX (quoM f (a.natAbs * b.natAbs) 65536 (decide (a < 0) != decide (b < 0))) (decide (a < 0) != decide (b < 0))
set_option maxRecDepth 100000 in
theorem mul52_any (f : FuncId) (hf : isWay f) (a b : Int) (ha : okF a = true) (hb : okF b = true) (hp : a.natAbs * b.natAbs < 18446744073709551616) (w : World) :
    Calls Tryz.prog 52 #[.int .i64 a, .int .i64 b, .func (.func f) #[] #[]] w fun e w' => EndsX (mulX f a b) e ∧ Below w.heap.size w w' := by
  have ha2 : -70368744177664 ≤ a ∧ a ≤ 70368744177664 := by simpa [okF] using ha
  have hb2 : -70368744177664 ≤ b ∧ b ≤ 70368744177664 := by simpa [okF] using hb
  have HR := hid (fun W v hs => right_any v [a, b] W hs)
  have HRA := hid (show [a, b].all okF = true by simp [ha, hb])
  have HSL := hid (new_SlI w [a, b] #[.int .i64 a, .int .i64 b] 22 rfl (by simp))
  have HSA := hid (fun W => size_any a (by omega) (by omega) W)
  have HSB := hid (fun W => size_any b (by omega) (by omega) W)
  have hX : mulX f a b = signX (quoM f (a.natAbs * b.natAbs) 65536 (decide (a < 0) != decide (b < 0))) (decide (a < 0) != decide (b < 0)) := rfl
  obtain ⟨na, hna⟩ : ∃ x, decide (a < 0) = x := ⟨_, rfl⟩
  obtain ⟨nb, hnb⟩ : ∃ x, decide (b < 0) = x := ⟨_, rfl⟩
  rw [hna, hnb] at hX
  have HQT := hid (fun W => quotient49_any f hf (a.natAbs * b.natAbs) 65536 (na != nb) hp (by omega) (by omega) W)
  rw [← hX] at HQT
  obtain ⟨sa, hsa⟩ : ∃ x, a.natAbs = x := ⟨_, rfl⟩
  obtain ⟨sb, hsb⟩ : ∃ x, b.natAbs = x := ⟨_, rfl⟩
  have HPR := hid (fun W => product_any sa sb (by omega) (by omega) W)
  rw [hsa] at HSA HQT
  rw [hsb] at HSB HQT
  obtain ⟨pv, hpv⟩ : ∃ v, wideV (sa * sb) = v := ⟨_, rfl⟩
  rw [hpv] at HPR HQT
  clear hsa hsb hpv hp hX ha hb
  obtain ⟨r, hr⟩ : ∃ r, mulX f a b = r := ⟨_, rfl⟩
  rw [hr] at HQT ⊢
  clear hr
  have hbA := (Below.refl w.heap.size w).alloc (Nat.le_refl _) (.cells #[.int .i64 a, .int .i64 b] 22)
  have HB := hid hbA
  clear hbA
  go_enter Tryz.func52, Tryz.ntmps52
  go_wp2_with fail
  refine (HR.out _ _ HSL.out).mono ?_
  rintro e w1 ⟨he, hb⟩
  rw [HRA.out] at he
  obtain rfl : e = .returned (.tuple #[]) := he
  have HB1 := hid (btrans HB.out (by simp) hb)
  clear hb HB HR HRA HSL
  go_wp2_with fail
  refine (HSA.out _).mono ?_
  rintro e w2 ⟨rfl, rfl⟩
  go_wp2_with fail
  refine (HSB.out _).mono ?_
  rintro e w3 ⟨rfl, rfl⟩
  go_wp2_with fail
  refine (HPR.out _).mono ?_
  rintro e w4 ⟨rfl, hb4⟩
  have HB4 := hid (HB1.out.trans (hb4.mono HB1.out.size))
  clear hb4
  go_wp2_with fail
  rw [show (!na == nb) = (na != nb) from rfl]
  refine (HQT.out _).mono ?_
  rintro e w5 ⟨he, hb5⟩
  have HB5 := hid (HB4.out.trans (hb5.mono HB4.out.size))
  clear hb5
  cases r with
  | ok v =>
    obtain rfl := he
    go_wp2_with fail
    go_ret
    exact ⟨rfl, HB5.out⟩
  | error c =>
    obtain rfl := he
    exact ⟨rfl, rfl, HB5.out⟩
set_option maxRecDepth 100000 in
set_option maxHeartbeats 4000000 in
theorem mul51_any (f : FuncId) (how a b : Int) (hf : wayF how = some f) (ha : okF a = true) (hb : okF b = true) (hp : a.natAbs * b.natAbs < 18446744073709551616) (pa pb ph : Nat) (w : World) (c0 : w.cell? ⟨pa, 0, none⟩ = some (.int .i64 a)) (c1 : w.cell? ⟨pb, 0, none⟩ = some (.int .i64 b)) (c2 : w.cell? ⟨ph, 0, none⟩ = some (.int .i64 how)) :
    Calls Tryz.prog 51 #[.pointer (some ⟨pa, 0, none⟩), .pointer (some ⟨pb, 0, none⟩), .pointer (some ⟨ph, 0, none⟩)] w fun e w' => EndsX (mulX f a b) e ∧ Below w.heap.size w w' := by
  have HWY := hid (fun W => ways_any how W)
  rw [hf] at HWY
  have HMU := hid (fun W => mul52_any f (wayF_is hf) a b ha hb hp W)
  have HQ := hid (show ∀ W, Below w.heap.size w W → W.cell? ⟨pa, 0, none⟩ = some (.int .i64 a) ∧ W.cell? ⟨pb, 0, none⟩ = some (.int .i64 b) ∧ W.cell? ⟨ph, 0, none⟩ = some (.int .i64 how) from fun W h => ⟨bcs h c0, bcs h c1, bcs h c2⟩)
  obtain ⟨r, hr⟩ : ∃ r, mulX f a b = r := ⟨_, rfl⟩
  rw [hr] at HMU ⊢
  clear hr ha hb hp hf c0 c1 c2
  go_enter Tryz.func51, Tryz.ntmps51
  go_upto_region 1 with fail
  cases r with
  | ok v =>
    refine wp_region_held_drew (S := (fun W => W.cell? ⟨pa, 0, none⟩ = some (.int .i64 a) ∧ W.cell? ⟨pb, 0, none⟩ = some (.int .i64 b) ∧ W.cell? ⟨ph, 0, none⟩ = some (.int .i64 how))) (by kernel_rfl) (HQ.out _ ((Below.refl _ _).drew)) (fun hH => ?_)
    refine wpAnyH_take (i := 0) (oi := { dst := some 4, op := Go.Op.load 22 (Go.Operand.tmp 0), type := 22, pos := "fixed.go:150", after := #[], guard := none }) (v := (.int .i64 a)) rfl (by kernel_rfl) (by kernel_rfl) (by kernel_rfl) (fun _ _ _ h => h) (Or.inl ⟨by rfl, ?_⟩) hH ?_
    · intro w hSw
      (try dsimp only at hSw)
      go_simp
    (try simp only [Act.put, List.setIfInBounds_toArray, List.set_cons_zero, List.set_cons_succ])
    refine wpAnyH_take (i := 1) (oi := { dst := some 5, op := Go.Op.load 22 (Go.Operand.tmp 1), type := 22, pos := "fixed.go:150", after := #[], guard := none }) (v := (.int .i64 b)) rfl (by kernel_rfl) (by kernel_rfl) (by kernel_rfl) (fun _ _ _ h => h) (Or.inl ⟨by rfl, ?_⟩) hH ?_
    · intro w hSw
      (try dsimp only at hSw)
      go_simp
    (try simp only [Act.put, List.setIfInBounds_toArray, List.set_cons_zero, List.set_cons_succ])
    refine wpAnyH_take (i := 2) (oi := { dst := some 6, op := Go.Op.load 3 (Go.Operand.tmp 2), type := 3, pos := "fixed.go:150", after := #[], guard := none }) (v := (.int .i64 how)) rfl (by kernel_rfl) (by kernel_rfl) (by kernel_rfl) (fun _ _ _ h => h) (Or.inl ⟨by rfl, ?_⟩) hH ?_
    · intro w hSw
      (try dsimp only at hSw)
      go_simp
    (try simp only [Act.put, List.setIfInBounds_toArray, List.set_cons_zero, List.set_cons_succ])
    refine wpAnyH_ready (rs := [3]) (by kernel_rfl) (by simp) ?_
    refine AllReadyH.cons rfl (fun K hK => ?_) AllReadyH.nil
    (try dsimp only at hH)
    go_simp
    refine (HWY.out _).mono ?_
    rintro e w1 ⟨rfl, rfl⟩
    refine hK.out _ _ (HQ.out _ ((Below.refl _ _).drew)) (fun hH1 => ?_)
    clear hK K
    (try simp only [Act.put, List.setIfInBounds_toArray, List.set_cons_zero, List.set_cons_succ])
    refine wpAnyH_ready (rs := [4]) (by kernel_rfl) (by simp) ?_
    refine AllReadyH.cons rfl (fun K hK => ?_) AllReadyH.nil
    (try dsimp only at hH1)
    go_simp
    refine (HMU.out _).mono ?_
    rintro e w2 ⟨rfl, hb1⟩
    refine hK.out _ _ (HQ.out _ (btrans ((Below.refl _ _).drew) (Nat.le_refl _) hb1)) (fun hH2 => ?_)
    clear hK K
    (try simp only [Act.put, List.setIfInBounds_toArray, List.set_cons_zero, List.set_cons_succ])
    refine wpAnyH_take (i := 5) (oi := { dst := some 3, op := Go.Op.assign (Go.Operand.tmp 8), type := 22, pos := "fixed.go:150", after := #[{ on := 4, ground := Go.Ground.data }, { on := 4, ground := Go.Ground.chain }, { on := 0, ground := Go.Ground.phase }, { on := 1, ground := Go.Ground.phase }, { on := 2, ground := Go.Ground.phase }, { on := 3, ground := Go.Ground.phase }, { on := 4, ground := Go.Ground.phase }], guard := none }) (v := (.int .i64 v)) rfl (by kernel_rfl) (by kernel_rfl) (by kernel_rfl) (fun _ _ _ h => h) (Or.inl ⟨by rfl, ?_⟩) hH2 ?_
    · intro w hSw
      (try dsimp only at hSw)
      go_simp
    (try simp only [Act.put, List.setIfInBounds_toArray, List.set_cons_zero, List.set_cons_succ])
    refine wpAnyH_done (by kernel_rfl) ?_ _
    all_goals go_wp2_with fail
    go_ret
    exact ⟨rfl, btrans ((Below.refl _ _).drew) (Nat.le_refl _) hb1⟩
  | error c =>
    refine wp_region_held_drew (S := (fun W => W.cell? ⟨pa, 0, none⟩ = some (.int .i64 a) ∧ W.cell? ⟨pb, 0, none⟩ = some (.int .i64 b) ∧ W.cell? ⟨ph, 0, none⟩ = some (.int .i64 how))) (by kernel_rfl) (HQ.out _ ((Below.refl _ _).drew)) (fun hH => ?_)
    refine wpAnyH_take (i := 0) (oi := { dst := some 4, op := Go.Op.load 22 (Go.Operand.tmp 0), type := 22, pos := "fixed.go:150", after := #[], guard := none }) (v := (.int .i64 a)) rfl (by kernel_rfl) (by kernel_rfl) (by kernel_rfl) (fun _ _ _ h => h) (Or.inl ⟨by rfl, ?_⟩) hH ?_
    · intro w hSw
      (try dsimp only at hSw)
      go_simp
    (try simp only [Act.put, List.setIfInBounds_toArray, List.set_cons_zero, List.set_cons_succ])
    refine wpAnyH_take (i := 1) (oi := { dst := some 5, op := Go.Op.load 22 (Go.Operand.tmp 1), type := 22, pos := "fixed.go:150", after := #[], guard := none }) (v := (.int .i64 b)) rfl (by kernel_rfl) (by kernel_rfl) (by kernel_rfl) (fun _ _ _ h => h) (Or.inl ⟨by rfl, ?_⟩) hH ?_
    · intro w hSw
      (try dsimp only at hSw)
      go_simp
    (try simp only [Act.put, List.setIfInBounds_toArray, List.set_cons_zero, List.set_cons_succ])
    refine wpAnyH_take (i := 2) (oi := { dst := some 6, op := Go.Op.load 3 (Go.Operand.tmp 2), type := 3, pos := "fixed.go:150", after := #[], guard := none }) (v := (.int .i64 how)) rfl (by kernel_rfl) (by kernel_rfl) (by kernel_rfl) (fun _ _ _ h => h) (Or.inl ⟨by rfl, ?_⟩) hH ?_
    · intro w hSw
      (try dsimp only at hSw)
      go_simp
    (try simp only [Act.put, List.setIfInBounds_toArray, List.set_cons_zero, List.set_cons_succ])
    refine wpAnyH_ready (rs := [3]) (by kernel_rfl) (by simp) ?_
    refine AllReadyH.cons rfl (fun K hK => ?_) AllReadyH.nil
    (try dsimp only at hH)
    go_simp
    refine (HWY.out _).mono ?_
    rintro e w1 ⟨rfl, rfl⟩
    refine hK.out _ _ (HQ.out _ ((Below.refl _ _).drew)) (fun hH1 => ?_)
    clear hK K
    (try simp only [Act.put, List.setIfInBounds_toArray, List.set_cons_zero, List.set_cons_succ])
    refine wpAnyH_ready (rs := [4]) (by kernel_rfl) (by simp) ?_
    refine AllReadyH.cons rfl (fun K hK => ?_) AllReadyH.nil
    (try dsimp only at hH1)
    go_simp
    refine (HMU.out _).mono ?_
    rintro e w2 ⟨rfl, hb1⟩
    exact ⟨rfl, rfl, btrans ((Below.refl _ _).drew) (Nat.le_refl _) hb1⟩
set_option maxRecDepth 100000 in
theorem mul22_any (f : FuncId) (how a b : Int) (hf : wayF how = some f) (ha : okF a = true) (hb : okF b = true) (hp : a.natAbs * b.natAbs < 18446744073709551616) (w : World) :
    Calls Tryz.prog 22 #[.int .i64 a, .int .i64 b, .int .i64 how] w fun e w' => e = .returned (.tuple #[.int .i64 (valX (mulX f a b)), .int .i64 (errX (mulX f a b))]) ∧ Below w.heap.size w w' := by
  obtain ⟨W1, hW1⟩ : ∃ W1, ((w.alloc (.cells #[.int .i64 a] 22)).alloc (.cells #[.int .i64 b] 22)).alloc (.cells #[.int .i64 how] 3) = W1 := ⟨_, rfl⟩
  have hz : W1.heap.size = w.heap.size + 3 := by rw [← hW1]; simp
  have hb1 : Below w.heap.size w W1 := by rw [← hW1]; exact (((Below.refl _ w).alloc (Nat.le_refl _) _).alloc (by simp) _).alloc (by simp <;> omega) _
  have p0 : W1.heap[w.heap.size]? = some (.cells #[.int .i64 a] 22 (0, 0)) := by
    rw [← hW1, Below.heap_alloc _ _ _ (by simp <;> omega), Below.heap_alloc _ _ _ (by simp)]; exact heap_alloc_new w _
  have p1 : W1.heap[w.heap.size + 1]? = some (.cells #[.int .i64 b] 22 (0, 0)) := by
    rw [← hW1, Below.heap_alloc _ _ _ (by simp)]
    simpa using heap_alloc_new (w.alloc (.cells #[.int .i64 a] 22)) (.cells #[.int .i64 b] 22)
  have p2 : W1.heap[w.heap.size + 1 + 1]? = some (.cells #[.int .i64 how] 3 (0, 0)) := by
    rw [← hW1]
    simpa using heap_alloc_new ((w.alloc (.cells #[.int .i64 a] 22)).alloc (.cells #[.int .i64 b] 22)) (.cells #[.int .i64 how] 3)
  have HT := hid (tried_any 51 #[.pointer (some ⟨w.heap.size, 0, none⟩), .pointer (some ⟨w.heap.size + 1, 0, none⟩), .pointer (some ⟨w.heap.size + 1 + 1, 0, none⟩)] (mulX f a b) W1 (enters_of Tryz.func51 (by kernel_rfl) rfl) (fun W h => mul51_any f how a b hf ha hb hp _ _ _ W (bcs h (by simp [World.cell?, p0])) (bcs h (by simp [World.cell?, p1])) (bcs h (by simp [World.cell?, p2]))))
  have HW := hid hW1
  have HB := hid hb1
  have hm := run_makeFunc
  clear hW1 hb1 p0 p1 p2 ha hb hf hp
  generalize mulX f a b = r at *
  go_enter Tryz.func22, Tryz.ntmps22
  go_wp2_with fail
  rw [HW.out]
  clear HW
  refine HT.out.mono ?_
  rintro e w1 ⟨rfl, hb⟩
  go_wp2_with fail
  go_ret2
  exact ⟨rfl, btrans HB.out (by omega) hb⟩
end Go.Proofs.YtolnhicngepnnaaGreat
