/- fixed.Length. -/
import Derived.Test.YtolnhicngepnnaaGreatF8
namespace Go.Proofs.YtolnhicngepnnaaGreat
open Go.RowKit

/-- What a length is. -/
def lenR (how : Int) (x y : Int) : Except Int Int := if okF x && okF y then (match wayF how with | some f => signX (rootM f (x.natAbs * x.natAbs + y.natAbs * y.natAbs) (isq (x.natAbs * x.natAbs + y.natAbs * y.natAbs))) false | none => .error 2) else .error 2
set_option maxRecDepth 100000 in
set_option maxHeartbeats 4000000 in
theorem len41_any (x y how : Int) (p q : Nat) (w : World) (c0 : w.cell? ⟨p, 0, none⟩ = some (.int .i64 x)) (c1 : w.cell? ⟨p, 1, none⟩ = some (.int .i64 y)) (c2 : w.cell? ⟨q, 0, none⟩ = some (.int .i64 how)) :
    Calls Tryz.prog 183 #[.pointer (some ⟨p, 0, none⟩), .pointer (some ⟨q, 0, none⟩)] w fun e w' => EndsX (lenR how x y) e ∧ Below w.heap.size w w' := by
  have HSQ := hid (fun W => square42_any x y W)
  have HWY := hid (fun W => ways_any how W)
  have HL := hid (show lenR how x y = if okF x && okF y then (match wayF how with | some f => signX (rootM f (x.natAbs * x.natAbs + y.natAbs * y.natAbs) (isq (x.natAbs * x.natAbs + y.natAbs * y.natAbs))) false | none => .error 2) else .error 2 from rfl)
  have HS := hid (show (okF x && okF y) = true → x.natAbs * x.natAbs + y.natAbs * y.natAbs < 21267647932558653966460912964485513216 from fun h => by
    have h2 : (-70368744177664 ≤ x ∧ x ≤ 70368744177664) ∧ (-70368744177664 ≤ y ∧ y ≤ 70368744177664) := by simpa [okF, and_assoc] using h
    have hx : x.natAbs * x.natAbs ≤ 70368744177664 * 70368744177664 := Nat.mul_le_mul (by omega) (by omega)
    have hy : y.natAbs * y.natAbs ≤ 70368744177664 * 70368744177664 := Nat.mul_le_mul (by omega) (by omega)
    omega)
  obtain ⟨r, hr⟩ : ∃ r, lenR how x y = r := ⟨_, rfl⟩
  obtain ⟨ok, hok⟩ : ∃ ok, (okF x && okF y) = ok := ⟨_, rfl⟩
  obtain ⟨s, hs⟩ : ∃ s, x.natAbs * x.natAbs + y.natAbs * y.natAbs = s := ⟨_, rfl⟩
  rw [hok, hs] at HSQ HL
  rw [hok, hs] at HS
  rw [hr] at HL ⊢
  clear hr hok hs
  go_enter Tryz.func183, Tryz.ntmps183
  go_wp2_with fail
  refine (HSQ.out _).mono ?_
  rintro e W1 ⟨he, hb1⟩
  cases ok with
  | false =>
    obtain rfl : e = .panicked (misfit 2) := he
    refine ⟨rfl, ?_, hb1⟩
    rw [HL.out]; rfl
  | true =>
    have hs := HS.out rfl
    obtain rfl : e = .returned (wideV s) := he
    obtain ⟨hi, hhi⟩ : ∃ hi, s / 18446744073709551616 = hi := ⟨_, rfl⟩
    obtain ⟨lo, hlo⟩ : ∃ lo, s % 18446744073709551616 = lo := ⟨_, rfl⟩
    have HV := hid (show wideV s = .agg #[.int .u64 (hi : Int), .int .u64 (lo : Int)] by rw [wideV, hhi, hlo])
    rw [HV.out]
    clear hhi hlo
    have HS2 := hid hs
    have HB1 := hid hb1
    have HC := hid (show W1.cell? ⟨q, 0, none⟩ = some (.int .i64 how) from bcs hb1 c2)
    have hql := World.block_lt_of_cell? W1 ⟨q, 0, none⟩ HC.out
    clear hs hb1 c0 c1 c2 HS HSQ
    have hb2 := (HB1.out.alloc (HB1.out.size) (.cells #[.int .u64 (hi : Int), .int .u64 (lo : Int)] 149))
    have HQ := hid (show ∀ W, Below (W1.alloc (.cells #[.int .u64 (hi : Int), .int .u64 (lo : Int)] 149)).heap.size (W1.alloc (.cells #[.int .u64 (hi : Int), .int .u64 (lo : Int)] 149)) W → W.cell? ⟨W1.heap.size, 0, none⟩ = some (.int .u64 (hi : Int)) ∧ W.cell? ⟨W1.heap.size, 1, none⟩ = some (.int .u64 (lo : Int)) ∧ W.cell? ⟨q, 0, none⟩ = some (.int .i64 how) from fun W hb => by
      have h9 := (hb.block W1.heap.size (by simp)).trans (heap_alloc_new W1 _)
      exact ⟨by simp [World.cell?, h9], by simp [World.cell?, h9], bcs hb (bcs ((Below.refl _ _).alloc (Nat.le_refl _) _) HC.out)⟩)
    have HB2 := hid hb2
    clear hb2 HB1 HC
    go_upto_region 2 with fail
    generalize W1.alloc (.cells #[.int .u64 (hi : Int), .int .u64 (lo : Int)] 149) = W2 at *
    have HL2 := hid (show r = match wayF how with | some f => signX (rootM f s (isq s)) false | none => .error 2 by rw [HL.out]; rfl)
    clear HL
    have HL := HL2
    clear HL2
    cases hw : wayF how with
    | none =>
      rw [hw] at HWY HL
      clear hw
      refine wp_region_held_drew (S := (fun W => W.cell? ⟨W1.heap.size, 0, none⟩ = some (.int .u64 (hi : Int)) ∧ W.cell? ⟨W1.heap.size, 1, none⟩ = some (.int .u64 (lo : Int)) ∧ W.cell? ⟨q, 0, none⟩ = some (.int .i64 how))) (by kernel_rfl) (HQ.out _ ((Below.refl _ _).drew)) (fun hH => ?_)
      refine wpAnyH_take (i := 0) (oi := { dst := some 6, op := Go.Op.load 149 (Go.Operand.tmp 3), type := 149, pos := "fixed.go:237", after := #[], guard := none }) (v := (.agg #[.int .u64 (hi : Int), .int .u64 (lo : Int)])) rfl (by kernel_rfl) (by kernel_rfl) (by kernel_rfl) (fun _ _ _ h => h) (Or.inl ⟨by rfl, ?_⟩) hH ?_
      · intro w hSw
        (try dsimp only at hSw)
        go_simp
      (try simp only [Act.put, List.setIfInBounds_toArray, List.set_cons_zero, List.set_cons_succ])
      refine wpAnyH_take (i := 1) (oi := { dst := some 7, op := Go.Op.load 3 (Go.Operand.tmp 1), type := 3, pos := "fixed.go:237", after := #[], guard := none }) (v := (.int .i64 how)) rfl (by kernel_rfl) (by kernel_rfl) (by kernel_rfl) (fun _ _ _ h => h) (Or.inl ⟨by rfl, ?_⟩) hH ?_
      · intro w hSw
        (try dsimp only at hSw)
        go_simp
      (try simp only [Act.put, List.setIfInBounds_toArray, List.set_cons_zero, List.set_cons_succ])
      refine wpAnyH_ready (rs := [2]) (by kernel_rfl) (by simp) ?_
      refine AllReadyH.cons rfl (fun K hK => ?_) AllReadyH.nil
      (try dsimp only at hH)
      go_simp
      refine (HWY.out _).mono ?_
      rintro e w1 ⟨rfl, rfl⟩
      refine ⟨rfl, ?_, HB2.out.trans (((Below.refl _ _).drew).mono HB2.out.size)⟩
      rw [HL.out]; rfl
    | some f =>
      have hf := wayF_is hw
      rw [hw] at HWY HL
      clear hw
      have HR0 := hid (fun W => root34_any f hf s HS2.out W)
      have HRT := hid (show ∀ W, Calls Tryz.prog 59 #[wideV s, .func (.func f) #[] #[]] W fun e w' => EndsX r e ∧ Below W.heap.size W w' from fun W => (HR0.out W).mono fun e w' ⟨⟨n, hn, he⟩, hb⟩ => ⟨by rw [HL.out]; rw [← isq_one hn]; exact he, hb⟩)
      rw [HV.out] at HRT
      clear HR0 HL hf
      cases r with
      | ok v =>
        refine wp_region_held_drew (S := (fun W => W.cell? ⟨W1.heap.size, 0, none⟩ = some (.int .u64 (hi : Int)) ∧ W.cell? ⟨W1.heap.size, 1, none⟩ = some (.int .u64 (lo : Int)) ∧ W.cell? ⟨q, 0, none⟩ = some (.int .i64 how))) (by kernel_rfl) (HQ.out _ ((Below.refl _ _).drew)) (fun hH => ?_)
        refine wpAnyH_take (i := 0) (oi := { dst := some 6, op := Go.Op.load 149 (Go.Operand.tmp 3), type := 149, pos := "fixed.go:237", after := #[], guard := none }) (v := (.agg #[.int .u64 (hi : Int), .int .u64 (lo : Int)])) rfl (by kernel_rfl) (by kernel_rfl) (by kernel_rfl) (fun _ _ _ h => h) (Or.inl ⟨by rfl, ?_⟩) hH ?_
        · intro w hSw
          (try dsimp only at hSw)
          go_simp
        (try simp only [Act.put, List.setIfInBounds_toArray, List.set_cons_zero, List.set_cons_succ])
        refine wpAnyH_take (i := 1) (oi := { dst := some 7, op := Go.Op.load 3 (Go.Operand.tmp 1), type := 3, pos := "fixed.go:237", after := #[], guard := none }) (v := (.int .i64 how)) rfl (by kernel_rfl) (by kernel_rfl) (by kernel_rfl) (fun _ _ _ h => h) (Or.inl ⟨by rfl, ?_⟩) hH ?_
        · intro w hSw
          (try dsimp only at hSw)
          go_simp
        (try simp only [Act.put, List.setIfInBounds_toArray, List.set_cons_zero, List.set_cons_succ])
        refine wpAnyH_ready (rs := [2]) (by kernel_rfl) (by simp) ?_
        refine AllReadyH.cons rfl (fun K hK => ?_) AllReadyH.nil
        (try dsimp only at hH)
        go_simp
        refine (HWY.out _).mono ?_
        rintro e w1 ⟨rfl, rfl⟩
        refine hK.out _ _ (HQ.out _ ((Below.refl _ _).drew)) (fun hH1 => ?_)
        clear hK K
        (try simp only [Act.put, List.setIfInBounds_toArray, List.set_cons_zero, List.set_cons_succ])
        refine wpAnyH_ready (rs := [3]) (by kernel_rfl) (by simp) ?_
        refine AllReadyH.cons rfl (fun K hK => ?_) AllReadyH.nil
        (try dsimp only at hH1)
        go_simp
        refine (HRT.out _).mono ?_
        rintro e w2 ⟨rfl, hb1⟩
        refine hK.out _ _ (HQ.out _ (btrans ((Below.refl _ _).drew) (Nat.le_refl _) hb1)) (fun hH2 => ?_)
        clear hK K
        (try simp only [Act.put, List.setIfInBounds_toArray, List.set_cons_zero, List.set_cons_succ])
        refine wpAnyH_take (i := 4) (oi := { dst := some 2, op := Go.Op.assign (Go.Operand.tmp 9), type := 22, pos := "fixed.go:237", after := #[{ on := 3, ground := Go.Ground.data }, { on := 3, ground := Go.Ground.chain }, { on := 0, ground := Go.Ground.phase }, { on := 1, ground := Go.Ground.phase }, { on := 2, ground := Go.Ground.phase }, { on := 3, ground := Go.Ground.phase }], guard := none }) (v := (.int .i64 v)) rfl (by kernel_rfl) (by kernel_rfl) (by kernel_rfl) (fun _ _ _ h => h) (Or.inl ⟨by rfl, ?_⟩) hH2 ?_
        · intro w hSw
          (try dsimp only at hSw)
          go_simp
        (try simp only [Act.put, List.setIfInBounds_toArray, List.set_cons_zero, List.set_cons_succ])
        refine wpAnyH_done (by kernel_rfl) ?_ _
        all_goals go_wp2_with fail
        go_ret
        exact ⟨rfl, HB2.out.trans ((btrans ((Below.refl _ _).drew) (Nat.le_refl _) hb1).mono HB2.out.size)⟩
      | error c =>
        refine wp_region_held_drew (S := (fun W => W.cell? ⟨W1.heap.size, 0, none⟩ = some (.int .u64 (hi : Int)) ∧ W.cell? ⟨W1.heap.size, 1, none⟩ = some (.int .u64 (lo : Int)) ∧ W.cell? ⟨q, 0, none⟩ = some (.int .i64 how))) (by kernel_rfl) (HQ.out _ ((Below.refl _ _).drew)) (fun hH => ?_)
        refine wpAnyH_take (i := 0) (oi := { dst := some 6, op := Go.Op.load 149 (Go.Operand.tmp 3), type := 149, pos := "fixed.go:237", after := #[], guard := none }) (v := (.agg #[.int .u64 (hi : Int), .int .u64 (lo : Int)])) rfl (by kernel_rfl) (by kernel_rfl) (by kernel_rfl) (fun _ _ _ h => h) (Or.inl ⟨by rfl, ?_⟩) hH ?_
        · intro w hSw
          (try dsimp only at hSw)
          go_simp
        (try simp only [Act.put, List.setIfInBounds_toArray, List.set_cons_zero, List.set_cons_succ])
        refine wpAnyH_take (i := 1) (oi := { dst := some 7, op := Go.Op.load 3 (Go.Operand.tmp 1), type := 3, pos := "fixed.go:237", after := #[], guard := none }) (v := (.int .i64 how)) rfl (by kernel_rfl) (by kernel_rfl) (by kernel_rfl) (fun _ _ _ h => h) (Or.inl ⟨by rfl, ?_⟩) hH ?_
        · intro w hSw
          (try dsimp only at hSw)
          go_simp
        (try simp only [Act.put, List.setIfInBounds_toArray, List.set_cons_zero, List.set_cons_succ])
        refine wpAnyH_ready (rs := [2]) (by kernel_rfl) (by simp) ?_
        refine AllReadyH.cons rfl (fun K hK => ?_) AllReadyH.nil
        (try dsimp only at hH)
        go_simp
        refine (HWY.out _).mono ?_
        rintro e w1 ⟨rfl, rfl⟩
        refine hK.out _ _ (HQ.out _ ((Below.refl _ _).drew)) (fun hH1 => ?_)
        clear hK K
        (try simp only [Act.put, List.setIfInBounds_toArray, List.set_cons_zero, List.set_cons_succ])
        refine wpAnyH_ready (rs := [3]) (by kernel_rfl) (by simp) ?_
        refine AllReadyH.cons rfl (fun K hK => ?_) AllReadyH.nil
        (try dsimp only at hH1)
        go_simp
        refine (HRT.out _).mono ?_
        rintro e w2 ⟨rfl, hb1⟩
        exact ⟨rfl, rfl, HB2.out.trans ((btrans ((Below.refl _ _).drew) (Nat.le_refl _) hb1).mono HB2.out.size)⟩
end Go.Proofs.YtolnhicngepnnaaGreat
