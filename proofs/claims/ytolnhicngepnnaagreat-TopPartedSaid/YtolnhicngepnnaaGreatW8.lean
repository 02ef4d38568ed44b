/- fixed: below, share. -/
import Derived.Test.YtolnhicngepnnaaGreatW7
namespace Go.Proofs.YtolnhicngepnnaaGreat
open Go.RowKit

theorem bits3_any (a s : Nat) (ha : a < 18446744073709551616) (hs : s < 340282366920938463463374607431768211456) (w : World) : Calls Tryz.prog 207 #[.int .u64 (a : Int), wideV s] w fun e w' => e = .returned (.tuple #[wideV (a * s / 18446744073709551616), .int .u64 ((a * s % 18446744073709551616 : Nat) : Int)]) ∧ Below w.heap.size w w' := by
  obtain ⟨bh, hbh⟩ : ∃ x, s / 18446744073709551616 = x := ⟨_, rfl⟩
  obtain ⟨bl, hbl⟩ : ∃ x, s % 18446744073709551616 = x := ⟨_, rfl⟩
  have hs2 : s = bh * 18446744073709551616 + bl := by omega
  have h1 : bh < 18446744073709551616 := by omega
  have h2 : bl < 18446744073709551616 := by omega
  have e1 : a * s = a * bh * 18446744073709551616 + a * bl := by rw [hs2, Nat.mul_add, Nat.mul_assoc]
  have m1 : a * bh ≤ 18446744073709551615 * 18446744073709551615 := Nat.mul_le_mul (by omega) (by omega)
  have m2 : a * bl ≤ 18446744073709551615 * 18446744073709551615 := Nat.mul_le_mul (by omega) (by omega)
  have P0 := fun W => product_any a bl ha h2 W
  have P1 := fun W => product_any a bh ha h1 W
  have hv : wideV (a * bl / 18446744073709551616) = .agg #[.int .u64 0, .int .u64 ((a * bl / 18446744073709551616 : Nat) : Int)] := by
    have : a * bl / 18446744073709551616 < 18446744073709551616 := by omega
    rw [wideV, Nat.div_eq_of_lt this, Nat.mod_eq_of_lt this]; rfl
  have PL := fun W => plus_any (a * bh) (a * bl / 18446744073709551616) (by omega) W
  rw [hv] at PL
  have h := bits3_core a bh bl _ _ _ _ _ _ w P0 P1 PL
  rw [show a * s / 18446744073709551616 = a * bh + a * bl / 18446744073709551616 by omega, show a * s % 18446744073709551616 = a * bl % 18446744073709551616 by omega, show wideV s = .agg #[.int .u64 (bh : Int), .int .u64 (bl : Int)] by rw [wideV, hbh, hbl]]
  exact h
theorem or_32 (a b : Nat) (ha : a < 4294967296) (hb : b < 18446744073709551616) : bits BinOp.or .u64 ((a : Int) * 4294967296) ((b : Int) / 4294967296) = ((a * 4294967296 + b / 4294967296 : Nat) : Int) := by
  rw [show (a : Int) * 4294967296 = ((4294967296 * a : Nat) : Int) by omega, show (b : Int) / 4294967296 = ((b / 4294967296 : Nat) : Int) by omega, u64_or_nat _ _ (by omega) (by omega)]
  have h := Nat.two_pow_add_eq_or_of_lt (i := 32) (b := b / 4294967296) (by omega) a
  rw [show (4294967296 : Nat) = 2 ^ 32 by rfl] at *
  rw [← h]
  congr 1
  omega
/-- Three parts compared. -/
def lex3 (r0 r1 r2 q0 q1 q2 : Int) : Bool := if r0 = q0 then (if r1 = q1 then (if r2 = q2 then true else decide (r2 < q2)) else decide (r1 < q1)) else decide (r0 < q0)
theorem lex3_le (p q : Nat) : lex3 ((p / 340282366920938463463374607431768211456 : Nat) : Int) ((p / 18446744073709551616 % 18446744073709551616 : Nat) : Int) ((p % 18446744073709551616 : Nat) : Int) ((q / 340282366920938463463374607431768211456 : Nat) : Int) ((q / 18446744073709551616 % 18446744073709551616 : Nat) : Int) ((q % 18446744073709551616 : Nat) : Int) = decide (p ≤ q) := by
  unfold lex3
  split
  · split
    · split
      · exact (decide_eq_true (by omega)).symm
      · exact decide_eq_decide.2 (by omega)
    · exact decide_eq_decide.2 (by omega)
  · exact decide_eq_decide.2 (by omega)
set_option maxRecDepth 100000 in
set_option maxHeartbeats 2000000 in
theorem below_core (n x nn s1 s0 h1 h0 l p1 p0 q0 q1 q2 : Int) (w : World) (hn : IntKind.u64.wrap (n * n) = nn)
    (hB : ∀ W, Calls Tryz.prog 207 #[.int .u64 nn, .agg #[.int .u64 s1, .int .u64 s0]] W fun e W' => e = .returned (.tuple #[.agg #[.int .u64 h1, .int .u64 h0], .int .u64 l]) ∧ Below W.heap.size W W')
    (hP : ∀ W, Calls Tryz.prog 60 #[.int .u64 x, .int .u64 x] W fun e W' => e = .returned (.agg #[.int .u64 p1, .int .u64 p0]) ∧ Below W.heap.size W W')
    (hq0 : p1 / 4294967296 = q0) (hq1 : bits BinOp.or .u64 (p1 * 4294967296) (p0 / 4294967296) = q1) (hw1 : IntKind.u64.wrap (p1 * 4294967296) = p1 * 4294967296) (hw2 : IntKind.u64.wrap (p0 * 4294967296) = q2) :
    Calls Tryz.prog 197 #[.int .u64 n, .agg #[.int .u64 s1, .int .u64 s0], .int .u64 x] w fun e w' => e = .returned (.bool (lex3 h1 h0 l q0 q1 q2)) ∧ Below w.heap.size w w' := by
  have HB := hid hB
  have HP := hid hP
  have HN := hid hn
  have H0 := hid hq0
  have H1 := hid hq1
  have H2 := hid hw2
  have HL := hid (show lex3 h1 h0 l q0 q1 q2 = if h1 = q0 then (if h0 = q1 then (if l = q2 then true else decide (l < q2)) else decide (h0 < q1)) else decide (h1 < q0) from rfl)
  generalize lex3 h1 h0 l q0 q1 q2 = ans at *
  clear hB hP hn hq0 hq1 hw2
  go_enter Tryz.func197, Tryz.ntmps197
  go_upto_region 1 with fail
  go_wp2_with fail
  rw [HN.out]
  refine (HB.out _).mono ?_
  rintro e w1 ⟨rfl, hb1⟩
  have HB1 := hid (btrans ((Below.refl w.heap.size w).alloc (Nat.le_refl _) _) (by simp) hb1)
  clear hb1
  go_wp2_with fail
  refine (HP.out _).mono ?_
  rintro e w2 ⟨rfl, hb2⟩
  have ha7 := carry (heap_alloc_new w1 (.cells #[.int .u64 h1, .int .u64 h0] 149)) hb2
  have HB2 := hid (btrans (HB1.out.alloc (HB1.out.size) _) (Nat.le_refl _) hb2)
  have hl7 : w1.heap.size < w2.heap.size := by have := hb2.size; simp at this; omega
  generalize w1.heap.size = B7 at *
  clear hb2 HB1 w1
  obtain ⟨W3, hW3⟩ : ∃ W3, w2.alloc (.cells #[.int .u64 p1, .int .u64 p0] 149) = W3 := ⟨_, rfl⟩
  have hz3 : W3.heap.size = w2.heap.size + 1 := by rw [← hW3]; simp
  have ha9 : W3.heap[w2.heap.size]? = some (.cells #[.int .u64 p1, .int .u64 p0] 149 (0, 0)) := by rw [← hW3]; exact heap_alloc_new w2 _
  have hb3 : Below w2.heap.size w2 W3 := by rw [← hW3]; exact (Below.refl _ _).alloc (Nat.le_refl _) _
  have ha7 := carry ha7 hb3
  have HB3 := hid (btrans HB2.out (Nat.le_refl _) hb3)
  obtain ⟨W4, hW4⟩ : ∃ W4, W3.alloc (.cells #[.int .u64 q0, .int .u64 q1, .int .u64 q2] 283) = W4 := ⟨_, rfl⟩
  have hz4 : W4.heap.size = w2.heap.size + 2 := by rw [← hW4]; simp; omega
  have hb4 : Below W3.heap.size W3 W4 := by rw [← hW4]; exact (Below.refl _ _).alloc (Nat.le_refl _) _
  have ha10 : W4.heap[w2.heap.size + 1]? = some (.cells #[.int .u64 q0, .int .u64 q1, .int .u64 q2] 283 (0, 0)) := by rw [← hW4, ← hz3]; exact heap_alloc_new W3 _
  have ha7' := carry ha7 hb4
  have HB4 := hid (btrans HB3.out (Nat.le_refl _) hb4)
  have HW3 := hid hW3
  have HW4 := hid hW4
  have HA7 := hid ha7'
  have HA10 := hid ha10
  obtain ⟨g0, g1, -, -⟩ := cells2 ha9
  have HZ3 := hid hz3
  clear hW3 hW4 hb3 hb4 ha7 ha7' ha9 ha10 hz3
  go_upto_region 3 with fail
  rw [HW3.out]
  clear HW3
  go_upto_region 4 with fail
  rw [H0.out, H1.out, H2.out, HW4.out, HZ3.out]
  clear HW4 g0 g1
  obtain ⟨g0, g1, -, -⟩ := cells2 HA7.out
  obtain ⟨W5, hW5⟩ : ∃ W5, W4.alloc (.cells #[.int .u64 h1, .int .u64 h0, .int .u64 l] 283) = W5 := ⟨_, rfl⟩
  have ha11 : W5.heap[w2.heap.size + 2]? = some (.cells #[.int .u64 h1, .int .u64 h0, .int .u64 l] 283 (0, 0)) := by rw [← hW5, ← hz4]; exact heap_alloc_new W4 _
  have hb5 : Below W4.heap.size W4 W5 := by rw [← hW5]; exact (Below.refl _ _).alloc (Nat.le_refl _) _
  have ha10 := carry HA10.out hb5
  have HB5 := hid (btrans HB4.out (Nat.le_refl _) hb5)
  have HQ := hid (show ∀ U, Below W5.heap.size W5 U → (U.cell? ⟨w2.heap.size + 2, 0, none⟩ = some (.int .u64 h1) ∧ U.cell? ⟨w2.heap.size + 2, 1, none⟩ = some (.int .u64 h0) ∧ U.cell? ⟨w2.heap.size + 2, 2, none⟩ = some (.int .u64 l)) ∧ U.cell? ⟨w2.heap.size + 1, 0, none⟩ = some (.int .u64 q0) ∧ U.cell? ⟨w2.heap.size + 1, 1, none⟩ = some (.int .u64 q1) ∧ U.cell? ⟨w2.heap.size + 1, 2, none⟩ = some (.int .u64 q2) from fun U h => by
    have k1 := carry ha11 h
    have k2 := carry ha10 h
    exact ⟨⟨by simp [World.cell?, k1], by simp [World.cell?, k1], by simp [World.cell?, k1]⟩, by simp [World.cell?, k2], by simp [World.cell?, k2], by simp [World.cell?, k2]⟩)
  have HW5 := hid hW5
  have HZ4 := hid hz4
  clear hW5 hb5 ha10 ha11 hz4 HA7 HA10 HB2 HB3 HB4 hl7
  go_upto_region 5 with fail
  rw [HW5.out, HZ4.out]
  clear HW5 HZ4 g0 g1
  go_wp2_with fail
  go_loopw [44] (fun i wr => (i = .int .i64 0 ∨ (i = .int .i64 1 ∧ Hid (h1 = q0)) ∨ (i = .int .i64 2 ∧ Hid (h1 = q0) ∧ Hid (h0 = q1)) ∨ (i = .int .i64 3 ∧ Hid (h1 = q0) ∧ Hid (h0 = q1) ∧ Hid (l = q2))) ∧ Below W5.heap.size W5 wr) (fun i _ => (3 - intOf i).toNat)
  case atStart => exact ⟨.inl rfl, Below.refl _ _⟩
  case round =>
    obtain ⟨hi, hb⟩ := hrel
    have HBR := hid hb
    obtain ⟨⟨g0, g1, g2⟩, k0, k1, k2⟩ := HQ.out _ hb
    clear hb
    rcases hi with rfl | ⟨rfl, E0⟩ | ⟨rfl, E0, E1⟩ | ⟨rfl, E0, E1, E2⟩
    · have HD : (∃ _ : Hid (h1 = q0), (h1 != q0) = false) ∨ (∃ _ : Hid (¬ h1 = q0), (h1 != q0) = true) := by
        by_cases h : h1 = q0
        · exact .inl ⟨hid h, by simp [h]⟩
        · exact .inr ⟨hid h, by simp [h]⟩
      rcases HD with ⟨E0, hd⟩ | ⟨E0, hd⟩
      · go_wp2_with fail
        go_quiet (fail)
        go_wp2_with fail
        exact ⟨⟨.inr (.inl ⟨rfl, E0⟩), btrans HBR.out (Nat.le_refl _) (by repeat' (first | exact Below.refl _ _ | apply drewNB | apply Below.drew))⟩, by simp [intOf]⟩
      · go_wp2_with fail
        go_quiet (fail)
        go_wp2_with fail
        go_quiet (fail)
        go_wp2_with fail
        go_ret
        refine ⟨?_, HB5.out.trans ((btrans HBR.out (Nat.le_refl _) (by repeat' (first | exact Below.refl _ _ | apply drewNB | apply Below.drew))).mono HB5.out.size)⟩
        rw [HL.out, if_neg E0.out]
        rfl
    · have HD : (∃ _ : Hid (h0 = q1), (h0 != q1) = false) ∨ (∃ _ : Hid (¬ h0 = q1), (h0 != q1) = true) := by
        by_cases h : h0 = q1
        · exact .inl ⟨hid h, by simp [h]⟩
        · exact .inr ⟨hid h, by simp [h]⟩
      rcases HD with ⟨E1, hd⟩ | ⟨E1, hd⟩
      · go_wp2_with fail
        go_quiet (fail)
        go_wp2_with fail
        exact ⟨⟨.inr (.inr (.inl ⟨rfl, E0, E1⟩)), btrans HBR.out (Nat.le_refl _) (by repeat' (first | exact Below.refl _ _ | apply drewNB | apply Below.drew))⟩, by simp [intOf]⟩
      · go_wp2_with fail
        go_quiet (fail)
        go_wp2_with fail
        go_quiet (fail)
        go_wp2_with fail
        go_ret
        refine ⟨?_, HB5.out.trans ((btrans HBR.out (Nat.le_refl _) (by repeat' (first | exact Below.refl _ _ | apply drewNB | apply Below.drew))).mono HB5.out.size)⟩
        rw [HL.out, if_pos E0.out, if_neg E1.out]
        rfl
    · have HD : (∃ _ : Hid (l = q2), (l != q2) = false) ∨ (∃ _ : Hid (¬ l = q2), (l != q2) = true) := by
        by_cases h : l = q2
        · exact .inl ⟨hid h, by simp [h]⟩
        · exact .inr ⟨hid h, by simp [h]⟩
      rcases HD with ⟨E2, hd⟩ | ⟨E2, hd⟩
      · go_wp2_with fail
        go_quiet (fail)
        go_wp2_with fail
        exact ⟨⟨.inr (.inr (.inr ⟨rfl, E0, E1, E2⟩)), btrans HBR.out (Nat.le_refl _) (by repeat' (first | exact Below.refl _ _ | apply drewNB | apply Below.drew))⟩, by simp [intOf]⟩
      · go_wp2_with fail
        go_quiet (fail)
        go_wp2_with fail
        go_quiet (fail)
        go_wp2_with fail
        go_ret
        refine ⟨?_, HB5.out.trans ((btrans HBR.out (Nat.le_refl _) (by repeat' (first | exact Below.refl _ _ | apply drewNB | apply Below.drew))).mono HB5.out.size)⟩
        rw [HL.out, if_pos E0.out, if_pos E1.out, if_neg E2.out]
        rfl
    · go_wp2_with fail
      go_ret
      refine ⟨?_, HB5.out.trans (HBR.out.mono HB5.out.size)⟩
      rw [HL.out, if_pos E0.out, if_pos E1.out, if_pos E2.out]
      rfl
theorem below_any (n x s : Nat) (hn : n < 4294967296) (hx : x ≤ 70368744177664) (hs : s < 340282366920938463463374607431768211456) (w : World) :
    Calls Tryz.prog 197 #[.int .u64 (n : Int), wideV s, .int .u64 (x : Int)] w fun e w' => e = .returned (.bool (decide (n * n * s ≤ x * x * 4294967296))) ∧ Below w.heap.size w w' := by
  have hnn : n * n < 18446744073709551616 := by
    have : n * n ≤ 4294967295 * 4294967295 := Nat.mul_le_mul (by omega) (by omega)
    omega
  have hxx : x * x ≤ 70368744177664 * 70368744177664 := Nat.mul_le_mul hx hx
  have hB := fun W => bits3_any (n * n) s hnn hs W
  have hP := fun W => product_any x x (by omega) (by omega) W
  obtain ⟨P, hPd⟩ : ∃ P, n * n * s = P := ⟨_, rfl⟩
  obtain ⟨X, hX⟩ : ∃ X, x * x = X := ⟨_, rfl⟩
  rw [hPd] at hB ⊢
  rw [hX] at hP hxx ⊢
  obtain ⟨nn, hnd⟩ : ∃ nn, n * n = nn := ⟨_, rfl⟩
  rw [hnd] at hB hnn hPd
  have o := or_32 (X / 18446744073709551616) (X % 18446744073709551616) (by omega) (by omega)
  have hw : IntKind.u64.wrap ((n : Int) * (n : Int)) = ((nn : Nat) : Int) := by
    rw [show (n : Int) * (n : Int) = ((n * n : Nat) : Int) by push_cast; rfl, hnd, IntKind.wrap_u64]; omega
  have h := below_core n x nn _ _ _ _ _ _ _ _ _ ((X * 4294967296 % 18446744073709551616 : Nat) : Int) w hw hB hP rfl o (by rw [IntKind.wrap_u64]; omega) (by rw [IntKind.wrap_u64]; omega)
  have hle := lex3_le P (X * 4294967296)
  rw [show P / 340282366920938463463374607431768211456 = P / 18446744073709551616 / 18446744073709551616 by omega, show X * 4294967296 / 340282366920938463463374607431768211456 = X / 18446744073709551616 / 4294967296 by omega, show X * 4294967296 / 18446744073709551616 % 18446744073709551616 = X / 18446744073709551616 * 4294967296 + X % 18446744073709551616 / 4294967296 by omega] at hle
  rw [← hle]
  exact h
end Go.Proofs.YtolnhicngepnnaaGreat
