/- fixed.wide: plus, up; signed, right, ways. -/
import Derived.Test.YtolnhicngepnnaaGreatF2
import Derived.Laws.BitsAllLaws
namespace Go.Proofs.YtolnhicngepnnaaGreat
open Go.RowKit

theorem run_add64 (x y c : Nat) (hx : x < 18446744073709551616) (hy : y < 18446744073709551616) (hc : c ≤ 1) (w : World) :
    (callFunc 181 #[.int .u64 x, .int .u64 y, .int .u64 c]).run Tryz.prog w =
      .ok (.value (.tuple #[.int .u64 (((x + y + c) % 18446744073709551616 : Nat) : Int), .int .u64 (((x + y + c) / 18446744073709551616 : Nat) : Int)])) w := by
  rw [run_callFunc_extern Tryz.func181 (by kernel_rfl) (by kernel_rfl) (by kernel_rfl) (e := add64Entry) (by kernel_rfl), Go.run_add64 x y c (by omega) (by omega) (by omega) (by omega)]
  simp only [Result.andThen]
  congr 5 <;> omega
set_option maxRecDepth 100000 in
theorem plus_any (x y : Nat) (hs : x + y < 340282366920938463463374607431768211456) (w : World) : Calls Tryz.prog 148 #[wideV x, wideV y] w fun e w' => e = .returned (wideV (x + y)) ∧ Below w.heap.size w w' := by
  obtain ⟨a, ha⟩ : ∃ a, x / 18446744073709551616 = a := ⟨_, rfl⟩
  obtain ⟨b, hb⟩ : ∃ b, x % 18446744073709551616 = b := ⟨_, rfl⟩
  obtain ⟨c, hc⟩ : ∃ c, y / 18446744073709551616 = c := ⟨_, rfl⟩
  obtain ⟨d, hd⟩ : ∃ d, y % 18446744073709551616 = d := ⟨_, rfl⟩
  have hA := run_add64 b d 0 (by omega) (by omega) (by omega)
  have hB := run_add64 a c ((b + d + 0) / 18446744073709551616) (by omega) (by omega) (by omega)
  obtain ⟨k, hk⟩ : ∃ k, (b + d + 0) / 18446744073709551616 = k := ⟨_, rfl⟩
  obtain ⟨lo, hlo⟩ : ∃ lo, (b + d + 0) % 18446744073709551616 = lo := ⟨_, rfl⟩
  obtain ⟨hi, hhi⟩ : ∃ hi, (a + c + k) % 18446744073709551616 = hi := ⟨_, rfl⟩
  obtain ⟨k2, hk2⟩ : ∃ k2, (a + c + k) / 18446744073709551616 = k2 := ⟨_, rfl⟩
  rw [hk, hlo, show ((0 : Nat) : Int) = 0 from rfl] at hA
  rw [hk, hhi, hk2] at hB
  have HV := hid (show wideV (x + y) = .agg #[.int .u64 (hi : Int), .int .u64 (lo : Int)] by
    rw [wideV, show (x + y) / 18446744073709551616 = hi by omega, show (x + y) % 18446744073709551616 = lo by omega])
  rw [show wideV x = .agg #[.int .u64 (a : Int), .int .u64 (b : Int)] by rw [wideV, ha, hb], show wideV y = .agg #[.int .u64 (c : Int), .int .u64 (d : Int)] by rw [wideV, hc, hd]]
  clear ha hb hc hd hk hlo hhi hk2
  go_enter Tryz.func148, Tryz.ntmps148
  go_wp2_with fail
  have hp : (((w.alloc (.cells #[.int .u64 (a : Int), .int .u64 (b : Int)] 149)).alloc (.cells #[.int .u64 (c : Int), .int .u64 (d : Int)] 149)).alloc (.cells #[.int .u64 (hi : Int), .int .u64 (lo : Int)] 149)).heap[w.heap.size + 1 + 1]? = some (.cells #[.int .u64 (hi : Int), .int .u64 (lo : Int)] 149 (0, 0)) := by
    have := heap_alloc_new ((w.alloc (.cells #[.int .u64 (a : Int), .int .u64 (b : Int)] 149)).alloc (.cells #[.int .u64 (c : Int), .int .u64 (d : Int)] 149)) (.cells #[.int .u64 (hi : Int), .int .u64 (lo : Int)] 149)
    simpa using this
  have hb : Below w.heap.size w (((w.alloc (.cells #[.int .u64 (a : Int), .int .u64 (b : Int)] 149)).alloc (.cells #[.int .u64 (c : Int), .int .u64 (d : Int)] 149)).alloc (.cells #[.int .u64 (hi : Int), .int .u64 (lo : Int)] 149)) :=
    (((Below.refl _ w).alloc (Nat.le_refl _) _).alloc (by simp) _).alloc (by simp; omega) _
  generalize ((w.alloc (.cells #[.int .u64 (a : Int), .int .u64 (b : Int)] 149)).alloc (.cells #[.int .u64 (c : Int), .int .u64 (d : Int)] 149)).alloc (.cells #[.int .u64 (hi : Int), .int .u64 (lo : Int)] 149) = W at *
  refine bodyPost_ret (results_c1 rfl _ _ _ ⟨w.heap.size + 1 + 1, 0, none⟩ _ rfl (load85 W (w.heap.size + 1 + 1) (.int .u64 (hi : Int)) (.int .u64 (lo : Int)) (by simp [World.cell?, hp]) (by simp [World.cell?, hp]))) rfl ⟨by rw [HV.out], hb⟩
theorem signed_any (n : Nat) (neg : Bool) (hn : n < 18446744073709551616) (w : World) : Calls Tryz.prog 105 #[.int .u64 (n : Int), .bool neg] w fun e w' => EndsX (if n ≤ 70368744177664 then .ok (if neg then -(n : Int) else n) else .error 4) e ∧ w' = w := by
  by_cases h : n ≤ 70368744177664
  · have hI : (n : Int) ≤ 70368744177664 := by omega
    have H := hid (need_any true 4 w)
    cases neg with
    | true =>
      go_enter Tryz.func105, Tryz.ntmps105
      go_wp2_with fail
      refine H.out.mono ?_
      rintro e w1 ⟨he, rfl⟩
      obtain rfl : e = .returned (.tuple #[]) := he
      go_wp2_with fail
      go_ret
      exact ⟨rfl, rfl⟩
    | false =>
      go_enter Tryz.func105, Tryz.ntmps105
      go_wp2_with fail
      refine H.out.mono ?_
      rintro e w1 ⟨he, rfl⟩
      obtain rfl : e = .returned (.tuple #[]) := he
      go_wp2_with fail
      go_ret
      exact ⟨rfl, rfl⟩
  · have hI : ¬ (n : Int) ≤ 70368744177664 := by omega
    have H := hid (need_any false 4 w)
    go_enter Tryz.func105, Tryz.ntmps105
    go_wp2_with fail
    refine H.out.mono ?_
    rintro e w1 ⟨he, rfl⟩
    obtain rfl : e = .panicked (misfit 4) := he
    refine ⟨rfl, ?_, rfl⟩
    rw [if_neg h]
    rfl
def okF (a : Int) : Bool := decide (-70368744177664 ≤ a) && decide (a ≤ 70368744177664)
theorem right_any (v : Value) (l : List Int) (w : World) (hs : SlI w v l) : Calls Tryz.prog 57 #[v] w fun e w' => EndsU (l.all okF) 2 e ∧ Below w.heap.size w w' := by
  obtain ⟨a, cap, rfl, hl, hc⟩ := hs.open
  have HC := hid hc
  clear hs hc
  go_enter Tryz.func57, Tryz.ntmps57
  go_wp2_with fail
  go_loopw [6] (fun i wr => ∃ k : Nat, k ≤ l.length ∧ i = .int .i64 k ∧ wr = w ∧ ∀ j (h : j < l.length), j < k → okF l[j] = true) (fun i _ => l.length - (intOf i).toNat)
  case atStart => exact ⟨0, Nat.zero_le _, rfl, rfl, by omega⟩
  case round =>
    obtain ⟨k, hk, rfl, rfl, hno⟩ := hrel
    have HN := hid hno
    clear hno
    by_cases hlt : k < l.length
    · have hkI : (k : Int) < (l.length : Int) := by omega
      obtain ⟨b, off, rfl, hbl, hc⟩ := HC.out k hlt
      have hx := hc k hlt
      have HK := hid (show ∀ c : Bool, okF l[k] = c → (c = false → l.all okF = false) from fun c h hc => by
        rw [List.all_eq_false]
        exact ⟨l[k], List.getElem_mem _, by rw [h, hc]; simp⟩)
      have HN2 := hid (show okF l[k] = true → ∀ j (h : j < l.length), j < k + 1 → okF l[j] = true from fun h j hj hjk => by
        by_cases e : j = k
        · subst e; exact h
        · exact HN.out j hj (by omega))
      have HO := hid (show okF l[k] = (decide (-70368744177664 ≤ l[k]) && decide (l[k] ≤ 70368744177664)) from rfl)
      obtain ⟨c, hcc⟩ : ∃ c, okF l[k] = c := ⟨_, rfl⟩
      have HK2 := hid (HK.out c hcc)
      rw [hcc] at HO HN2
      generalize l[k] = x at *
      clear hc HK hcc HC
      have HND := hid (need_any c 2 wr)
      cases c with
      | true =>
        have h1 : -70368744177664 ≤ x ∧ x ≤ 70368744177664 := by
          have := HO.out
          simpa using this.symm
        obtain ⟨h1, h2⟩ := h1
        go_wp2_with fail
        refine HND.out.mono ?_
        rintro e w1 ⟨he, rfl⟩
        obtain rfl : e = .returned (.tuple #[]) := he
        go_wp2_with fail
        refine ⟨⟨k + 1, hlt, by go_num, trivial, HN2.out trivial⟩, by simp only [intOf]; omega⟩
      | false =>
        have h1 : -70368744177664 ≤ x → ¬ x ≤ 70368744177664 := by
          have := HO.out
          simpa using this.symm
        have HF := hid (HK2.out rfl)
        by_cases h2 : -70368744177664 ≤ x
        · have h3 := h1 h2
          clear h1
          go_wp2_with fail
          refine HND.out.mono ?_
          rintro e w1 ⟨he, rfl⟩
          obtain rfl : e = .panicked (misfit 2) := he
          refine ⟨rfl, ?_, Below.refl _ _⟩
          rw [HF.out]
          rfl
        · clear h1
          go_wp2_with fail
          refine HND.out.mono ?_
          rintro e w1 ⟨he, rfl⟩
          obtain rfl : e = .panicked (misfit 2) := he
          refine ⟨rfl, ?_, Below.refl _ _⟩
          rw [HF.out]
          rfl
    · have hkI : ¬ (k : Int) < (l.length : Int) := by omega
      have hall : l.all okF = true := List.all_eq_true.2 (fun x hx => by
        obtain ⟨j, hj, rfl⟩ := List.mem_iff_getElem.1 hx
        exact HN.out j hj (by omega))
      have HALL := hid hall
      clear hall
      go_wp2_with fail
      go_end0
      rw [HALL.out]
      exact ⟨rfl, Below.refl _ _⟩
theorem or_up (a b : Nat) (ha : a < 4611686018427387904) (hb : b < 18446744073709551616) : bits BinOp.or .u64 ((a : Int) * 4) ((b : Int) / 4611686018427387904) = ((4 * a + b / 4611686018427387904 : Nat) : Int) := by
  rw [show (a : Int) * 4 = ((4 * a : Nat) : Int) by omega, show (b : Int) / 4611686018427387904 = ((b / 4611686018427387904 : Nat) : Int) by omega, u64_or_nat _ _ (by omega) (by omega)]
  have h := Nat.two_pow_add_eq_or_of_lt (i := 2) (b := b / 4611686018427387904) (by omega) a
  rw [← h]
theorem up_any (x : Nat) (hs : x < 85070591730234615865843651857942052864) (w : World) : Calls Tryz.prog 103 #[wideV x, .int .u64 2] w fun e w' => e = .returned (wideV (4 * x)) ∧ Below w.heap.size w w' := by
  obtain ⟨a, ha⟩ : ∃ a, x / 18446744073709551616 = a := ⟨_, rfl⟩
  obtain ⟨b, hb⟩ : ∃ b, x % 18446744073709551616 = b := ⟨_, rfl⟩
  rw [show wideV x = .agg #[.int .u64 (a : Int), .int .u64 (b : Int)] by rw [wideV, ha, hb]]
  obtain ⟨hi, hhi⟩ : ∃ hi, 4 * a + b / 4611686018427387904 = hi := ⟨_, rfl⟩
  obtain ⟨lo, hlo⟩ : ∃ lo, 4 * b % 18446744073709551616 = lo := ⟨_, rfl⟩
  have HV := hid (show wideV (4 * x) = .agg #[.int .u64 (hi : Int), .int .u64 (lo : Int)] by
    rw [wideV, show 4 * x / 18446744073709551616 = hi by omega, show 4 * x % 18446744073709551616 = lo by omega])
  have hO := or_up a b (by omega) (by omega)
  rw [hhi] at hO
  have hL : IntKind.u64.wrap ((b : Int) * 4) = (lo : Int) := by rw [IntKind.wrap_u64]; omega
  have HO := hid (And.intro hO hL)
  have hab : a < 4611686018427387904 ∧ b < 18446744073709551616 := by omega
  clear ha hb hhi hlo hO hL
  go_enter Tryz.func103, Tryz.ntmps103
  go_wp2_with fail
  rw [HO.out.1, HO.out.2]
  have hp : ((w.alloc (.cells #[.int .u64 (a : Int), .int .u64 (b : Int)] 149)).alloc (.cells #[.int .u64 (hi : Int), .int .u64 (lo : Int)] 149)).heap[w.heap.size + 1]? = some (.cells #[.int .u64 (hi : Int), .int .u64 (lo : Int)] 149 (0, 0)) := by
    have := heap_alloc_new (w.alloc (.cells #[.int .u64 (a : Int), .int .u64 (b : Int)] 149)) (.cells #[.int .u64 (hi : Int), .int .u64 (lo : Int)] 149)
    simpa using this
  have hb : Below w.heap.size w ((w.alloc (.cells #[.int .u64 (a : Int), .int .u64 (b : Int)] 149)).alloc (.cells #[.int .u64 (hi : Int), .int .u64 (lo : Int)] 149)) :=
    ((Below.refl _ w).alloc (Nat.le_refl _) _).alloc (by simp) _
  generalize (w.alloc (.cells #[.int .u64 (a : Int), .int .u64 (b : Int)] 149)).alloc (.cells #[.int .u64 (hi : Int), .int .u64 (lo : Int)] 149) = W at *
  refine bodyPost_ret (results_c1 rfl _ _ _ ⟨w.heap.size + 1, 0, none⟩ _ rfl (load85 W (w.heap.size + 1) (.int .u64 (hi : Int)) (.int .u64 (lo : Int)) (by simp [World.cell?, hp]) (by simp [World.cell?, hp]))) rfl ⟨by rw [HV.out], hb⟩
end Go.Proofs.YtolnhicngepnnaaGreat
