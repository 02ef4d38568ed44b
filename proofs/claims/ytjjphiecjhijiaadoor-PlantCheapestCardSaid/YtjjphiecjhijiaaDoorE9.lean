/- Pairs; an easier plant: its plain law, its boxes, and the end of besomlaw12.PlantCheapest. -/
import Derived.Test.YtjjphiecjhijiaaDoorN3
import Derived.BigQuiet
import Derived.Test.YtjjphiecjhijiaaDoorA6
import Derived.Deep.Upon
import Derived.Deep.RegionLaw
import Derived.Deep.AppendLies
import Derived.BigRegion
import Derived.Test.YtjjphiecjhijiaaDoorV1
import Derived.Test.YtjjphiecjhijiaaDoorC3
/- The document's best pairs, and besomlaw12.PlantMatches, walked. -/
namespace Go.Proofs.YtjjphiecjhijiaaDoor
open Go.RowKit

set_option maxRecDepth 100000 in
set_option maxHeartbeats 400000 in
/-- besomref12.Differ -/
theorem refDiffer_any (x y : Int × Int) (w : World) (h1 : 0 ≤ x.1 ∧ x.1 ≤ 1000000) (h2 : 0 ≤ x.2 ∧ x.2 ≤ 1000000) (h3 : 0 ≤ y.1 ∧ y.1 ≤ 1000000) (h4 : 0 ≤ y.2 ∧ y.2 ≤ 1000000) :
    Calls Tryd.prog 23 #[.agg #[.int .i64 x.1, .int .i64 x.2], .agg #[.int .i64 y.1, .int .i64 y.2]] w fun e w' => e = .returned (.int .i64 (absI (x.1 - y.1) + absI (x.2 - y.2))) ∧ Below w.heap.size w w' := by
  obtain ⟨a, b⟩ := x
  obtain ⟨c, d⟩ := y
  simp only at h1 h2 h3 h4 ⊢
  have HA := hid (fun w' => size_r (a - c) w' (by omega) (by omega))
  have HB := hid (fun w' => size_r (b - d) w' (by omega) (by omega))
  have hwa : IntKind.i64.wrap (a - c) = a - c := IntWalk.i64_in _ (by omega)
  have hwb : IntKind.i64.wrap (b - d) = b - d := IntWalk.i64_in _ (by omega)
  have hws : IntKind.i64.wrap (absI (a - c) + absI (b - d)) = absI (a - c) + absI (b - d) := IntWalk.i64_in _ (by unfold absI; omega)
  generalize absI (a - c) = p at *
  generalize absI (b - d) = q at *
  generalize hac : a - c = ac at *
  generalize hbd : b - d = bd at *
  go_enter Tryd.func23, Tryd.ntmps23
  go_upto_region 1 with fail
  obtain ⟨W1, hW1⟩ : ∃ W1, ((w.alloc (.cells #[.int .i64 a, .int .i64 b] 51)).alloc (.cells #[.int .i64 c, .int .i64 d] 51)) = W1 := ⟨_, rfl⟩
  rw [hW1]
  have hb1 : Below w.heap.size w W1 := by rw [← hW1]; exact ((Below.refl _ _).alloc (Nat.le_refl _) _).alloc (by simp) _
  have x0 : W1.cell? ⟨w.heap.size, 0, none⟩ = some (.int .i64 a) := by rw [← hW1]; exact bcs ((Below.refl _ _).alloc (Nat.le_refl _) _) (cell_new w #[.int .i64 a, .int .i64 b] 51 0 _ rfl)
  have x1 : W1.cell? ⟨w.heap.size, 1, none⟩ = some (.int .i64 b) := by rw [← hW1]; exact bcs ((Below.refl _ _).alloc (Nat.le_refl _) _) (cell_new w #[.int .i64 a, .int .i64 b] 51 1 _ rfl)
  have y0 : W1.cell? ⟨w.heap.size + 1, 0, none⟩ = some (.int .i64 c) := by rw [← hW1]; simp
  have y1 : W1.cell? ⟨w.heap.size + 1, 1, none⟩ = some (.int .i64 d) := by rw [← hW1]; simp
  have HB1 := hid hb1
  clear hW1 hb1
  go_quiet ((go_at_call 54; first | exact Calls.quiet_of_same ((HA.out _).mono fun _ _ ⟨h1, h2⟩ => ⟨h1, h2.symm⟩) | exact Calls.quiet_of_same ((HB.out _).mono fun _ _ ⟨h1, h2⟩ => ⟨h1, h2.symm⟩)))
  go_wp2_with fail
  go_ret
  exact ⟨rfl, drewNB HB1.out _⟩

set_option maxRecDepth 100000 in
set_option maxHeartbeats 1000000 in
/-- besomref12.Marks -/
theorem refMarks_any (v : Value) (l : List (Int × Int)) (w : World) (hs : SlK w v l) :
    Calls Tryd.prog 22 #[v] w fun e w' => e = .returned (.bool (marksB l)) ∧ w = w' := by
  obtain ⟨a, cap, rfl, hl, hcc⟩ := hs.open
  have HC := hid hcc
  have HR := hid (show marksB l = (decide (l.length % 2 = 0) && (decide (l.length ≤ 16) && !l.any badK)) from rfl)
  generalize marksB l = rb at *
  clear hs hcc
  go_enter Tryd.func22, Tryd.ntmps22
  go_wp2_with fail
  go_loop [3] (fun i => ∃ k : Nat, k ≤ l.length ∧ i = .int .i64 k ∧ ∀ j (h : j < l.length), j < k → badK l[j] = false) (fun i => l.length - (intOf i).toNat)
  case atStart => exact ⟨0, Nat.zero_le _, rfl, by omega⟩
  case round =>
    obtain ⟨k, hk, rfl, hno⟩ := hrel
    have HN := hid hno
    clear hno
    by_cases hlt : k < l.length
    · obtain ⟨b, off, rfl, hbl, hcc⟩ := HC.out k hlt
      obtain ⟨x0, x1⟩ := hcc k hlt
      have HM := hid (show l[k] ∈ l from List.getElem_mem _)
      clear hcc
      generalize hy : l[k] = y at *
      have HY := hid hy
      clear hy
      obtain ⟨c, s⟩ := y
      simp only at x0 x1
      have HBK := hid (show badK (c, s) = !(inB c 0 1000000 && inB s 0 1000000) by simp [badK, fewB, badN, okN])
      have hi0 := in_any c 0 1000000 w
      have hi1 := in_any s 0 1000000 w
      generalize inB c 0 1000000 = q0 at *
      generalize inB s 0 1000000 = q1 at *
      have hbad : badK (c, s) = true → rb = false := by
        intro h
        rw [HR.out, List.any_eq_true.2 ⟨_, HM.out, h⟩]
        simp
      have HBAD := hid hbad
      clear hbad
      cases q0 with
      | false =>
        have hq := HBAD.out (by rw [HBK.out]; rfl)
        go_wp2_with fail
        refine hi0.mono ?_
        rintro e w' ⟨rfl, rfl⟩
        go_wp2_with fail
        go_ret
        exact ⟨ret_bool hq.symm, rfl⟩
      | true =>
        cases q1 with
        | false =>
          have hq := HBAD.out (by rw [HBK.out]; rfl)
          go_wp2_with fail
          refine hi0.mono ?_
          rintro e w' ⟨rfl, rfl⟩
          go_wp2_with fail
          refine hi1.mono ?_
          rintro e w' ⟨rfl, rfl⟩
          go_wp2_with fail
          go_ret
          exact ⟨ret_bool hq.symm, rfl⟩
        | true =>
          go_wp2_with fail
          refine hi0.mono ?_
          rintro e w' ⟨rfl, rfl⟩
          go_wp2_with fail
          refine hi1.mono ?_
          rintro e w' ⟨rfl, rfl⟩
          go_wp2_with fail
          refine ⟨⟨k + 1, by omega, by go_num, ?_⟩, by simp [intOf]; omega⟩
          intro j hj hjk
          by_cases e : j = k
          · subst e; rw [HY.out, HBK.out]; rfl
          · exact HN.out j hj (by omega)
    · obtain rfl : k = l.length := by omega
      have hany : l.any badK = false := by
        rw [List.any_eq_false]
        intro x hx
        obtain ⟨j, hj, rfl⟩ := List.getElem_of_mem hx
        rw [HN.out j hj hj]; simp
      rw [hany] at HR
      have hrem : ((l.length : Int) % 2 == 0) = decide (l.length % 2 = 0) := by
        rw [Bool.eq_iff_iff]; simp; omega
      have hle : decide ((l.length : Int) ≤ 16) = decide (l.length ≤ 16) := decide_eq_decide.2 (by omega)
      clear hany
      have HRM := hid hrem
      have HLE := hid hle
      clear hrem hle
      cases hd0 : ((l.length : Int) % 2 == 0) with
      | false =>
        have hq : rb = false := by rw [HR.out, ← HRM.out, hd0]; rfl
        have HQ := hid hq
        clear hq
        go_wp2_with fail
        go_ret
        exact ⟨ret_bool HQ.out.symm, rfl⟩
      | true =>
        cases hd1 : decide ((l.length : Int) ≤ 16) with
        | false =>
          have hq : rb = false := by rw [HR.out, ← HRM.out, hd0, ← HLE.out, hd1]; rfl
          have HQ := hid hq
          clear hq
          go_wp2_with fail
          go_ret
          exact ⟨ret_bool HQ.out.symm, rfl⟩
        | true =>
          have hq : rb = true := by rw [HR.out, ← HRM.out, hd0, ← HLE.out, hd1]; rfl
          have HQ := hid hq
          clear hq
          go_wp2_with fail
          go_ret
          exact ⟨ret_bool HQ.out.symm, rfl⟩
end Go.Proofs.YtjjphiecjhijiaaDoor
namespace Go.Proofs.YtjjphiecjhijiaaDoor
open Go.RowKit

/-- A slice of ints as the source of an append. -/
theorem src_SlI {w : World} {rv : Value} {row : List Int} (hr : SlI w rv row) : Src Tryd.prog 1 22 rv row.length (row.map (.int .i64)) w := by
  obtain ⟨ad, cap, rfl, hl, hcc⟩ := hr.open
  have hone : ∀ u ∈ row.map (Value.int .i64), u.oneCell' = true := by
    intro u hu
    obtain ⟨z, _, rfl⟩ := List.mem_map.1 hu
    rfl
  cases ad with
  | none =>
    have h0 : row = [] := by
      by_cases h : 0 < row.length
      · obtain ⟨b, off, e, _⟩ := hcc 0 h
        cases e
      · exact List.length_eq_zero_iff.1 (by omega)
    subst h0
    exact Src.ofNil w Tryd.underlying22 cap
  | some a =>
    refine Src.ofSlice w Tryd.underlying22 a row.length cap _ (by simp) ?_ hone
    intro j u hu
    rw [List.getElem?_map] at hu
    by_cases hj : j < row.length
    · obtain ⟨b, off, e, _, hc⟩ := hcc j hj
      obtain rfl := Option.some.inj e
      rw [List.getElem?_eq_getElem hj] at hu
      have hu' := Option.some.inj hu
      rw [← hu', Addr.add_lit]
      exact hc j hj
    · rw [List.getElem?_eq_none (by omega)] at hu; cases hu
/-- append(own, row...), whatever the row's length: at the operation. -/
theorem wp_append_ints {o : Oper} {a : Act} {K : Act → World → Prop} {Q : Exit → Act → World → Prop} (w : World) (s x : Operand)
    (ho : o.op = .call { callee := .builtin .append, args := #[s, x], argTypes := #[22, 22] }) (base : Nat) (v : Value) (n : Nat) (xs : List Value) (hs : a.eval s = v) (hown : w.ownsRow base 3 1 v n xs)
    (rv : Value) (row : List Int) (hx : a.eval x = rv) (hr : SlI w rv row) (hsm : n + row.length ≤ 1000) (hbase : base ≤ w.heap.size) (N : Nat) (ys : List Value) (hN : n + row.length = N) (hys : xs ++ row.map (.int .i64) = ys)
    (h : ∀ v' w', w'.ownsRow base 3 1 v' N ys → w.grownBy w' v.ownBlock → K (a.put o.dst v') w') : o.wp Tryd.prog a w K Q := by
  subst hN hys
  obtain ⟨i0, hi, hz0, hz1, hz2⟩ := info_parts info3
  by_cases h0 : row = []
  · subst h0
    obtain ⟨ad, cap, hv, hle⟩ : ∃ ad cap, v = .slice ad n cap ∧ n ≤ cap := by
      rcases hown.2 with ⟨e, h0⟩ | ⟨g, cap, cur, e, _, _, hle, _⟩
      · exact ⟨none, 0, by rw [e, h0], by omega⟩
      · exact ⟨_, cap, e, hle⟩
    have hsrc := src_SlI hr
    have hrun := run_append_nothing (P := Tryd.prog) w 22 22 o.type 3 i0 Tryd.underlying22 hi ad n cap hle rv (by rw [hz1]; exact hsrc)
    rw [← hv] at hrun
    unfold Oper.wp execOp
    simp only [ho, resolve, invoke, builtin, Sem.run_bind, Sem.run_pure, Result.andThen_ok, List.map_toArray, List.map_cons, List.map_nil, hs, hx, hrun]
    exact h v w (by simpa using hown) ⟨rfl, rfl, rfl, Nat.le_refl _, fun _ _ _ => rfl⟩
  · obtain ⟨ad, cap, rfl, hl, hcc⟩ := hr.open
    have hp : 0 < row.length := List.length_pos_iff.2 h0
    obtain ⟨b, off, rfl, hb, hc⟩ := hcc 0 hp
    refine wp_append_lies w s x 22 ho base 3 i0 (.int .i64 0) 1 8 Tryd.underlying22 hi hz0 hz1 hz2 rfl (by omega) v n xs hs hown ⟨b, off, none⟩ row.length cap (row.map (.int .i64)) hx (by simp) ?_ ?_ hp (by unfold maxLen; omega) (by omega) hbase w.heap.size rfl (fun g cap w' h1 h2 _ _ => h _ w' h1 h2)
    · intro j u hu
      rw [List.getElem?_map] at hu
      by_cases hj : j < row.length
      · rw [List.getElem?_eq_getElem hj] at hu
        have hu' := Option.some.inj hu
        rw [← hu', Addr.add_lit]
        exact hc j hj
      · rw [List.getElem?_eq_none (by omega)] at hu; cases hu
    · intro u hu
      obtain ⟨z, _, rfl⟩ := List.mem_map.1 hu
      rfl
theorem step_append_ints {ops : Array Oper} {o : Oper} {a : Act} {K : Act → World → Prop} {Q : Exit → Act → World → Prop} {E : Prop} (w : World) (hgd : o.guard = none) (s x : Operand)
    (ho : o.op = .call { callee := .builtin .append, args := #[s, x], argTypes := #[22, 22] }) (base : Nat) (v : Value) (n : Nat) (xs : List Value) (hs : a.eval s = v) (hown : w.ownsRow base 3 1 v n xs)
    (rv : Value) (row : List Int) (hx : a.eval x = rv) (hr : SlI w rv row) (hsm : n + row.length ≤ 1000) (hbase : base ≤ w.heap.size) (N : Nat) (ys : List Value) (hN : n + row.length = N) (hys : xs ++ row.map (.int .i64) = ys)
    (h : ∀ v' w', w'.ownsRow base 3 1 v' N ys → w.grownBy w' v.ownBlock → K (a.put o.dst v') w') : if Region.wanted o (yielded ops a.tmps) = true then Oper.wp Tryd.prog o a w K Q else E := by
  have hw : Region.wanted o (yielded ops a.tmps) = true := by simp [Region.wanted, hgd]
  rw [if_pos hw]
  exact wp_append_ints w s x ho base v n xs hs hown rv row hx hr hsm hbase N ys hN hys h
end Go.Proofs.YtjjphiecjhijiaaDoor
namespace Go.Proofs.YtjjphiecjhijiaaDoor
open Go.RowKit

/-- A slice of pairs as the source of an append. -/
theorem src_SlK {w : World} {rv : Value} {row : List (Int × Int)} (hr : SlK w rv row) : Src Tryd.prog 2 43 rv row.length (row.flatMap cells2) w := by
  have hone : ∀ u ∈ row.flatMap cells2, u.oneCell' = true := by
    intro u hu
    obtain ⟨z, _, hz⟩ := List.mem_flatMap.1 hu
    simp [cells2] at hz
    rcases hz with rfl | rfl <;> rfl
  obtain ⟨a, cap, rfl, hn, hc⟩ := hr
  rcases hc with hc | ⟨b, off, rfl, hlt, hc⟩
  · obtain rfl : row = [] := List.length_eq_zero_iff.1 (by simpa using hc)
    cases a with
    | none => exact Src.ofNil w Tryd.underlying43 cap
    | some a => exact Src.ofSlice w Tryd.underlying43 a 0 cap [] (by simp) (by simp) (by simp)
  · refine Src.ofSlice w Tryd.underlying43 _ row.length cap _ (by rw [cells2_length]) ?_ hone
    intro j u hu
    obtain ⟨h1, h2⟩ := List.getElem?_eq_some_iff.1 hu
    rw [← h2, Addr.add_lit]
    exact hc j h1
/-- append(own, pairs...), whatever their number: at the operation. -/
theorem wp_append_pairs {o : Oper} {a : Act} {K : Act → World → Prop} {Q : Exit → Act → World → Prop} (w : World) (s x : Operand)
    (ho : o.op = .call { callee := .builtin .append, args := #[s, x], argTypes := #[43, 43] }) (base : Nat) (v : Value) (n : Nat) (xs : List Value) (hs : a.eval s = v) (hown : w.ownsRow base 33 2 v n xs)
    (rv : Value) (row : List (Int × Int)) (hx : a.eval x = rv) (hr : SlK w rv row) (hsm : n + row.length ≤ 1000) (hbase : base ≤ w.heap.size) (N : Nat) (ys : List Value) (hN : n + row.length = N) (hys : xs ++ row.flatMap cells2 = ys)
    (h : ∀ v' w', w'.ownsRow base 33 2 v' N ys → w.grownBy w' v.ownBlock → K (a.put o.dst v') w') : o.wp Tryd.prog a w K Q := by
  subst hN hys
  obtain ⟨i0, hi, hz0, hz1, hz2⟩ := info_parts info33
  by_cases h0 : row = []
  · subst h0
    obtain ⟨ad, cap, hv, hle⟩ : ∃ ad cap, v = .slice ad n cap ∧ n ≤ cap := by
      rcases hown.2 with ⟨e, h0⟩ | ⟨g, cap, cur, e, _, _, hle, _⟩
      · exact ⟨none, 0, by rw [e, h0], by omega⟩
      · exact ⟨_, cap, e, hle⟩
    have hsrc := src_SlK hr
    have hrun := run_append_nothing (P := Tryd.prog) w 43 43 o.type 33 i0 Tryd.underlying43 hi ad n cap hle rv (by rw [hz1]; exact hsrc)
    rw [← hv] at hrun
    unfold Oper.wp execOp
    simp only [ho, resolve, invoke, builtin, Sem.run_bind, Sem.run_pure, Result.andThen_ok, List.map_toArray, List.map_cons, List.map_nil, hs, hx, hrun]
    exact h v w (by simpa using hown) ⟨rfl, rfl, rfl, Nat.le_refl _, fun _ _ _ => rfl⟩
  · have hp : 0 < row.length := List.length_pos_iff.2 h0
    have hone : ∀ u ∈ row.flatMap cells2, u.oneCell' = true := by
      intro u hu
      obtain ⟨z, _, hz⟩ := List.mem_flatMap.1 hu
      simp [cells2] at hz
      rcases hz with rfl | rfl <;> rfl
    obtain ⟨ad, cap, rfl, hn, hc⟩ := hr
    rcases hc with hc | ⟨b, off, rfl, hlt, hc⟩
    · omega
    · refine wp_append_lies w s x 43 ho base 33 i0 (.agg #[.int .i64 0, .int .i64 0]) 2 16 Tryd.underlying43 hi hz0 hz1 hz2 rfl (by omega) v n xs hs hown ⟨b, off, none⟩ row.length cap (row.flatMap cells2) hx (by rw [cells2_length]) ?_ hone hp (by unfold maxLen; omega) (by omega) hbase w.heap.size rfl (fun g cap w' h1 h2 _ _ => h _ w' h1 h2)
      intro j u hu
      obtain ⟨h1, h2⟩ := List.getElem?_eq_some_iff.1 hu
      rw [← h2, Addr.add_lit]
      exact hc j h1
theorem step_append_pairs {ops : Array Oper} {o : Oper} {a : Act} {K : Act → World → Prop} {Q : Exit → Act → World → Prop} {E : Prop} (w : World) (hgd : o.guard = none) (s x : Operand)
    (ho : o.op = .call { callee := .builtin .append, args := #[s, x], argTypes := #[43, 43] }) (base : Nat) (v : Value) (n : Nat) (xs : List Value) (hs : a.eval s = v) (hown : w.ownsRow base 33 2 v n xs)
    (rv : Value) (row : List (Int × Int)) (hx : a.eval x = rv) (hr : SlK w rv row) (hsm : n + row.length ≤ 1000) (hbase : base ≤ w.heap.size) (N : Nat) (ys : List Value) (hN : n + row.length = N) (hys : xs ++ row.flatMap cells2 = ys)
    (h : ∀ v' w', w'.ownsRow base 33 2 v' N ys → w.grownBy w' v.ownBlock → K (a.put o.dst v') w') : if Region.wanted o (yielded ops a.tmps) = true then Oper.wp Tryd.prog o a w K Q else E := by
  have hw : Region.wanted o (yielded ops a.tmps) = true := by simp [Region.wanted, hgd]
  rw [if_pos hw]
  exact wp_append_pairs w s x ho base v n xs hs hown rv row hx hr hsm hbase N ys hN hys h
end Go.Proofs.YtjjphiecjhijiaaDoor
namespace Go.Proofs.YtjjphiecjhijiaaDoor
open Go.RowKit

theorem made_pair (w : World) (base : Nat) (a b : Int) (hb : base ≤ w.heap.size) : (w.alloc (.cells #[.int .i64 a, .int .i64 b] 33)).ownsRow base 33 2 (.slice (some ⟨w.heap.size, 0, none⟩) 1 1) 1 [.int .i64 a, .int .i64 b] :=
  ⟨rfl, .inr ⟨w.heap.size, 1, _, rfl, hb, heap_alloc_new w _, Nat.le_refl _, by decide, rfl, rfl⟩⟩
def PairQ (m : Int) (out : List (Int × Int)) (w : World) (e : Ending) (w' : World) : Prop := ∃ v, e = .returned (.tuple #[v, .int .i64 m]) ∧ SlK w' v out ∧ Below w.heap.size w w'
/-- What paired has found, with the first j of the rest tried. -/
def outB (lm : List (Int × Int)) (n a : Nat) (rest pre : List Nat) : List (Int × Int) :=
  if pre = [] then [] else ((a : Int), ((foldB lm n a rest pre).2 : Int)) :: pairsL lm n (rest.erase (foldB lm n a rest pre).2)
theorem outB_all (lm : List (Int × Int)) (n a : Nat) (rest : List Nat) (h : rest ≠ []) : outB lm n a rest rest = pairsL lm (n + 1) (a :: rest) := by
  unfold outB; rw [if_neg h]; rfl
theorem foldB_all (lm : List (Int × Int)) (n a : Nat) (rest : List Nat) : foldB lm n a rest rest = mB lm (n + 1) (a :: rest) := rfl
theorem nil_SlK (w : World) : SlK w (.slice none 0 0) [] := ⟨none, 0, rfl, by simp, .inl rfl⟩
theorem erase_at (rest : List Nat) (hd : rest.Nodup) (j : Nat) (h : j < rest.length) : rest.erase rest[j] = rest.take j ++ rest.drop (j + 1) := by
  have hsplit : rest = rest.take j ++ rest[j] :: rest.drop (j + 1) := by rw [← List.drop_eq_getElem_cons h, List.take_append_drop]
  have hn : rest[j] ∉ rest.take j := by
    intro hm
    rw [hsplit, List.nodup_append] at hd
    exact hd.2.2 _ hm _ List.mem_cons_self rfl
  conv => lhs; arg 1; rw [hsplit]
  rw [List.erase_append_right _ hn, List.erase_cons_head]
/-- A part of an own slice. -/
theorem own_part {w : World} {base g n cap c i k : Nat} {l : List Int} (h : w.ownsRow base 3 1 (.slice (some ⟨g, 0, none⟩) n cap) n (l.map (.int .i64))) (hik : i + k ≤ n) (hn : n ≤ 1000) : SlI w (.slice (some ⟨g, i, none⟩) k c) ((l.drop i).take k) := by
  have hl : l.length = n := by have := h.1; simpa using this
  have hlen : ((l.drop i).take k).length = k := by simp; omega
  obtain ⟨g2, cap2, e, _, hg⟩ | h0 : (∃ g2 cap2, Value.slice (some ⟨g, 0, none⟩) n cap = .slice (some ⟨g2, 0, none⟩) n cap2 ∧ base ≤ g2 ∧ g2 < w.heap.size) ∨ n = 0 := by
    by_cases h0 : n = 0
    · exact .inr h0
    · exact .inl (h.form (by omega))
  · obtain ⟨e1, -, -⟩ := Value.slice.inj e
    obtain rfl : g = g2 := by have := Option.some.inj e1; injection this
    refine ⟨some ⟨g, i, none⟩, c, by rw [hlen], by omega, .inr ⟨g, i, rfl, hg, fun q hq => ?_⟩⟩
    simp only [List.length_map, hlen] at hq
    rw [h.cellAt (i + q) (by omega)]
    simp [List.getElem?_eq_getElem (show i + q < l.length by omega)]
  · exact ⟨some ⟨g, i, none⟩, c, by rw [hlen], by omega, .inl (by omega)⟩
theorem outB_new {lm : List (Int × Int)} (n a : Nat) (rest pre : List Nat) (b : Nat) (hc : (foldB lm n a rest pre).1 < 0 ∨ (mB lm n (rest.erase b)).1 + difM lm a b < (foldB lm n a rest pre).1) :
    outB lm n a rest (pre ++ [b]) = ((a : Int), (b : Int)) :: pairsL lm n (rest.erase b) ∧ (foldB lm n a rest (pre ++ [b])).1 = (mB lm n (rest.erase b)).1 + difM lm a b := by
  have e : foldB lm n a rest (pre ++ [b]) = ((mB lm n (rest.erase b)).1 + difM lm a b, b) := by rw [foldB_snoc]; unfold stepB; rw [if_pos hc]
  unfold outB
  rw [if_neg (by simp), e]
  exact ⟨rfl, rfl⟩
theorem outB_old {lm : List (Int × Int)} (n a : Nat) (rest pre : List Nat) (b : Nat) (hc : ¬ ((foldB lm n a rest pre).1 < 0 ∨ (mB lm n (rest.erase b)).1 + difM lm a b < (foldB lm n a rest pre).1)) :
    outB lm n a rest (pre ++ [b]) = outB lm n a rest pre ∧ (foldB lm n a rest (pre ++ [b])).1 = (foldB lm n a rest pre).1 := by
  have e : foldB lm n a rest (pre ++ [b]) = foldB lm n a rest pre := by rw [foldB_snoc]; unfold stepB; rw [if_neg hc]
  have e0 : pre ≠ [] := by
    rintro rfl
    exact hc (.inl (by simp [foldB]))
  unfold outB
  rw [if_neg (by simp), if_neg e0, e]
  exact ⟨rfl, rfl⟩

set_option maxRecDepth 100000 in
set_option maxHeartbeats 2000000 in
/-- besomref12.paired -/
theorem paired_any (lm : List (Int × Int)) (hm : mOk lm) : ∀ (n base : Nat) (lv kv : Value) (left : List Nat) (w : World), SlK w lv lm → w.ownsRow base 3 1 kv left.length ((left.map fun (x : Nat) => (x : Int)).map (.int .i64)) → left.Nodup → (∀ x ∈ left, x < lm.length) → left.length = 2 * n → n ≤ 10 →
    Calls Tryd.prog 53 #[lv, kv] w (PairQ (mB lm n left).1 (pairsL lm n left) w) := by
  intro n
  induction n with
  | zero =>
    intro base lv kv left w hk hs hd hlt hl hn10
    obtain rfl : left = [] := List.length_eq_zero_iff.1 (by omega)
    obtain ⟨a2, cap2, rfl⟩ := own_form hs
    clear hk hs hd hlt
    go_enter Tryd.func53, Tryd.ntmps53
    go_wp2_with fail
    go_ret2
    exact ⟨_, rfl, nil_SlK _, Below.refl _ _⟩
  | succ n ih =>
    intro base lv kv left w hk hs hd hlt hl hn10
    obtain ⟨a, rest, rfl⟩ : ∃ a rest, left = a :: rest := by
      cases left with
      | nil => simp at hl
      | cons a rest => exact ⟨a, rest, rfl⟩
    have HK := hid hk
    have HS := hid hs
    have HIH := hid ih
    have HD := hid hd
    have HRD := hid (show rest.Nodup from (List.nodup_cons.1 hd).2)
    have HLT := hid hlt
    have hrl : rest.length = 2 * n + 1 := by simp at hl; omega
    have hl2 : (a :: rest).length = rest.length + 1 := by simp
    obtain ⟨ak, capk, rfl, hlk, -⟩ := hk.open
    obtain ⟨gr, capr, rfl, hgb, hgl⟩ := hs.form (by simp)
    have hcap : rest.length + 1 ≤ capr := by
      rcases hs.2 with ⟨e, _⟩ | ⟨g, cap, cur, e, _, _, hle, _⟩
      · cases e
      · obtain ⟨-, -, rfl⟩ := Value.slice.inj e
        simpa using hle
    rw [hl2] at HS ⊢
    have hlen20 : rest.length ≤ 20 := by simp at hl; omega
    have HRL := hid hlen20
    have HOA := hid (outB_all lm n a rest (by rintro rfl; simp at hrl))
    rw [← foldB_all, ← HOA.out]
    have HRN := hid hrl
    have hr1 : 1 ≤ rest.length := by omega
    have hnz : ((rest.length : Int) + 1 == 0) = false := by simp; omega
    clear hk hs hd hlt ih hl hl2 hrl
    go_enter Tryd.func53, Tryd.ntmps53
    go_wp2_with fail
    go_loopw [6, 7, 8] (fun o m i wr => ∃ j : Nat, j ≤ rest.length ∧ i = .int .i64 (j + 1 : Nat) ∧ m = .int .i64 (foldB lm n a rest (rest.take j)).1 ∧ SlK wr o (outB lm n a rest (rest.take j)) ∧ Below w.heap.size w wr) (fun _ _ i _ => rest.length + 1 - (intOf i).toNat)
    case atStart => exact ⟨0, Nat.zero_le _, rfl, rfl, nil_SlK _, Below.refl _ _⟩
    case round =>
      obtain ⟨j, hj, rfl, rfl, hso, hbr⟩ := hrel
      obtain ⟨w2, rfl⟩ : ∃ w2 : World, w2 = wr := ⟨_, rfl⟩
      have HSO := hid hso
      have HB := hid hbr
      clear hso hbr
      by_cases hjn : j < rest.length
      · have hi1 : ((j + 1 : Nat) : Int) < ((rest.length + 1 : Nat) : Int) := by omega
        have hc0 : ¬ capr = 1 := by omega
        have hc1 : j + 1 ≤ capr := by omega
        have hc2 : (1 : Int) ≤ ((j + 1 : Nat) : Int) := by omega
        generalize hj1 : j + 1 = j1 at *
        have hwj : IntKind.i64.wrap ((j1 : Int) + 1) = ((j1 + 1 : Nat) : Int) := by rw [IntWalk.i64_in _ (by have := HRL.out; omega)]; rfl
        have hq1 : (0 : Int) ≤ (j1 : Int) + 1 := by omega
        have hq2 : (j1 : Int) ≤ (rest.length : Int) := by omega
        have HJ1 := hid hj1
        clear hj1
        have HSA := hid (fun (c : Nat) w' (h : Below w2.heap.size w2 w') => show SlI w' (.slice (some ⟨gr, 1, none⟩) (j1 - 1) c) ((rest.take j).map fun (x : Nat) => (x : Int)) from by
          have h1 := own_part (i := 1) (k := j1 - 1) (c := c) (own_below HS.out (HB.out.trans (h.mono HB.out.size))) (by omega) (by have := HRL.out; omega)
          have e : j1 - 1 = j := by have := HJ1.out; omega
          rw [show ((((a :: rest).map fun (x : Nat) => (x : Int)).drop 1).take (j1 - 1)) = (rest.take j).map fun (x : Nat) => (x : Int) by rw [e]; simp [List.map_take]] at h1
          exact h1)
        have HSB := hid (fun (c : Nat) w' (h : Below w2.heap.size w2 w') => show SlI w' (.slice (some ⟨gr, j1 + 1, none⟩) (rest.length - j1) c) ((rest.drop (j + 1)).map fun (x : Nat) => (x : Int)) from by
          have hj1l : j1 ≤ rest.length := by have := HJ1.out; omega
          have h1 := own_part (i := j1 + 1) (k := rest.length - j1) (c := c) (own_below HS.out (HB.out.trans (h.mono HB.out.size))) (by omega) (by have := HRL.out; omega)
          rw [show ((((a :: rest).map fun (x : Nat) => (x : Int)).drop (j1 + 1)).take (rest.length - j1)) = (rest.drop (j + 1)).map fun (x : Nat) => (x : Int) by
            rw [HJ1.out, List.map_cons, List.drop_succ_cons, ← List.map_drop]
            exact List.take_of_length_le (by simp)] at h1
          exact h1)
        go_upto_region 8 with fail
        go_cut [9] (fun v wx => wx.ownsRow w2.heap.size 3 1 v (rest.length - 1) (((rest.erase rest[j]).map fun (x : Nat) => (x : Int)).map (.int .i64)) ∧ Below w2.heap.size w2 wx)
        case first =>
          by_cases hce : capr = j1 + 1
          · have HSB := hid (fun (c : Nat) w' (h : Below w2.heap.size w2 w') => show SlI w' (.slice (some ⟨gr, 0, none⟩) (rest.length - j1) c) ((rest.drop (j + 1)).map fun (x : Nat) => (x : Int)) from by
              have h1 := own_part (i := 0) (k := 0) (c := c) (own_below HS.out (HB.out.trans (h.mono HB.out.size))) (by omega) (by have := HRL.out; omega)
              have e : rest.length - j1 = 0 := by omega
              have e2 : rest.drop (j + 1) = [] := List.drop_eq_nil_iff.2 (by have := HJ1.out; omega)
              rw [e, e2]
              simpa using h1)
            have hce' : (capr = j1 + 1) = True := eq_true hce
            have hce2 : capr ≤ j1 + 1 := by omega
            clear hce
            go_region_law (first
              | (refine step_append_ints _ rfl (.tmp 21) (.tmp 24) rfl w2.heap.size _ 0 [] rfl (own_below (World.ownsRow_made w2 #[] 0 (Nat.le_refl _) (by decide) rfl) (by repeat first | exact Below.refl _ _ | refine Below.drew ?_)) _ ((rest.take j).map fun (x : Nat) => (x : Int)) rfl (HSA.out _ _ (by repeat first | exact Below.refl _ _ | refine Below.drew ?_ | refine Below.alloc ?_ (by simp) _)) (by have := HRL.out; simp; omega) (by simp) j (((rest.take j).map fun (x : Nat) => (x : Int)).map (.int .i64)) (by simp; omega) rfl ?_; intro v5 w5 hown5 hg5; have hb5 : Below w2.heap.size w2 w5 := (by refine Below.grown ?_ hg5 ?_ ?_; (repeat first | exact Below.refl _ _ | refine Below.drew ?_ | refine Below.alloc ?_ (by simp) _); (simp); (intro r hr; have e : w2.heap.size = r := Option.some.inj hr; omega)))
              | (refine step_append_ints _ rfl (.tmp 25) (.tmp 29) rfl w2.heap.size v5 j _ rfl (own_below hown5 (by repeat first | exact Below.refl _ _ | refine Below.drew ?_)) _ ((rest.drop (j + 1)).map fun (x : Nat) => (x : Int)) rfl (HSB.out _ _ (by repeat first | exact hb5 | refine Below.drew ?_)) (by have := HRL.out; simp; omega) (by have := hb5.size; simpa using this) (rest.length - 1) _ (by simp; omega) rfl ?_; intro v6 w6 hown6 hg6; have hb6 : Below w2.heap.size w2 w6 := (by refine Below.grown ?_ hg6 ?_ ?_; (repeat first | exact hb5 | refine Below.drew ?_); (have := hb5.size; simpa using this); (intro r hr; exact (hown5.lt r hr).1))))
            all_goals
              go_wp2_with fail
              go_meet
              refine ⟨?_, hb6⟩
              rw [erase_at rest HRD.out j hjn, List.map_append, List.map_append]
              exact hown6
          · go_region_law (first
              | (refine step_append_ints _ rfl (.tmp 21) (.tmp 24) rfl w2.heap.size _ 0 [] rfl (own_below (World.ownsRow_made w2 #[] 0 (Nat.le_refl _) (by decide) rfl) (by repeat first | exact Below.refl _ _ | refine Below.drew ?_)) _ ((rest.take j).map fun (x : Nat) => (x : Int)) rfl (HSA.out _ _ (by repeat first | exact Below.refl _ _ | refine Below.drew ?_ | refine Below.alloc ?_ (by simp) _)) (by have := HRL.out; simp; omega) (by simp) j (((rest.take j).map fun (x : Nat) => (x : Int)).map (.int .i64)) (by simp; omega) rfl ?_; intro v5 w5 hown5 hg5; have hb5 : Below w2.heap.size w2 w5 := (by refine Below.grown ?_ hg5 ?_ ?_; (repeat first | exact Below.refl _ _ | refine Below.drew ?_ | refine Below.alloc ?_ (by simp) _); (simp); (intro r hr; have e : w2.heap.size = r := Option.some.inj hr; omega)))
              | (refine step_append_ints _ rfl (.tmp 25) (.tmp 29) rfl w2.heap.size v5 j _ rfl (own_below hown5 (by repeat first | exact Below.refl _ _ | refine Below.drew ?_)) _ ((rest.drop (j + 1)).map fun (x : Nat) => (x : Int)) rfl (HSB.out _ _ (by repeat first | exact hb5 | refine Below.drew ?_)) (by have := HRL.out; simp; omega) (by have := hb5.size; simpa using this) (rest.length - 1) _ (by simp; omega) rfl ?_; intro v6 w6 hown6 hg6; have hb6 : Below w2.heap.size w2 w6 := (by refine Below.grown ?_ hg6 ?_ ?_; (repeat first | exact hb5 | refine Below.drew ?_); (have := hb5.size; simpa using this); (intro r hr; exact (hown5.lt r hr).1))))
            all_goals
              go_wp2_with fail
              go_meet
              refine ⟨?_, hb6⟩
              rw [erase_at rest HRD.out j hjn, List.map_append, List.map_append]
              exact hown6
        case rest =>
          obtain ⟨hown9, hb9⟩ := hcut
          have HO9 := hid hown9
          have HB9 := hid hb9
          obtain ⟨ad9, cap9, rfl⟩ := own_form hown9
          have HCA := hid (HIH.out w2.heap.size (.slice ak lm.length capk) _ (rest.erase rest[j]) wc (HK.out.below (HB.out.trans (HB9.out.mono HB.out.size))) (by rw [List.length_erase_of_mem (List.getElem_mem _)]; exact HO9.out) (HRD.out.erase _) (fun x hx => HLT.out x (List.mem_cons_of_mem _ (List.mem_of_mem_erase hx))) (by rw [List.length_erase_of_mem (List.getElem_mem _)]; have := HRN.out; omega) (by omega))
          clear hown9 hb9
          go_wp2_with fail
          refine HCA.out.mono ?_
          rintro e w7 ⟨v7, rfl, hs7, hb7⟩
          have hb27 := HB9.out.trans (hb7.mono HB9.out.size)
          have HB7 := hid (HB.out.trans (hb27.mono HB.out.size))
          have HSO7 := hid (HSO.out.below hb27)
          have HS7 := hid hs7
          have hown7 := own_below HS.out HB7.out
          have z0 : w7.cell? ⟨gr, 0, none⟩ = some (.int .i64 (a : Int)) := by rw [hown7.cellAt 0 (by omega)]; simp
          have z1 : w7.cell? ⟨gr, j1, none⟩ = some (.int .i64 (rest[j] : Int)) := by rw [hown7.cellAt j1 (by have := HJ1.out; omega)]; rw [← HJ1.out]; simp [hjn]
          have hal : a < lm.length := HLT.out a (by simp)
          have hbl : rest[j] < lm.length := HLT.out _ (List.mem_cons_of_mem _ (List.getElem_mem _))
          obtain ⟨ak2, capk2, ek, -, hkc⟩ := (HK.out.below HB7.out).open
          obtain ⟨bk, offk, rfl, hbk, hkk⟩ := hkc a hal
          obtain ⟨e1, -, -⟩ := Value.slice.inj ek
          subst e1
          obtain ⟨ma0, ma1⟩ := hkk a hal
          obtain ⟨mb0, mb1⟩ := hkk rest[j] hbl
          clear hs7 hb7 hb27 hown7 hkc hkk ek
          have hta := hm a
          have htb := hm rest[j]
          have hma : mark lm a = lm[a] := by simp [mark, List.getD_eq_getElem?_getD, hal]
          have hmb : mark lm rest[j] = lm[rest[j]] := by simp [mark, List.getD_eq_getElem?_getD, hbl]
          rw [hma] at hta
          rw [hmb] at htb
          have HDF := hid (fun w' => refDiffer_any lm[a] lm[rest[j]] w' ⟨hta.1, hta.2.1⟩ hta.2.2 ⟨htb.1, htb.2.1⟩ htb.2.2)
          have HDM := hid (show difM lm a rest[j] = absI (lm[a].1 - lm[rest[j]].1) + absI (lm[a].2 - lm[rest[j]].2) by unfold difM; rw [hma, hmb])
          have hmd := mB_bd hm n (rest.erase rest[j]) (by rw [List.length_erase_of_mem (List.getElem_mem _)]; have := HRN.out; omega)
          have hdd := dif_bd hm a rest[j]
          have HTK := hid (show rest.take (j + 1) = rest.take j ++ [rest[j]] from List.take_succ_eq_append_getElem hjn)
          have HNEW := hid (outB_new (lm := lm) n a rest (rest.take j) rest[j])
          have HOLD := hid (outB_old (lm := lm) n a rest (rest.take j) rest[j])
          rw [← HTK.out] at HNEW HOLD
          have hal2 : (a : Int) < (lm.length : Int) := by omega
          have hbl2 : (rest[j] : Int) < (lm.length : Int) := by omega
          clear HCA HO9 hta htb hma hmb
          rw [← HDM.out] at HDF
          generalize difM lm a rest[j] = dv at *
          generalize (mB lm n (rest.erase rest[j])).1 = M at *
          have hM8 : M ≤ 20000000 := by omega
          have hwM : IntKind.i64.wrap (M + dv) = M + dv := IntWalk.i64_in _ (by omega)
          go_upto_region 10 with fail
          go_cut [11] (fun v wx => v = .int .i64 (M + dv) ∧ Below w7.heap.size w7 wx)
          case first =>
            go_region_held3 (fun w' => w'.cell? ⟨gr, 0, none⟩ = some (.int .i64 (a : Int)) ∧ w'.cell? ⟨gr, j1, none⟩ = some (.int .i64 (rest[j] : Int)) ∧ w'.cell? ⟨bk, offk + a * 2, none⟩ = some (.int .i64 lm[a].1) ∧ w'.cell? ⟨bk, offk + a * 2 + 1, none⟩ = some (.int .i64 lm[a].2) ∧ w'.cell? ⟨bk, offk + rest[j] * 2, none⟩ = some (.int .i64 lm[rest[j]].1) ∧ w'.cell? ⟨bk, offk + rest[j] * 2 + 1, none⟩ = some (.int .i64 lm[rest[j]].2))
              (first | exact ⟨z0, z1, ma0, ma1, mb0, mb1⟩ | exact ⟨bcs hbq z0, bcs hbq z1, bcs hbq ma0, bcs hbq ma1, bcs hbq mb0, bcs hbq mb1⟩ | go_keep)
              (first | (go_at_call 23; refine (HDF.out _).mono ?_; (rintro e w' ⟨rfl, hbq⟩)))
            all_goals
              go_wp2_with fail
              go_meet
              refine ⟨rfl, ?_⟩
              repeat' (first | exact Below.refl _ _ | apply drewNB | apply Below.drew | exact hbq | exact (drewNB (Below.refl _ _) _).trans hbq | exact ((Below.refl _ _).drew).trans hbq)
          case rest =>
            obtain ⟨rfl, hb10⟩ := hcut
            have HB10 := hid (HB7.out.trans (hb10.mono HB7.out.size))
            have HSO10 := hid (HSO7.out.below hb10)
            have HS10 := hid (HS7.out.below hb10)
            have y0 := bcs hb10 z0
            have y1 := bcs hb10 z1
            have hFb := foldB_bd hm n a rest (rest.take j) HRN.out (fun b hb => List.mem_of_mem_take hb)
            clear z0 z1 ma0 ma1 mb0 mb1 hb10 HDF hwM
            generalize (foldB lm n a rest (rest.take j)).1 = F at *
            by_cases hF : F < 0
            · have hFd : decide (F < 0) = true := by simp [hF]
              have HX := hid (HNEW.out (.inl hF))
              clear HNEW HOLD
              have hpl : (pairsL lm n (rest.erase rest[j])).length ≤ 10 := by have := pairsL_length lm n (rest.erase rest[j]); omega
              go_upto_region 13 with fail
              go_region_law (refine step_append_pairs _ rfl (.tmp 69) (.tmp 70) rfl wc.heap.size _ 1 [.int .i64 (a : Int), .int .i64 (rest[j] : Int)] rfl (own_below (made_pair _ _ _ _ (by simp)) (by repeat first | exact Below.refl _ _ | refine Below.drew ?_)) _ (pairsL lm n (rest.erase rest[j])) rfl (HS10.out.below (by repeat first | exact Below.refl _ _ | refine Below.drew ?_ | refine Below.alloc ?_ (by simp) _)) (by omega) (by simp) ((pairsL lm n (rest.erase rest[j])).length + 1) ((((a : Int), (rest[j] : Int)) :: pairsL lm n (rest.erase rest[j])).flatMap cells2) (by omega) (by simp [cells2]) ?_; intro v5 w5 hown5 hg5; have hb5 : Below wc.heap.size wc w5 := (by refine Below.grown ?_ hg5 ?_ ?_; (repeat first | exact Below.refl _ _ | refine Below.drew ?_ | refine Below.alloc ?_ (by simp) _); (simp); (intro r hr; have e : wc.heap.size = r := Option.some.inj hr; omega)))
              all_goals
                have H13 := hid (And.intro (own_SlK (l := ((a : Int), (rest[j] : Int)) :: pairsL lm n (rest.erase rest[j])) hown5 (by simp; omega)) (HB10.out.trans (hb5.mono HB10.out.size)))
                clear hown5 hb5 hg5 y0 y1 hpl
                go_wp2_with fail
                refine ⟨⟨j + 1, by omega, by rw [← HJ1.out]; go_num, by rw [HX.out.2], by rw [HX.out.1]; exact H13.out.1, H13.out.2⟩, by simp [intOf]; have := HJ1.out; omega⟩
            · have hFd : decide (F < 0) = false := by simp; omega
              by_cases hlt : M + dv < F
              · have hFe : decide (M + dv < F) = true := by simp [hlt]
                have HX := hid (HNEW.out (.inr hlt))
                clear HNEW HOLD
                have hpl : (pairsL lm n (rest.erase rest[j])).length ≤ 10 := by have := pairsL_length lm n (rest.erase rest[j]); omega
                go_upto_region 13 with fail
                go_region_law (refine step_append_pairs _ rfl (.tmp 69) (.tmp 70) rfl wc.heap.size _ 1 [.int .i64 (a : Int), .int .i64 (rest[j] : Int)] rfl (own_below (made_pair _ _ _ _ (by simp)) (by repeat first | exact Below.refl _ _ | refine Below.drew ?_)) _ (pairsL lm n (rest.erase rest[j])) rfl (HS10.out.below (by repeat first | exact Below.refl _ _ | refine Below.drew ?_ | refine Below.alloc ?_ (by simp) _)) (by omega) (by simp) ((pairsL lm n (rest.erase rest[j])).length + 1) ((((a : Int), (rest[j] : Int)) :: pairsL lm n (rest.erase rest[j])).flatMap cells2) (by omega) (by simp [cells2]) ?_; intro v5 w5 hown5 hg5; have hb5 : Below wc.heap.size wc w5 := (by refine Below.grown ?_ hg5 ?_ ?_; (repeat first | exact Below.refl _ _ | refine Below.drew ?_ | refine Below.alloc ?_ (by simp) _); (simp); (intro r hr; have e : wc.heap.size = r := Option.some.inj hr; omega)))
                all_goals
                  have H13 := hid (And.intro (own_SlK (l := ((a : Int), (rest[j] : Int)) :: pairsL lm n (rest.erase rest[j])) hown5 (by simp; omega)) (HB10.out.trans (hb5.mono HB10.out.size)))
                  clear hown5 hb5 hg5 y0 y1 hpl
                  go_wp2_with fail
                  refine ⟨⟨j + 1, by omega, by rw [← HJ1.out]; go_num, by rw [HX.out.2], by rw [HX.out.1]; exact H13.out.1, H13.out.2⟩, by simp [intOf]; have := HJ1.out; omega⟩
              · have hFe : decide (M + dv < F) = false := by simp; omega
                have HX := hid (HOLD.out (fun hc => by rcases hc with hc | hc; exact hF hc; exact hlt hc))
                clear HNEW HOLD y0 y1
                go_wp2_with fail
                refine ⟨⟨j + 1, by omega, by rw [← HJ1.out]; go_num, by rw [HX.out.2], by rw [HX.out.1]; exact HSO10.out, HB10.out⟩, by simp [intOf]; have := HJ1.out; omega⟩
      · obtain rfl : j = rest.length := by omega
        have hso := HSO.out
        rw [List.take_length] at hso ⊢
        rw [HOA.out] at hso
        have HSO2 := hid hso
        clear hso
        go_wp2_with fail
        go_ret2
        exact ⟨_, rfl, by rw [HOA.out]; exact HSO2.out, HB.out⟩
end Go.Proofs.YtjjphiecjhijiaaDoor
/- besomref12.Match and besomlaw12.PlantMatches walked. -/
namespace Go.Proofs.YtjjphiecjhijiaaDoor
open Go.RowKit Go.Maps

set_option maxRecDepth 100000 in
set_option maxHeartbeats 1000000 in
/-- besomref12.Match -/
theorem refMatch_any (v : Value) (lm : List (Int × Int)) (w : World) (hs : SlK w v lm) : Calls Tryd.prog 20 #[v] w (MatchPost lm w) := by
  have HS := hid hs
  obtain ⟨a, cap, rfl, hll, -⟩ := hs.open
  have HM := hid (refMarks_any _ lm w hs)
  have HR := hid (show matchR lm = if marksB lm then (pairsL lm (lm.length / 2) (List.range lm.length), (mB lm (lm.length / 2) (List.range lm.length)).1, 0) else ([], 0, 2) from rfl)
  have HMB := hid (show marksB lm = (decide (lm.length % 2 = 0) && (decide (lm.length ≤ 16) && !lm.any badK)) from rfl)
  clear hs
  cases hmb : marksB lm with
  | false =>
    rw [hmb] at HM HR
    clear hmb HMB
    go_enter Tryd.func20, Tryd.ntmps20
    go_wp2_with fail
    refine HM.out.mono ?_
    rintro e w' ⟨rfl, rfl⟩
    go_wp2_with fail
    go_ret3
    have hr : matchR lm = ([], 0, 2) := by rw [HR.out]; rfl
    exact ⟨⟨_, by rw [hr]; rfl, by rw [hr]; exact ⟨none, 0, rfl, by simp, .inl rfl⟩⟩, Below.refl _ _⟩
  | true =>
    rw [hmb] at HM HR HMB
    have h := HMB.out.symm
    simp only [Bool.and_eq_true, decide_eq_true_eq, Bool.not_eq_true'] at h
    obtain ⟨h2, h16, hany⟩ := h
    have HOK := hid (mOk_of hany)
    have HRR := hid (show matchR lm = (pairsL lm (lm.length / 2) (List.range lm.length), (mB lm (lm.length / 2) (List.range lm.length)).1, 0) by rw [HR.out]; rfl)
    obtain ⟨n, hn⟩ : ∃ n, lm.length = 2 * n := ⟨lm.length / 2, by omega⟩
    have HN := hid hn
    obtain ⟨i0, hi, hz0, hz1, hz2⟩ := info_parts info3
    clear hmb hany HR HMB h2 hn
    go_enter Tryd.func20, Tryd.ntmps20
    go_wp2_with fail
    refine HM.out.mono ?_
    rintro e w' ⟨rfl, rfl⟩
    go_wp2_with fail
    go_loopw [5, 6] (fun u i wr => ∃ k : Nat, k ≤ lm.length ∧ i = .int .i64 k ∧ wr.ownsRow w.heap.size 3 1 u k (((List.range k).map fun (x : Nat) => (x : Int)).map (.int .i64)) ∧ Below w.heap.size w wr) (fun _ i _ => lm.length - (intOf i).toNat)
    case atStart => exact ⟨0, Nat.zero_le _, rfl, World.ownsRow_nil _ _ _ _, Below.refl _ _⟩
    case round =>
      obtain ⟨k, hk, rfl, hown, hbr⟩ := hrel
      obtain ⟨w2, rfl⟩ : ∃ w2 : World, w2 = wr := ⟨_, rfl⟩
      have HO := hid hown
      have HB := hid hbr
      clear hown hbr
      by_cases hkl : k < lm.length
      · have HRG := hid (show ((List.range (k + 1)).map fun (x : Nat) => (x : Int)).map (Value.int .i64) = ((List.range k).map fun (x : Nat) => (x : Int)).map (Value.int .i64) ++ [.int .i64 (k : Int)] by rw [List.range_succ]; simp)
        go_wp2_with (at_builtin; refine wpList_append_lies _ rfl _ _ 22 rfl w.heap.size 3 i0 (.int .i64 0) 1 8 Tryd.underlying22 hi hz0 hz1 hz2 rfl (by omega) u5 k _ rfl (HO.out.alloc _) ⟨w2.heap.size, 0, none⟩ 1 1 [.int .i64 (k : Int)] rfl rfl (cell_one_new _ _ _) (ones _ rfl) (by omega) (by unfold maxLen; omega) (by omega) (by have := HB.out.size; simp; omega) (w2.heap.size + 1) (by simp) ?_; intro g6 cap6 w6 hown6 hgrow6 hat6 hlt6)
        have hb6 : Below w.heap.size w w6 := (HB.out.alloc HB.out.size _).grown hgrow6 (by have := HB.out.size; simp; omega) (fun q hq => (HO.out.lt q hq).1)
        exact ⟨⟨k + 1, by omega, by go_num, by rw [HRG.out]; exact hown6, hb6⟩, by simp [intOf]; omega⟩
      · obtain rfl : k = lm.length := by omega
        have HP := hid (paired_any lm HOK.out n w.heap.size (.slice a lm.length cap) u5 (List.range lm.length) w2 (HS.out.below HB.out) (by rw [List.length_range]; exact HO.out) List.nodup_range (by simp) (by rw [List.length_range]; exact HN.out) (by have := HN.out; omega))
        rw [show lm.length / 2 = n by have := HN.out; omega] at HRR
        go_wp2_with fail
        refine HP.out.mono ?_
        rintro e w3 ⟨v3, rfl, hs3, hb3⟩
        go_wp2_with fail
        go_ret3
        exact ⟨⟨_, by rw [HRR.out]; rfl, by rw [HRR.out]; exact hs3⟩, HB.out.trans (hb3.mono HB.out.size)⟩

def BoolM (v : Value) : Prop := ∃ b : Bool, v = .bool b
set_option maxRecDepth 100000 in
set_option maxHeartbeats 1000000 in
/-- besomlaw12.PlantMatches returns true. -/
theorem matches_any (v : Value) (lm : List (Int × Int)) (w : World) (hs : SlK w v lm) (hT : TabW w) : Calls Tryd.prog 5 #[v] w (True1 w) := by
  have HS := hid hs
  have HT := hid hT
  obtain ⟨a, cap, rfl, hll, -⟩ := hs.open
  clear hs hT
  generalize hb1 : decide ((lm.length : Int) > 10) = b1 at *
  generalize hb2 : decide ((lm.length : Int) ≤ 16) = b2 at *
  generalize hb3 : decide ((lm.length : Int) > 20) = b3 at *
  go_enter Tryd.func5, Tryd.ntmps5
  go_upto_region 1 with fail
  go_cut [21] (fun t wx => BoolM t ∧ wx = w)
  case first =>
    cases b1 <;> cases b2 <;> cases b3
    all_goals
      go_wp2_with fail
      go_meet
      exact ⟨⟨_, rfl⟩, rfl⟩
  case rest =>
    obtain ⟨⟨g, rfl⟩, rfl⟩ := hcut
    clear hb1 hb2 hb3 hll
    cases g with
    | true =>
      go_wp2_with fail
      refine (awake_any _ HT.out).mono ?_
      rintro e W2 ⟨rfl, hb2⟩
      have HB2 := hid hb2
      clear hb2
      go_wp2_with fail
      go_ret
      exact ⟨rfl, HB2.out⟩
    | false =>
      go_wp2_with fail
      refine (match_any _ lm _ HS.out HT.out).mono ?_
      rintro e W1 ⟨⟨v1, rfl, hs1⟩, hb1⟩
      have HS1 := hid hs1
      have HB1 := hid hb1
      clear hs1 hb1
      go_wp2_with fail
      refine (refMatch_any _ lm W1 (HS.out.below HB1.out)).mono ?_
      rintro e W2 ⟨⟨v2, rfl, hs2⟩, hb2⟩
      have HS2 := hid hs2
      have HS1 := hid (HS1.out.below hb2)
      have HB2 := hid (HB1.out.trans (hb2.mono HB1.out.size))
      clear hs2 hb2
      have hcc : ((matchR lm).2.1 == (matchR lm).2.1) = true := by simp
      have hee : ((matchR lm).2.2 == (matchR lm).2.2) = true := by simp
      generalize (matchR lm).2.1 = C at *
      generalize (matchR lm).2.2 = E at *
      generalize (matchR lm).1 = L at *
      have HRF := hid (show (L == L) = true by simp)
      go_wp2_with fail
      refine (samePairs_any v1 v2 L L W2 HS1.out HS2.out).mono ?_
      rw [HRF.out]
      rintro e W5 ⟨rfl, d5, rfl⟩
      have HB5 := hid (drewNB HB2.out d5)
      generalize W2.drewN d5 = W5 at *
      go_wp2_with fail
      refine (awake_any W5 (HT.out.below' HB5.out)).mono ?_
      rintro e W6 ⟨rfl, hb6⟩
      have HB6 := hid (HB5.out.trans (hb6.mono HB5.out.size))
      clear hb6
      go_wp2_with fail
      go_ret
      exact ⟨rfl, HB6.out⟩
end Go.Proofs.YtjjphiecjhijiaaDoor
/- The plain law of pairs: no other pairs have a lesser sum, and the order of the stones does not count. -/
namespace Go.Proofs.YtjjphiecjhijiaaDoor
open Go.RowKit

/-- The sum of stones, pair by pair. -/
def sumP (lm : List (Int × Int)) : List Nat → Int
  | a :: b :: r => difM lm a b + sumP lm r
  | _ => 0
theorem dif_comm (lm : List (Int × Int)) (a b : Nat) : difM lm a b = difM lm b a := by unfold difM absI; omega
theorem two_ind {α : Type} {P : List α → Prop} (h0 : P []) (h1 : ∀ a, P [a]) (h2 : ∀ a b r, P r → P (a :: b :: r)) : ∀ l, P l
  | [] => h0
  | [a] => h1 a
  | a :: b :: r => h2 a b r (two_ind h0 h1 h2 r)
theorem sumP_bd {lm : List (Int × Int)} (hm : mOk lm) (l : List Nat) : 0 ≤ sumP lm l ∧ sumP lm l ≤ l.length * 1000000 := by
  induction l using two_ind with
  | h0 => simp [sumP]
  | h1 a => simp [sumP]
  | h2 a b r ih =>
    have := dif_bd hm a b
    simp only [sumP, List.length_cons]
    push_cast
    omega
theorem sumP_snoc (lm : List (Int × Int)) (l : List Nat) (x : Nat) : sumP lm (l ++ [x]) = sumP lm l + if l.length % 2 = 1 then difM lm (l.getD (l.length - 1) 0) x else 0 := by
  induction l using two_ind with
  | h0 => simp [sumP]
  | h1 a => simp [sumP]
  | h2 a b r ih =>
    simp only [List.cons_append, sumP, ih, List.length_cons]
    have e1 : (r.length + 1 + 1) % 2 = r.length % 2 := by omega
    rw [e1]
    by_cases h : r.length % 2 = 1
    · rw [if_pos h, if_pos h]
      have e2 : r.length + 1 + 1 - 1 = (r.length - 1) + 1 + 1 := by omega
      rw [e2, List.getD_cons_succ, List.getD_cons_succ]
      omega
    · rw [if_neg h, if_neg h]; omega
theorem sumP_map {lm lm' : List (Int × Int)} (f : Nat → Nat) (l : List Nat) (h : ∀ x ∈ l, mark lm' (f x) = mark lm x) : sumP lm' (l.map f) = sumP lm l := by
  induction l using two_ind with
  | h0 => rfl
  | h1 a => rfl
  | h2 a b r ih =>
    simp only [List.map_cons, sumP]
    rw [ih (fun x hx => h x (by simp [hx]))]
    unfold difM
    rw [h a (by simp), h b (by simp)]
/-- The pair of a stone. -/
theorem pair_of (lm : List (Int × Int)) (a : Nat) (l : List Nat) : l.length % 2 = 0 → a ∈ l → ∃ b r, l.Perm (a :: b :: r) ∧ sumP lm l = difM lm a b + sumP lm r ∧ r.length % 2 = 0 := by
  induction l using two_ind with
  | h0 => intro _ h; cases h
  | h1 a => intro h; simp at h
  | h2 x y r ih =>
    intro hl ha
    have hr : r.length % 2 = 0 := by simp at hl; omega
    by_cases hx : a = x
    · subst hx
      exact ⟨y, r, List.Perm.refl _, rfl, hr⟩
    · by_cases hy : a = y
      · subst hy
        exact ⟨x, r, List.Perm.swap _ _ _, by rw [dif_comm]; rfl, hr⟩
      · have har : a ∈ r := by simpa [hx, hy] using ha
        obtain ⟨b, r', h1, h2, h3⟩ := ih hr har
        refine ⟨b, x :: y :: r', ?_, ?_, by simp; omega⟩
        · refine ((h1.cons y).cons x).trans ?_
          have e1 : (x :: y :: a :: b :: r').Perm (a :: b :: x :: y :: r') := by
            have : ([x, y] ++ ([a, b] ++ r')).Perm ([a, b] ++ ([x, y] ++ r')) := by
              rw [← List.append_assoc, ← List.append_assoc]
              exact List.Perm.append_right _ List.perm_append_comm
            simpa using this
          exact e1
        · simp only [sumP, h2]; omega
theorem foldB_min {lm : List (Int × Int)} (hm : mOk lm) (n a : Nat) (rest : List Nat) (hl : rest.length = 2 * n + 1) (pre : List Nat) : (∀ b ∈ pre, b ∈ rest) → (pre ≠ [] → 0 ≤ (foldB lm n a rest pre).1 ∧ (foldB lm n a rest pre).1 = (mB lm n (rest.erase (foldB lm n a rest pre).2)).1 + difM lm a (foldB lm n a rest pre).2) ∧ ∀ b ∈ pre, (foldB lm n a rest pre).1 ≤ (mB lm n (rest.erase b)).1 + difM lm a b := by
  refine snocI (Q := fun pre => (∀ b ∈ pre, b ∈ rest) → (pre ≠ [] → 0 ≤ (foldB lm n a rest pre).1 ∧ (foldB lm n a rest pre).1 = (mB lm n (rest.erase (foldB lm n a rest pre).2)).1 + difM lm a (foldB lm n a rest pre).2) ∧ ∀ b ∈ pre, (foldB lm n a rest pre).1 ≤ (mB lm n (rest.erase b)).1 + difM lm a b) ?_ ?_ pre
  · intro _; simp
  · intro pre b ih hp
    have h1 := ih (fun x hx => hp x (by simp [hx]))
    have hb := mB_bd hm n (rest.erase b) (by rw [List.length_erase_of_mem (hp b (by simp))]; omega)
    have hd := dif_bd hm a b
    rw [foldB_snoc]
    unfold stepB
    by_cases hc : (foldB lm n a rest pre).1 < 0 ∨ (mB lm n (rest.erase b)).1 + difM lm a b < (foldB lm n a rest pre).1
    · rw [if_pos hc]
      refine ⟨fun _ => ⟨by simp only; omega, rfl⟩, fun x hx => ?_⟩
      simp only
      rcases List.mem_append.1 hx with hx | hx
      · have h2 := h1.2 x hx
        have h3 := (h1.1 (by rintro rfl; cases hx)).1
        omega
      · simp at hx; rw [hx]; omega
    · rw [if_neg hc]
      have hne : pre ≠ [] := by rintro rfl; exact hc (.inl (by simp [foldB]))
      refine ⟨fun _ => h1.1 hne, fun x hx => ?_⟩
      rcases List.mem_append.1 hx with hx | hx
      · exact h1.2 x hx
      · simp at hx; rw [hx]; omega
/-- No other pairs have a lesser sum. -/
theorem mB_le {lm : List (Int × Int)} (hm : mOk lm) : ∀ (n : Nat) (ord left : List Nat), ord.Perm left → left.length = 2 * n → (mB lm n left).1 ≤ sumP lm ord := by
  intro n
  induction n with
  | zero =>
    intro ord left hp hl
    obtain rfl : left = [] := List.length_eq_zero_iff.1 (by omega)
    obtain rfl := hp.eq_nil
    simp [mB, sumP]
  | succ n ih =>
    intro ord left hp hl
    cases left with
    | nil => simp at hl
    | cons a rest =>
      obtain ⟨b, r, h1, h2, -⟩ := pair_of lm a ord (by rw [hp.length_eq]; omega) (hp.mem_iff.2 (by simp))
      have hbr : (b :: r).Perm rest := (List.perm_cons a).1 (h1.symm.trans hp)
      have hb : b ∈ rest := hbr.mem_iff.1 (by simp)
      have hrl : rest.length = 2 * n + 1 := by simp at hl; omega
      have hre : r.Perm (rest.erase b) := by
        have := hbr.erase b
        rwa [List.erase_cons_head] at this
      have h3 := ih r (rest.erase b) hre (by rw [List.length_erase_of_mem hb]; omega)
      have h4 := (foldB_min hm n a rest hrl rest (fun _ h => h)).2 b hb
      have h5 : (mB lm (n + 1) (a :: rest)).1 = (foldB lm n a rest rest).1 := rfl
      omega
/-- The stones in the order of the best pairs. -/
def ordL (lm : List (Int × Int)) : Nat → List Nat → List Nat
  | 0, _ => []
  | _ + 1, [] => []
  | n + 1, a :: rest => a :: (mB lm (n + 1) (a :: rest)).2 :: ordL lm n (rest.erase (mB lm (n + 1) (a :: rest)).2)
theorem ordL_ok {lm : List (Int × Int)} (hm : mOk lm) : ∀ (n : Nat) (left : List Nat), left.length = 2 * n → (ordL lm n left).Perm left ∧ sumP lm (ordL lm n left) = (mB lm n left).1 := by
  intro n
  induction n with
  | zero =>
    intro left hl
    obtain rfl : left = [] := List.length_eq_zero_iff.1 (by omega)
    exact ⟨List.Perm.refl _, rfl⟩
  | succ n ih =>
    intro left hl
    cases left with
    | nil => simp at hl
    | cons a rest =>
      have hb := mB_with hm n a rest hl
      have hrl : rest.length = 2 * n + 1 := by simp at hl; omega
      obtain ⟨h1, h2⟩ := ih (rest.erase (mB lm (n + 1) (a :: rest)).2) (by rw [List.length_erase_of_mem hb]; omega)
      have h3 := ((foldB_min hm n a rest hrl rest (fun _ h => h)).1 (by rintro rfl; simp at hrl)).2
      have h5 : mB lm (n + 1) (a :: rest) = foldB lm n a rest rest := rfl
      refine ⟨?_, ?_⟩
      · refine List.Perm.cons a ((h1.cons _).trans ?_)
        exact (List.perm_cons_erase hb).symm
      · rw [ordL, sumP, h2]
        rw [← h5] at h3
        omega
theorem pairsL_ord (lm : List (Int × Int)) : ∀ (n : Nat) (left : List Nat), left.length = 2 * n → mOk lm → (pairsL lm n left).length = n ∧ ∀ i, i < n → (pairsL lm n left)[i]? = some (((ordL lm n left).getD (2 * i) 0 : Int), ((ordL lm n left).getD (2 * i + 1) 0 : Int)) := by
  intro n
  induction n with
  | zero => intro left hl hm; exact ⟨rfl, by omega⟩
  | succ n ih =>
    intro left hl hm
    cases left with
    | nil => simp at hl
    | cons a rest =>
      have hb := mB_with hm n a rest hl
      obtain ⟨h1, h2⟩ := ih (rest.erase (mB lm (n + 1) (a :: rest)).2) (by rw [List.length_erase_of_mem hb]; simp at hl; omega) hm
      refine ⟨by simp [pairsL, h1], fun i hi => ?_⟩
      cases i with
      | zero => simp [pairsL, ordL]
      | succ i =>
        have := h2 i (by omega)
        rw [pairsL, List.getElem?_cons_succ, this]
        have e1 : 2 * (i + 1) = (2 * i) + 1 + 1 := by omega
        have e2 : 2 * (i + 1) + 1 = (2 * i + 1) + 1 + 1 := by omega
        rw [e2, e1, ordL, List.getD_cons_succ, List.getD_cons_succ, List.getD_cons_succ, List.getD_cons_succ]
theorem ordL_sorted {lm : List (Int × Int)} (hm : mOk lm) : ∀ (n : Nat) (left : List Nat), left.length = 2 * n → left.Pairwise (· < ·) → ∀ i, i < n → (ordL lm n left).getD (2 * i) 0 < (ordL lm n left).getD (2 * i + 1) 0 ∧ (0 < i → (ordL lm n left).getD (2 * (i - 1)) 0 < (ordL lm n left).getD (2 * i) 0) := by
  intro n
  induction n with
  | zero => intro left hl hs i hi; omega
  | succ n ih =>
    intro left hl hs i hi
    cases left with
    | nil => simp at hl
    | cons a rest =>
      have hb := mB_with hm n a rest hl
      obtain ⟨hs1, hs2⟩ := List.pairwise_cons.1 hs
      have hle : (rest.erase (mB lm (n + 1) (a :: rest)).2).length = 2 * n := by rw [List.length_erase_of_mem hb]; simp at hl; omega
      have hp := (ordL_ok hm n _ hle).1
      have h2 := ih (rest.erase (mB lm (n + 1) (a :: rest)).2) hle (List.Pairwise.sublist List.erase_sublist hs2)
      cases i with
      | zero => exact ⟨by simpa [ordL] using hs1 _ hb, by omega⟩
      | succ i =>
        have e1 : 2 * (i + 1) = (2 * i) + 1 + 1 := by omega
        have e2 : 2 * (i + 1) + 1 = (2 * i + 1) + 1 + 1 := by omega
        have h3 := h2 i (by omega)
        rw [e2, e1, ordL, List.getD_cons_succ, List.getD_cons_succ, List.getD_cons_succ, List.getD_cons_succ]
        refine ⟨h3.1, fun _ => ?_⟩
        rw [Nat.add_sub_cancel]
        cases i with
        | zero =>
          simp only [Nat.mul_zero, List.getD_cons_zero]
          apply hs1
          apply List.mem_of_mem_erase (b := (mB lm (n + 1) (a :: rest)).2)
          rw [← hp.mem_iff]
          have hl0 : 0 < (ordL lm n (rest.erase (mB lm (n + 1) (a :: rest)).2)).length := by rw [hp.length_eq]; omega
          rw [List.getD_eq_getElem?_getD, List.getElem?_eq_getElem hl0]
          exact List.getElem_mem _
        | succ i =>
          have h4 := h3.2 (by omega)
          rw [Nat.add_sub_cancel] at h4
          rw [show 2 * (i + 1) = (2 * i) + 1 + 1 by omega, List.getD_cons_succ, List.getD_cons_succ]
          rw [show 2 * i + 1 + 1 = 2 * (i + 1) by omega]
          exact h4
/-- The order of the stones does not count. -/
theorem mB_turned {lm : List (Int × Int)} (hm : mOk lm) (n : Nat) (ord : List Nat) (hp : ord.Perm (List.range (2 * n))) : (mB (ord.map (mark lm)) n (List.range (2 * n))).1 = (mB lm n (List.range (2 * n))).1 := by
  have hol : ord.length = 2 * n := by rw [hp.length_eq]; simp
  have hnd : ord.Nodup := hp.nodup_iff.2 List.nodup_range
  have hmk : ∀ i (h : i < ord.length), mark (ord.map (mark lm)) i = mark lm ord[i] := by
    intro i h
    conv => lhs; unfold mark
    rw [List.getD_eq_getElem?_getD, List.getElem?_map, List.getElem?_eq_getElem h]
    rfl
  have hm' : mOk (ord.map (mark lm)) := by
    intro i
    by_cases h : i < ord.length
    · rw [hmk i h]; exact hm _
    · unfold mark
      rw [List.getD_eq_getElem?_getD, List.getElem?_eq_none (by simpa using h)]
      simp
  apply Int.le_antisymm
  · obtain ⟨h1, h2⟩ := ordL_ok hm n (List.range (2 * n)) (by simp)
    rw [← h2]
    have hmem : ∀ x ∈ ordL lm n (List.range (2 * n)), x ∈ ord := fun x hx => hp.mem_iff.2 (h1.mem_iff.1 hx)
    have hmap : sumP (ord.map (mark lm)) ((ordL lm n (List.range (2 * n))).map fun x => ord.idxOf x) = sumP lm (ordL lm n (List.range (2 * n))) := by
      apply sumP_map
      intro x hx
      have hx := hmem x hx
      rw [hmk _ (List.idxOf_lt_length_iff.2 hx)]
      congr 1
      exact List.getElem_idxOf _
    rw [← hmap]
    apply mB_le hm' n _ _ ?_ (by simp)
    refine ((h1.trans hp.symm).map fun x => ord.idxOf x).trans (List.Perm.of_eq ?_)
    apply List.ext_getElem
    · simp [hol]
    · intro i h3 h4
      rw [List.getElem_map, List.getElem_range]
      exact hnd.idxOf_getElem i _
  · obtain ⟨h1, h2⟩ := ordL_ok hm' n (List.range (2 * n)) (by simp)
    rw [← h2]
    have hmap : sumP lm ((ordL (ord.map (mark lm)) n (List.range (2 * n))).map fun i => ord.getD i 0) = sumP (ord.map (mark lm)) (ordL (ord.map (mark lm)) n (List.range (2 * n))) := by
      apply sumP_map
      intro x hx
      have hx : x < ord.length := by have := h1.mem_iff.1 hx; simp at this; omega
      rw [hmk x hx, List.getD_eq_getElem?_getD, List.getElem?_eq_getElem hx]
      rfl
    rw [← hmap]
    apply mB_le hm n _ _ ?_ (by simp)
    refine (h1.map fun i => ord.getD i 0).trans ?_
    refine List.Perm.trans (List.Perm.of_eq ?_) hp
    apply List.ext_getElem
    · simp [hol]
    · intro i h3 h4
      rw [List.getElem_map, List.getElem_range, List.getD_eq_getElem?_getD, List.getElem?_eq_getElem h4]
      rfl
/-- What a round over the best pairs meets. -/
theorem pairs_round {lm : List (Int × Int)} (hm : mOk lm) (n k : Nat) (hk : k < n) (O : List Nat) (hO : O = ordL lm n (List.range (2 * n))) (A B : Nat) (hA : A = O.getD (2 * k) 0) (hB : B = O.getD (2 * k + 1) 0) :
    (pairsL lm n (List.range (2 * n)))[k]? = some ((A : Int), (B : Int)) ∧ A < B ∧ B < 2 * n ∧ (0 < k → O.getD (2 * (k - 1)) 0 < A) ∧ A ∉ O.take (2 * k) ∧ B ∉ O.take (2 * k) ∧ O.take (2 * (k + 1)) = O.take (2 * k) ++ [A] ++ [B] ∧ sumP lm (O.take (2 * (k + 1))) = sumP lm (O.take (2 * k)) + difM lm A B := by
  have hr : (List.range (2 * n)).length = 2 * n := by simp
  have hp := (ordL_ok hm n (List.range (2 * n)) hr).1
  have hs := ordL_sorted hm n (List.range (2 * n)) hr List.pairwise_lt_range k hk
  have h1 := (pairsL_ord lm n (List.range (2 * n)) hr hm).2 k hk
  rw [← hO] at hp hs h1
  rw [← hA, ← hB] at h1 hs
  have hl : O.length = 2 * n := by rw [hp.length_eq]; simp
  have hnd : O.Nodup := hp.nodup_iff.2 List.nodup_range
  have eA : A = O[2 * k]'(by omega) := by rw [hA, List.getD_eq_getElem?_getD, List.getElem?_eq_getElem (by omega)]; rfl
  have eB : B = O[2 * k + 1]'(by omega) := by rw [hB, List.getD_eq_getElem?_getD, List.getElem?_eq_getElem (by omega)]; rfl
  have hno : ∀ i (hi : i < O.length), 2 * k ≤ i → O[i] ∉ O.take (2 * k) := by
    intro i hi hle hmem
    obtain ⟨j, hj, e⟩ := List.getElem_of_mem hmem
    rw [List.getElem_take] at e
    have hj' : j < 2 * k := by simp at hj; omega
    exact List.pairwise_iff_getElem.1 hnd j i _ hi (by omega) e
  have ht : O.take (2 * (k + 1)) = O.take (2 * k) ++ [A] ++ [B] := by
    rw [show 2 * (k + 1) = 2 * k + 1 + 1 by omega, List.take_succ_eq_append_getElem (by omega), List.take_succ_eq_append_getElem (by omega), ← eA, ← eB]
  refine ⟨h1, hs.1, ?_, hs.2, by rw [eA]; exact hno _ _ (Nat.le_refl _), by rw [eB]; exact hno _ _ (by omega), ht, ?_⟩
  · have : B ∈ O := by rw [eB]; exact List.getElem_mem _
    simpa using hp.mem_iff.1 this
  · have hlt : (O.take (2 * k)).length = 2 * k := by simp; omega
    rw [ht, sumP_snoc, sumP_snoc, if_neg (by rw [hlt]; omega), if_pos (by simp only [List.length_append, hlt, List.length_singleton]; omega)]
    have : (O.take (2 * k) ++ [A]).getD ((O.take (2 * k) ++ [A]).length - 1) 0 = A := by
      rw [List.getD_eq_getElem?_getD, List.length_append, List.length_singleton, Nat.add_sub_cancel, List.getElem?_append_right (Nat.le_refl _)]
      simp
    rw [this]; omega
/-- One more stone in the order. -/
theorem order_round {ord : List Nat} {k : Nat} (hp : ord.Perm (List.range k)) (at' : Nat) : (ord.take at' ++ [k] ++ ord.drop at').Perm (List.range (k + 1)) := by
  rw [List.range_succ]
  refine List.Perm.trans ?_ (hp.append_right [k])
  have h1 : (ord.take at' ++ [k] ++ ord.drop at').Perm (ord.take at' ++ (ord.drop at' ++ [k])) := by
    rw [List.append_assoc]
    exact List.Perm.append_left _ List.perm_append_comm
  refine h1.trans (List.Perm.of_eq ?_)
  rw [← List.append_assoc, List.take_append_drop]
theorem other_round (lm : List (Int × Int)) (ord : List Nat) (k : Nat) (hk : k < ord.length) : sumP lm (ord.take (k + 1)) = sumP lm (ord.take k) + if k % 2 = 1 then difM lm (ord.getD (k - 1) 0) ord[k] else 0 := by
  have hl : (ord.take k).length = k := by simp; omega
  rw [List.take_succ_eq_append_getElem hk, sumP_snoc, hl]
  by_cases h : k % 2 = 1
  · rw [if_pos h, if_pos h]
    congr 2
    rw [List.getD_eq_getElem?_getD, List.getD_eq_getElem?_getD, List.getElem?_take_of_lt (by omega)]
  · rw [if_neg h, if_neg h]
end Go.Proofs.YtjjphiecjhijiaaDoor
/- Slices of bytes, a set of numbers in a map, an append of ints at a plain step. -/
namespace Go.Proofs.YtjjphiecjhijiaaDoor
open Go.RowKit Go.Maps

theorem wpList_append_ints {ops : Array Oper} {rest : List Oper} {o : Oper} {a : Act} {Q : Exit → Act → World → Prop} (w : World) (hgd : o.guard = none) (s x : Operand)
    (ho : o.op = .call { callee := .builtin .append, args := #[s, x], argTypes := #[22, 22] }) (base : Nat) (v : Value) (n : Nat) (xs : List Value) (hs : a.eval s = v) (hown : w.ownsRow base 3 1 v n xs)
    (rv : Value) (row : List Int) (hx : a.eval x = rv) (hr : SlI w rv row) (hsm : n + row.length ≤ 1000) (hbase : base ≤ w.heap.size) (N : Nat) (ys : List Value) (hN : n + row.length = N) (hys : xs ++ row.map (.int .i64) = ys)
    (h : ∀ v' w', w'.ownsRow base 3 1 v' N ys → w.grownBy w' v.ownBlock → wpList Tryd.prog ops Q rest (a.put o.dst v') w') : wpList Tryd.prog ops Q (o :: rest) a w :=
  wpList_plain hgd fun _ hK => wp_append_ints w s x ho base v n xs hs hown rv row hx hr hsm hbase N ys hN hys fun v' w' h1 h2 => hK _ _ (h v' w' h1 h2)

/-- A slice of bytes. -/
def SlB (w : World) (v : Value) (l : List Int) : Prop := SlV w v l.length (l.map (.int .u8)) ∧ ∀ x ∈ l, 0 ≤ x ∧ x ≤ 255
theorem SlB.below {w w' : World} {v : Value} {l : List Int} (h : SlB w v l) (hb : Below w.heap.size w w') : SlB w' v l := ⟨h.1.below hb, h.2⟩
theorem SlB.open {w : World} {v : Value} {l : List Int} (h : SlB w v l) :
    ∃ a cap, v = .slice a l.length cap ∧ l.length ≤ 140737488351232 ∧ ∀ k (hk : k < l.length), ∃ b off, a = some ⟨b, off, none⟩ ∧ b < w.heap.size ∧ w.cell? ⟨b, off + k, none⟩ = some (.int .u8 l[k]) ∧ 0 ≤ l[k] ∧ l[k] ≤ 255 := by
  obtain ⟨⟨a, cap, rfl, hn, hc⟩, hx⟩ := h
  refine ⟨a, cap, rfl, hn, fun k hk => ?_⟩
  rcases hc with hc | ⟨b, off, rfl, hlt, hc⟩
  · omega
  · exact ⟨b, off, rfl, hlt, by have := hc k (by simpa using hk); simpa using this, hx _ (List.getElem_mem _)⟩

/-- A map from numbers to truth: those of a list are in it, each with true. -/
def SeenF (w : World) (b : Nat) (l : List Int) : Prop := ∃ M, MapF encI w b M ∧ (∀ k, (M k).isSome = decide (k ∈ l)) ∧ ∀ k v, M k = some v → v = .bool true
theorem SeenF.below {w w' : World} {b : Nat} {l : List Int} (h : SeenF w b l) (hb : Below w.heap.size w w') : SeenF w' b l := by
  obtain ⟨M, h1, h2, h3⟩ := h
  exact ⟨M, h1.below' hb, h2, h3⟩
theorem SeenF.lt {w : World} {b : Nat} {l : List Int} (h : SeenF w b l) : b < w.heap.size := by obtain ⟨M, h1, _⟩ := h; exact h1.lt
theorem SeenF.made (w : World) : SeenF (w.alloc (.map #[] 0)) w.heap.size [] := ⟨_, MapF.made w, fun k => by simp, fun k v h => by cases h⟩
theorem zero4 (w : World) : (zeroValue 4).run Tryd.prog w = .ok (.bool false) w := by
  have h : (Tryd.prog.info? 4).map (fun i => (i.zero, i.size, i.bytes)) = some (some (.bool false), 1, 1) := by kernel_rfl
  obtain ⟨i0, hi, hz0, hz1, hz2⟩ := info_parts h
  simp [zeroValue, typeInfo, hi, hz0, go_sem]
theorem SeenF.look {w : World} {b : Nat} {l : List Int} (h : SeenF w b l) (k : Int) : (Instr.lookup 48 (.map (some b)) (.int .i64 k) false).run Tryd.prog w = .ok (.bool (decide (k ∈ l))) w := by
  obtain ⟨M, h1, h2, h3⟩ := h
  have hl := MapF.lookup keyI3 Tryd.underlying48 h1 (zero4 w) k
  have h4 := h2 k
  cases e : M k with
  | none => rw [e] at hl h4; rw [← h4]; exact hl
  | some v =>
    rw [e] at hl h4
    rw [← h4]
    rw [h3 k v e] at hl
    exact hl
theorem SeenF.add {w : World} {b : Nat} {l : List Int} (h : SeenF w b l) (k : Int) :
    ∃ w', (Instr.mapUpdate 48 (.map (some b)) (.int .i64 k) (.bool true)).run Tryd.prog w = .ok () w' ∧ SeenF w' b (l ++ [k]) ∧ w.grownBy w' (some b) ∧ w'.heap.size = w.heap.size := by
  obtain ⟨M, h1, h2, h3⟩ := h
  obtain ⟨w', hr, hm, hg, hs⟩ := h1.update keyI3 Tryd.underlying48 k (.bool true)
  refine ⟨w', hr, ⟨_, hm, ?_, ?_⟩, hg, hs⟩
  · intro k'
    by_cases e : k' = k
    · simp [e]
    · simp [e, h2]
  · intro k' v hv
    by_cases e : k' = k
    · simp [e] at hv; exact hv.symm
    · simp [e] at hv; exact h3 k' v hv
end Go.Proofs.YtjjphiecjhijiaaDoor
/- The plain law of the cheapest schedule: Cool's is possible and costs what it says, no possible one costs less, and a plant that is easier costs no more. -/
namespace Go.Proofs.YtjjphiecjhijiaaDoor
open Go.RowKit

theorem step_le {p : PlantD} {h : Nat} {f : Int × Int → Option (Int × Nat)} {s : Int × Int} {n : Nat} {c0 : Int × Nat} (hle : p.next h s.1 n ≤ p.high) (hf : f (p.next h s.1 n, (n : Int)) = some c0) :
    ∀ q, n < q → ∃ c, p.step h f s q = some c ∧ c.1 ≤ c0.1 + p.hcost h s.2.toNat n := by
  intro q
  induction q with
  | zero => intro h; omega
  | succ q ih =>
    intro hq
    by_cases e : n = q
    · subst e
      unfold PlantD.step
      rw [if_pos hle, hf]
      simp only
      cases hs : p.step h f s n with
      | none => exact ⟨_, rfl, Int.le_refl _⟩
      | some a =>
        simp only
        split
        · exact ⟨_, rfl, Int.le_refl _⟩
        · exact ⟨_, rfl, by omega⟩
    · obtain ⟨c, h1, h2⟩ := ih (by omega)
      unfold PlantD.step
      rw [h1]
      split
      · exact ⟨c, rfl, h2⟩
      · simp only
        split
        · exact ⟨_, rfl, by simp only; omega⟩
        · exact ⟨c, rfl, h2⟩
/-- Are all heats at most the greatest one? -/
def PlantD.fits (p : PlantD) (l : List Int) : Prop := ∀ k, k < p.loads.length → p.heatAt l (k + 1) ≤ p.high
theorem bst_le {p : PlantD} {l : List Int} (hs : p.sched l = true) (hfit : p.fits l) : ∀ r, r ≤ p.loads.length → ∃ c, p.bst r (p.heatAt l (p.loads.length - r), (before l (p.loads.length - r) : Int)) = some c ∧ c.1 ≤ p.costAt l p.loads.length - p.costAt l (p.loads.length - r) := by
  have hl : l.length = p.loads.length := by
    simp only [PlantD.sched, Bool.and_eq_true, beq_iff_eq] at hs
    exact hs.1.2
  intro r
  induction r with
  | zero => intro _; exact ⟨(0, 0), rfl, by simp⟩
  | succ r ih =>
    intro hr
    obtain ⟨c0, h1, h2⟩ := ih (by omega)
    have hk : p.loads.length - r = (p.loads.length - (r + 1)) + 1 := by omega
    rw [hk] at h1 h2
    generalize hkk : p.loads.length - (r + 1) = k at *
    have hn := (sched_num hs k (by omega)).2
    obtain ⟨c, h3, h4⟩ := step_le (p := p) (h := k) (f := p.bst r) (s := (p.heatAt l k, (before l k : Int))) (n := num l k) (c0 := c0) (hfit k (by omega)) h1 (2 ^ p.m) hn
    refine ⟨c, by unfold PlantD.bst; rw [hkk]; exact h3, ?_⟩
    simp only [PlantD.costAt, Int.toNat_natCast] at h2 h4
    omega
theorem plan_num {p : PlantD} (n k : Nat) (hk : k < n) : num (p.plan n) k = p.pick k := by
  unfold num PlantD.plan
  rw [List.getD_eq_getElem?_getD, List.getElem?_map, List.getElem?_range hk]
  simp
theorem plan_path {p : PlantD} (n : Nat) : ∀ k, k ≤ n → p.path k = (p.heatAt (p.plan n) k, (before (p.plan n) k : Int)) := by
  intro k
  induction k with
  | zero => intro _; rfl
  | succ k ih =>
    intro hk
    rw [path_succ, PlantD.heatAt, before, plan_num n k (by omega), ih (by omega)]
theorem plan_ok {p : PlantD} (hok : p.ok = true) (h0 : (p.bst p.loads.length (p.heat, 0)).isSome = true) : p.sched (p.plan p.loads.length) = true ∧ p.fits (p.plan p.loads.length) ∧ p.costAt (p.plan p.loads.length) p.loads.length = ((p.bst p.loads.length (p.heat, 0)).getD (0, 0)).1 := by
  have ho := ok_Ok hok
  have hstep : ∀ k, k < p.loads.length → p.next k (p.path k).1 (p.pick k) ≤ p.high ∧ ((p.bst (p.loads.length - k) (p.path k)).getD (0, 0)).1 = ((p.bst (p.loads.length - (k + 1)) (p.path (k + 1))).getD (0, 0)).1 + p.hcost k (p.path k).2.toNat (p.pick k) := by
    intro k hk
    have hs := (path_ok h0 k (by omega)).2
    cases hc : p.bst (p.loads.length - k) (p.path k) with
    | none => rw [hc] at hs; cases hs
    | some c =>
      have hcs := hc
      rw [show p.loads.length - k = (p.loads.length - (k + 1)) + 1 by omega] at hcs
      unfold PlantD.bst at hcs
      rw [show p.loads.length - (p.loads.length - (k + 1) + 1) = k by omega] at hcs
      obtain ⟨h1, h2, c', h3, h4⟩ := step_some hcs
      have hpk : p.pick k = c.2 := by unfold PlantD.pick; rw [hc]; rfl
      rw [path_succ, hpk, h3]
      exact ⟨h2, h4⟩
  refine ⟨?_, ?_, ?_⟩
  · simp only [PlantD.sched, Bool.and_eq_true, List.all_eq_true, hok, beq_iff_eq, true_and]
    refine ⟨plan_length p _, ?_⟩
    intro x hx
    unfold PlantD.plan at hx
    obtain ⟨j, hj, rfl⟩ := List.mem_map.1 hx
    have := pick_lt ho j
    have h2 : ((2 ^ p.m : Nat) : Int) = (2 : Int) ^ p.m := by simp
    simp only [inB, Bool.and_eq_true, decide_eq_true_eq]
    omega
  · intro k hk
    have := (hstep k hk).1
    rw [PlantD.heatAt, plan_num _ k hk]
    rw [plan_path p.loads.length k (by omega)] at this
    exact this
  · have key : ∀ r, r ≤ p.loads.length → p.costAt (p.plan p.loads.length) p.loads.length - p.costAt (p.plan p.loads.length) (p.loads.length - r) = ((p.bst r (p.path (p.loads.length - r))).getD (0, 0)).1 := by
      intro r
      induction r with
      | zero => intro _; simp [PlantD.bst]
      | succ r ih =>
        intro hr
        have h1 := ih (by omega)
        have hk : p.loads.length - r = (p.loads.length - (r + 1)) + 1 := by omega
        have h2 := (hstep (p.loads.length - (r + 1)) (by omega)).2
        have e1 : p.loads.length - (p.loads.length - (r + 1)) = r + 1 := by omega
        have e2 : p.loads.length - (p.loads.length - (r + 1) + 1) = r := by omega
        rw [e1, e2] at h2
        rw [hk] at h1
        generalize hkk : p.loads.length - (r + 1) = k at *
        rw [PlantD.costAt, plan_num _ k (by omega)] at h1
        rw [h2, ← h1, plan_path p.loads.length k (by omega)]
        simp only [Int.toNat_natCast]
        omega
    have := key p.loads.length (Nat.le_refl _)
    rw [Nat.sub_self] at this
    simp only [PlantD.costAt, PlantD.path] at this
    omega
/-- No possible schedule costs less than Cool's. -/
theorem cool_least {p : PlantD} {l : List Int} (hs : p.sched l = true) (hfit : p.fits l) : p.coolB.isSome = true ∧ p.coolC ≤ p.costAt l p.loads.length := by
  have hok : p.ok = true := by
    simp only [PlantD.sched, Bool.and_eq_true] at hs
    exact hs.1.1
  obtain ⟨c, h1, h2⟩ := bst_le hs hfit p.loads.length (Nat.le_refl _)
  rw [Nat.sub_self] at h1 h2
  have h1' : p.bst p.loads.length (p.heat, 0) = some c := h1
  simp only [PlantD.costAt] at h2
  unfold PlantD.coolC PlantD.coolB
  rw [if_pos hok, h1']
  exact ⟨rfl, by simp only [Option.getD_some]; omega⟩
theorem cool_own {p : PlantD} (hok : p.ok = true) (h0 : p.coolB.isSome = true) : p.sched p.coolL = true ∧ p.fits p.coolL ∧ p.costAt p.coolL p.loads.length = p.coolC ∧ p.coolL.length = p.loads.length := by
  have h0' : (p.bst p.loads.length (p.heat, 0)).isSome = true := by
    unfold PlantD.coolB at h0; rwa [if_pos hok] at h0
  have e : p.coolL = p.plan p.loads.length := by unfold PlantD.coolL; rw [if_pos h0]
  have e2 : p.coolC = ((p.bst p.loads.length (p.heat, 0)).getD (0, 0)).1 := by unfold PlantD.coolC PlantD.coolB; rw [if_pos hok]
  rw [e, e2, plan_length]
  have := plan_ok hok h0'
  exact ⟨this.1, this.2.1, this.2.2, rfl⟩

/-- An easier plant. -/
structure Easier (p q : PlantD) : Prop where
  heat : q.heat = p.heat
  low : q.low = p.low
  high : p.high ≤ q.high
  len : q.loads.length = p.loads.length
  load : ∀ h, q.load h ≤ p.load h
  price : ∀ h, q.price h ≤ p.price h
  machs : ∃ more, q.machines = p.machines ++ more
theorem Easier.mach {p q : PlantD} (h : Easier p q) (i : Nat) (hi : i < p.m) : q.mach i = p.mach i := by
  obtain ⟨more, e⟩ := h.machs
  unfold PlantD.mach
  rw [e]
  rw [List.getD_eq_getElem?_getD, List.getD_eq_getElem?_getD, List.getElem?_append_left hi]
theorem sumTo_zero (f : Nat → Int) (m : Nat) : ∀ k, (∀ i, m ≤ i → f i = 0) → sumTo f (m + k) = sumTo f m := by
  intro k h
  induction k with
  | zero => rfl
  | succ k ih => rw [← Nat.add_assoc, sumTo, ih, h (m + k) (by omega), Int.add_zero]
theorem bit_high {n m i : Nat} (h : n < 2 ^ m) (hi : m ≤ i) : n.testBit i = false :=
  Nat.testBit_lt_two_pow (Nat.lt_of_lt_of_le h (Nat.pow_le_pow_right (by decide) hi))
theorem Easier.m_le {p q : PlantD} (h : Easier p q) : p.m ≤ q.m := by
  obtain ⟨more, e⟩ := h.machs
  unfold PlantD.m
  rw [e]; simp
theorem Easier.sums {p q : PlantD} (h : Easier p q) (f g : Nat → Int) (h1 : ∀ i, i < p.m → f i = g i) (h2 : ∀ i, p.m ≤ i → f i = 0) : sumTo f q.m = sumTo g p.m := by
  obtain ⟨k, hk⟩ : ∃ k, q.m = p.m + k := ⟨q.m - p.m, by have := h.m_le; omega⟩
  rw [hk, sumTo_zero f p.m k h2]
  exact sumTo_congr f g p.m h1 p.m (Nat.le_refl _)
theorem Easier.cool {p q : PlantD} (h : Easier p q) (n : Nat) (hn : n < 2 ^ p.m) : q.cool n = p.cool n := by
  refine h.sums _ _ (fun i hi => ?_) (fun i hi => ?_)
  · unfold PlantD.coldF; rw [h.mach i hi]
  · unfold PlantD.coldF; rw [bit_high hn hi]; rfl
theorem Easier.power {p q : PlantD} (h : Easier p q) (n : Nat) (hn : n < 2 ^ p.m) : q.power n = p.power n := by
  refine h.sums _ _ (fun i hi => ?_) (fun i hi => ?_)
  · unfold PlantD.powerF; rw [h.mach i hi]
  · unfold PlantD.powerF; rw [bit_high hn hi]; rfl
theorem Easier.starts {p q : PlantD} (h : Easier p q) (b n : Nat) (hn : n < 2 ^ p.m) : q.starts b n = p.starts b n := by
  refine h.sums _ _ (fun i hi => ?_) (fun i hi => ?_)
  · unfold PlantD.startF; rw [h.mach i hi]
  · unfold PlantD.startF; rw [bit_high hn hi]; rfl
theorem Easier.heatAt {p q : PlantD} (h : Easier p q) (l : List Int) (hs : p.sched l = true) : ∀ k, k ≤ p.loads.length → q.heatAt l k ≤ p.heatAt l k := by
  have hl : l.length = p.loads.length := by
    simp only [PlantD.sched, Bool.and_eq_true, beq_iff_eq] at hs
    exact hs.1.2
  intro k
  induction k with
  | zero => intro _; simp only [PlantD.heatAt, h.heat]; exact Int.le_refl _
  | succ k ih =>
    intro hk
    have h1 := ih (by omega)
    have h2 := h.load k
    have hn := (sched_num hs k (by omega)).2
    simp only [PlantD.heatAt, PlantD.next, h.cool _ hn, h.low]
    omega
theorem Easier.costAt {p q : PlantD} (h : Easier p q) (hok : p.ok = true) (l : List Int) (hs : p.sched l = true) : ∀ k, k ≤ p.loads.length → q.costAt l k ≤ p.costAt l k := by
  have ho := ok_Ok hok
  have hl : l.length = p.loads.length := by
    simp only [PlantD.sched, Bool.and_eq_true, beq_iff_eq] at hs
    exact hs.1.2
  intro k
  induction k with
  | zero => intro _; exact Int.le_refl _
  | succ k ih =>
    intro hk
    have h1 := ih (by omega)
    have hn := (sched_num hs k (by omega)).2
    have h3 : q.price k * p.power (num l k) ≤ p.price k * p.power (num l k) := Int.mul_le_mul_of_nonneg_right (h.price k) (Ok_power ho _).1
    simp only [PlantD.costAt, PlantD.hcost, h.power _ hn, h.starts _ _ hn]
    omega
/-- An easier plant costs no more. -/
theorem cool_easier {p q : PlantD} (h : Easier p q) (hok : p.ok = true) (hq : q.ok = true) (h0 : p.coolB.isSome = true) : q.coolB.isSome = true ∧ q.coolC ≤ p.coolC := by
  obtain ⟨h1, h2, h3, h4⟩ := cool_own hok h0
  have hs : q.sched p.coolL = true := by
    simp only [PlantD.sched, Bool.and_eq_true, beq_iff_eq, List.all_eq_true] at h1 ⊢
    refine ⟨⟨hq, by rw [h4, h.len]⟩, fun x hx => ?_⟩
    have := h1.2 x hx
    have hp : (2 : Int) ^ p.m ≤ 2 ^ q.m := by
      have h5 : 2 ^ p.m ≤ 2 ^ q.m := Nat.pow_le_pow_right (by decide) h.m_le
      have h6 : ((2 ^ p.m : Nat) : Int) = (2 : Int) ^ p.m := by simp
      have h7 : ((2 ^ q.m : Nat) : Int) = (2 : Int) ^ q.m := by simp
      omega
    simp only [inB, Bool.and_eq_true, decide_eq_true_eq] at this ⊢
    omega
  have hfit : q.fits p.coolL := by
    intro k hk
    rw [h.len] at hk
    have := h2 k hk
    have h6 := h.heatAt p.coolL h1 (k + 1) (by omega)
    have h7 := h.high
    omega
  obtain ⟨a1, a2⟩ := cool_least hs hfit
  refine ⟨a1, ?_⟩
  have := h.costAt hok p.coolL h1 p.loads.length (Nat.le_refl _)
  rw [h.len] at a2
  omega
end Go.Proofs.YtjjphiecjhijiaaDoor
/- besomlaw12.lesser. -/
namespace Go.Proofs.YtjjphiecjhijiaaDoor
open Go.RowKit

def lessN (d x : Int) : Int := max 0 (x - max 0 (min 1000000 d))
def lessL (d : Int) (l : List Int) : List Int := l.map (lessN d)
def SlIR (l : List Int) (w : World) (e : Ending) (w' : World) : Prop := ∃ v, e = .returned v ∧ SlI w' v l ∧ Below w.heap.size w w' ∧ ∀ q, v.ownBlock = some q → w.heap.size ≤ q

set_option maxRecDepth 100000 in
set_option maxHeartbeats 400000 in
theorem lesser_any (v : Value) (l : List Int) (d : Int) (w : World) (hs : SlI w v l) (hl : l.length ≤ 100) (hx : ∀ x ∈ l, 0 ≤ x ∧ x ≤ 1000000) :
    Calls Tryd.prog 18 #[v, .int .i64 d] w (SlIR (lessL d l) w) := by
  obtain ⟨a, cap, rfl, hll, hcc⟩ := hs.open
  have HCC := hid hcc
  have HX := hid hx
  obtain ⟨i0, hi, hz0, hz1, hz2⟩ := info_parts info3
  clear hs hcc hx
  go_enter Tryd.func18, Tryd.ntmps18
  go_wp2_with fail
  go_loopw [5, 6] (fun u i wr => ∃ k : Nat, k ≤ l.length ∧ i = .int .i64 k ∧ wr.ownsRow w.heap.size 3 1 u k ((lessL d (l.take k)).map (.int .i64)) ∧ Below w.heap.size w wr) (fun _ i _ => l.length - (intOf i).toNat)
  case atStart => exact ⟨0, Nat.zero_le _, rfl, World.ownsRow_nil _ _ _ _, Below.refl _ _⟩
  case round =>
    obtain ⟨k, hk, rfl, hown, hbr⟩ := hrel
    obtain ⟨w2, rfl⟩ : ∃ w2 : World, w2 = wr := ⟨_, rfl⟩
    have HO := hid hown
    have HB := hid hbr
    clear hown hbr
    by_cases hkl : k < l.length
    · obtain ⟨b, off, rfl, hbl, hc⟩ := HCC.out k hkl
      have x0 := rdB HB.out hbl (hc k hkl)
      have hxb := HX.out l[k] (List.getElem_mem _)
      have HT := hid (show (lessL d (l.take (k + 1))).map (Value.int .i64) = (lessL d (l.take k)).map (Value.int .i64) ++ [.int .i64 (lessN d l[k])] by
        rw [List.take_succ_eq_append_getElem hkl]; simp only [lessL, List.map_append, List.map_cons, List.map_nil])
      clear hc
      generalize hxe : l[k] = x at *
      obtain ⟨hx0, hx1⟩ := hxb
      clear hxe
      by_cases hd0 : d ≤ 0
      · have hd0' : d < 1000000 := by omega
        go_wp2_with (at_builtin; refine wpList_append_lies _ rfl _ _ 22 rfl w.heap.size 3 i0 (.int .i64 0) 1 8 Tryd.underlying22 hi hz0 hz1 hz2 rfl (by omega) u5 k _ rfl (HO.out.alloc _) ⟨w2.heap.size, 0, none⟩ 1 1 [.int .i64 _] rfl rfl (cell_one_new _ _ _) (ones _ rfl) (by omega) (by unfold maxLen; omega) (by omega) (by have := HB.out.size; simp; omega) (w2.heap.size + 1) (by simp) ?_; intro g6 cap6 w6 hown6 hgrow6 hat6 hlt6)
        have hb6 : Below w.heap.size w w6 := (HB.out.alloc HB.out.size _).grown hgrow6 (by have := HB.out.size; simp; omega) (fun q hq => (HO.out.lt q hq).1)
        have HV : lessN d x = if 0 < x then x else 0 := by unfold lessN; split <;> omega
        rw [HV] at HT
        exact ⟨⟨k + 1, by omega, by go_num, by rw [HT.out]; exact hown6, hb6⟩, by simp [intOf]; omega⟩
      · by_cases hd1 : d ≤ 1000000
        · by_cases hxd : x - d ≤ 0
          · go_wp2_with (at_builtin; refine wpList_append_lies _ rfl _ _ 22 rfl w.heap.size 3 i0 (.int .i64 0) 1 8 Tryd.underlying22 hi hz0 hz1 hz2 rfl (by omega) u5 k _ rfl (HO.out.alloc _) ⟨w2.heap.size, 0, none⟩ 1 1 [.int .i64 _] rfl rfl (cell_one_new _ _ _) (ones _ rfl) (by omega) (by unfold maxLen; omega) (by omega) (by have := HB.out.size; simp; omega) (w2.heap.size + 1) (by simp) ?_; intro g6 cap6 w6 hown6 hgrow6 hat6 hlt6)
            have hb6 : Below w.heap.size w w6 := (HB.out.alloc HB.out.size _).grown hgrow6 (by have := HB.out.size; simp; omega) (fun q hq => (HO.out.lt q hq).1)
            have HV : lessN d x = 0 := by unfold lessN; omega
            rw [HV] at HT
            exact ⟨⟨k + 1, by omega, by go_num, by rw [HT.out]; exact hown6, hb6⟩, by simp [intOf]; omega⟩
          · go_wp2_with (at_builtin; refine wpList_append_lies _ rfl _ _ 22 rfl w.heap.size 3 i0 (.int .i64 0) 1 8 Tryd.underlying22 hi hz0 hz1 hz2 rfl (by omega) u5 k _ rfl (HO.out.alloc _) ⟨w2.heap.size, 0, none⟩ 1 1 [.int .i64 _] rfl rfl (cell_one_new _ _ _) (ones _ rfl) (by omega) (by unfold maxLen; omega) (by omega) (by have := HB.out.size; simp; omega) (w2.heap.size + 1) (by simp) ?_; intro g6 cap6 w6 hown6 hgrow6 hat6 hlt6)
            have hb6 : Below w.heap.size w w6 := (HB.out.alloc HB.out.size _).grown hgrow6 (by have := HB.out.size; simp; omega) (fun q hq => (HO.out.lt q hq).1)
            have HV : lessN d x = x - if d < 1000000 then d else 1000000 := by unfold lessN; split <;> omega
            rw [HV] at HT
            exact ⟨⟨k + 1, by omega, by go_num, by rw [HT.out]; exact hown6, hb6⟩, by simp [intOf]; omega⟩
        · go_wp2_with (at_builtin; refine wpList_append_lies _ rfl _ _ 22 rfl w.heap.size 3 i0 (.int .i64 0) 1 8 Tryd.underlying22 hi hz0 hz1 hz2 rfl (by omega) u5 k _ rfl (HO.out.alloc _) ⟨w2.heap.size, 0, none⟩ 1 1 [.int .i64 _] rfl rfl (cell_one_new _ _ _) (ones _ rfl) (by omega) (by unfold maxLen; omega) (by omega) (by have := HB.out.size; simp; omega) (w2.heap.size + 1) (by simp) ?_; intro g6 cap6 w6 hown6 hgrow6 hat6 hlt6)
          have hb6 : Below w.heap.size w w6 := (HB.out.alloc HB.out.size _).grown hgrow6 (by have := HB.out.size; simp; omega) (fun q hq => (HO.out.lt q hq).1)
          have HV : lessN d x = 0 := by unfold lessN; omega
          rw [HV] at HT
          exact ⟨⟨k + 1, by omega, by go_num, by rw [HT.out]; exact hown6, hb6⟩, by simp [intOf]; omega⟩
    · obtain rfl : k = l.length := by omega
      go_wp2_with fail
      go_ret
      refine ⟨_, rfl, ?_, HB.out, fun q hq => (HO.out.lt q hq).1⟩
      have := HO.out
      rw [List.take_length] at this
      exact own_SlI this (by simp [lessL]; omega)
end Go.Proofs.YtjjphiecjhijiaaDoor
/- Appends of machines; the plain law of PlantCheapest's parts. -/
namespace Go.Proofs.YtjjphiecjhijiaaDoor
open Go.RowKit

theorem info35 : (Tryd.prog.info? 35).map (fun i => (i.zero, i.size, i.bytes)) = some (some (.agg #[.int .i64 0, .int .i64 0, .int .i64 0]), 3, 24) := by kernel_rfl
theorem machs_length (l : List Mach) : (l.flatMap Mach.cells).length = l.length * 3 := by
  induction l with
  | nil => rfl
  | cons m l ih => simp only [List.flatMap_cons, List.length_append, ih, List.length_cons]; simp [Mach.cells]; omega
/-- A slice of machines as the source of an append. -/
theorem src_SlM {w : World} {rv : Value} {row : List Mach} (hr : SlM w rv row) : Src Tryd.prog 3 23 rv row.length (row.flatMap Mach.cells) w := by
  have hone : ∀ u ∈ row.flatMap Mach.cells, u.oneCell' = true := by
    intro u hu
    obtain ⟨z, _, hz⟩ := List.mem_flatMap.1 hu
    simp [Mach.cells] at hz
    rcases hz with rfl | rfl | rfl <;> rfl
  obtain ⟨a, cap, rfl, hn, hc⟩ := hr
  rcases hc with hc | ⟨b, off, rfl, hlt, hc⟩
  · obtain rfl : row = [] := List.length_eq_zero_iff.1 (by simpa using hc)
    cases a with
    | none => exact Src.ofNil w Tryd.underlying23 cap
    | some a => exact Src.ofSlice w Tryd.underlying23 a 0 cap [] (by simp) (by simp) (by simp)
  · refine Src.ofSlice w Tryd.underlying23 _ row.length cap _ (by rw [machs_length]) ?_ hone
    intro j u hu
    obtain ⟨h1, h2⟩ := List.getElem?_eq_some_iff.1 hu
    rw [← h2, Addr.add_lit]
    exact hc j h1
/-- append(own, machines...), whatever their number: at the operation. -/
theorem wp_append_machs {o : Oper} {a : Act} {K : Act → World → Prop} {Q : Exit → Act → World → Prop} (w : World) (s x : Operand)
    (ho : o.op = .call { callee := .builtin .append, args := #[s, x], argTypes := #[23, 23] }) (base : Nat) (v : Value) (n : Nat) (xs : List Value) (hs : a.eval s = v) (hown : w.ownsRow base 35 3 v n xs)
    (rv : Value) (row : List Mach) (hx : a.eval x = rv) (hr : SlM w rv row) (hsm : n + row.length ≤ 1000) (hbase : base ≤ w.heap.size) (N : Nat) (ys : List Value) (hN : n + row.length = N) (hys : xs ++ row.flatMap Mach.cells = ys)
    (h : ∀ v' w', w'.ownsRow base 35 3 v' N ys → w.grownBy w' v.ownBlock → K (a.put o.dst v') w') : o.wp Tryd.prog a w K Q := by
  subst hN hys
  obtain ⟨i0, hi, hz0, hz1, hz2⟩ := info_parts info35
  by_cases h0 : row = []
  · subst h0
    obtain ⟨ad, cap, hv, hle⟩ : ∃ ad cap, v = .slice ad n cap ∧ n ≤ cap := by
      rcases hown.2 with ⟨e, h0⟩ | ⟨g, cap, cur, e, _, _, hle, _⟩
      · exact ⟨none, 0, by rw [e, h0], by omega⟩
      · exact ⟨_, cap, e, hle⟩
    have hsrc := src_SlM hr
    have hrun := run_append_nothing (P := Tryd.prog) w 23 23 o.type 35 i0 Tryd.underlying23 hi ad n cap hle rv (by rw [hz1]; exact hsrc)
    rw [← hv] at hrun
    unfold Oper.wp execOp
    simp only [ho, resolve, invoke, builtin, Sem.run_bind, Sem.run_pure, Result.andThen_ok, List.map_toArray, List.map_cons, List.map_nil, hs, hx, hrun]
    exact h v w (by simpa using hown) ⟨rfl, rfl, rfl, Nat.le_refl _, fun _ _ _ => rfl⟩
  · have hp : 0 < row.length := List.length_pos_iff.2 h0
    have hone : ∀ u ∈ row.flatMap Mach.cells, u.oneCell' = true := by
      intro u hu
      obtain ⟨z, _, hz⟩ := List.mem_flatMap.1 hu
      simp [Mach.cells] at hz
      rcases hz with rfl | rfl | rfl <;> rfl
    obtain ⟨ad, cap, rfl, hn, hc⟩ := hr
    rcases hc with hc | ⟨b, off, rfl, hlt, hc⟩
    · omega
    · refine wp_append_lies w s x 23 ho base 35 i0 (.agg #[.int .i64 0, .int .i64 0, .int .i64 0]) 3 24 Tryd.underlying23 hi hz0 hz1 hz2 rfl (by omega) v n xs hs hown ⟨b, off, none⟩ row.length cap (row.flatMap Mach.cells) hx (by rw [machs_length]) ?_ hone hp (by unfold maxLen; omega) (by omega) hbase w.heap.size rfl (fun g cap w' h1 h2 _ _ => h _ w' h1 h2)
      intro j u hu
      obtain ⟨h1, h2⟩ := List.getElem?_eq_some_iff.1 hu
      rw [← h2, Addr.add_lit]
      exact hc j h1
theorem step_append_machs {ops : Array Oper} {o : Oper} {a : Act} {K : Act → World → Prop} {Q : Exit → Act → World → Prop} {E : Prop} (w : World) (hgd : o.guard = none) (s x : Operand)
    (ho : o.op = .call { callee := .builtin .append, args := #[s, x], argTypes := #[23, 23] }) (base : Nat) (v : Value) (n : Nat) (xs : List Value) (hs : a.eval s = v) (hown : w.ownsRow base 35 3 v n xs)
    (rv : Value) (row : List Mach) (hx : a.eval x = rv) (hr : SlM w rv row) (hsm : n + row.length ≤ 1000) (hbase : base ≤ w.heap.size) (N : Nat) (ys : List Value) (hN : n + row.length = N) (hys : xs ++ row.flatMap Mach.cells = ys)
    (h : ∀ v' w', w'.ownsRow base 35 3 v' N ys → w.grownBy w' v.ownBlock → K (a.put o.dst v') w') : if Region.wanted o (yielded ops a.tmps) = true then Oper.wp Tryd.prog o a w K Q else E := by
  have hw : Region.wanted o (yielded ops a.tmps) = true := by simp [Region.wanted, hgd]
  rw [if_pos hw]
  exact wp_append_machs w s x ho base v n xs hs hown rv row hx hr hsm hbase N ys hN hys h
theorem own_SlM {w : World} {B n : Nat} {t : TypeId} {v : Value} {l : List Mach} (h : w.ownsRow B t 3 v n (l.flatMap Mach.cells)) (hn : l.length ≤ 140737488351232) : SlM w v l := by
  have hlen : n = l.length := by have := h.1; rw [machs_length] at this; omega
  subst hlen
  rcases h.2 with ⟨rfl, h0⟩ | ⟨g, cap, cur, rfl, hg, hh, hnc, hcm, hcs, htake⟩
  · exact ⟨none, 0, by rw [h0], hn, .inl h0⟩
  · refine ⟨_, cap, rfl, hn, .inr ⟨g, 0, rfl, (Array.getElem?_eq_some_iff.1 hh).1, fun i hi => ?_⟩⟩
    rw [machs_length] at hi
    rw [Nat.zero_add, h.cellAt i hi]
    exact List.getElem?_eq_getElem (by rw [machs_length]; exact hi)

/-- Too great for PlantCheapest. -/
def PlantD.large (p : PlantD) : Bool := ((decide ((p.loads.length : Int) > 24) || decide ((p.prices.length : Int) > 24)) || decide ((p.machines.length : Int) > 3)) || decide (wrap64 (p.high - p.low) > 300)
/-- The plant with a greater High, perhaps one machine more, and lesser loads and prices. -/
def easyP (p : PlantD) (H : Int) (ms : List Mach) (d0 d1 : Int) : PlantD := ⟨p.heat, p.low, H, lessL d0 p.loads, lessL d1 p.prices, ms⟩
theorem lessL_get (d : Int) (l : List Int) (h : ∀ x ∈ l, 0 ≤ x) (i : Nat) : (lessL d l).getD i 0 ≤ l.getD i 0 := by
  unfold lessL
  rw [List.getD_eq_getElem?_getD, List.getD_eq_getElem?_getD, List.getElem?_map]
  by_cases hi : i < l.length
  · rw [List.getElem?_eq_getElem hi]
    have := h _ (List.getElem_mem hi)
    simp only [Option.map_some, Option.getD_some]
    unfold lessN; omega
  · rw [List.getElem?_eq_none (by omega)]
    simp
theorem ok_amounts {p : PlantD} (h : p.ok = true) : (∀ x ∈ p.loads, 0 ≤ x ∧ x ≤ 1000000) ∧ ∀ x ∈ p.prices, 0 ≤ x ∧ x ≤ 1000000 := by
  simp only [PlantD.ok, PlantD.hours, Bool.and_eq_true] at h
  obtain ⟨⟨_, ⟨_, h5⟩, h6⟩, _⟩ := h
  rw [fewB_iff] at h5 h6
  exact ⟨h5, h6⟩
theorem easyP_easier {p : PlantD} (hok : p.ok = true) {H : Int} {ms : List Mach} {d0 d1 : Int} (hH : p.high ≤ H) (hm : ∃ more, ms = p.machines ++ more) : Easier p (easyP p H ms d0 d1) where
  heat := rfl
  low := rfl
  high := hH
  len := by simp [easyP, lessL]
  load := fun i => lessL_get d0 p.loads (fun x hx => ((ok_amounts hok).1 x hx).1) i
  price := fun i => lessL_get d1 p.prices (fun x hx => ((ok_amounts hok).2 x hx).1) i
  machs := hm
/-- A schedule of numbers in range is valid. -/
theorem own_sched {p : PlantD} (hok : p.ok = true) {l : List Int} (hl : l.length = p.loads.length) (hx : ∀ x ∈ l, 0 ≤ x ∧ x < (2 : Int) ^ p.m) : p.sched l = true := by
  simp only [PlantD.sched, Bool.and_eq_true, beq_iff_eq, List.all_eq_true]
  refine ⟨⟨hok, hl⟩, fun x h => ?_⟩
  have := hx x h
  simp only [inB, Bool.and_eq_true, decide_eq_true_eq]
  omega
/-- Are the heats so far at most the greatest one? -/
def okHeats (p : PlantD) (l : List Int) (k : Nat) : Bool := (p.heats l k).all fun x => decide (x ≤ p.high)
theorem okHeats_succ (p : PlantD) (l : List Int) (k : Nat) : okHeats p l (k + 1) = (okHeats p l k && decide (p.heatAt l (k + 1) ≤ p.high)) := by
  unfold okHeats
  rw [heats_succ, List.all_append]
  simp
theorem okHeats_fits {p : PlantD} {l : List Int} (h : okHeats p l p.loads.length = true) : p.fits l := by
  intro k hk
  unfold okHeats at h
  rw [List.all_eq_true] at h
  have := h (p.heatAt l (k + 1)) (List.mem_map.2 ⟨k, List.mem_range.2 hk, rfl⟩)
  simpa using this
theorem heats_get (p : PlantD) (l : List Int) (n k : Nat) (h : k < (p.heats l n).length) : (p.heats l n)[k] = p.heatAt l (k + 1) := by
  simp [PlantD.heats]
end Go.Proofs.YtjjphiecjhijiaaDoor
/- Boxes for the walk of besomlaw12.PlantCheapest. -/
namespace Go.Proofs.YtjjphiecjhijiaaDoor
open Go.RowKit Go.Maps
attribute [local go_sem] alloc_drewN setCell_drewN

theorem bel_one {w : World} (o : Obj) : Below w.heap.size w (w.alloc o) := (Below.refl _ _).alloc (Nat.le_refl _) _
/-- A machine and a pair of numbers in boxes. -/
def BoxM (w : World) (B : Nat) (m : Mach) : Prop := w.cell? ⟨B, 0, none⟩ = some (.int .i64 m.cold) ∧ w.cell? ⟨B, 1, none⟩ = some (.int .i64 m.power) ∧ w.cell? ⟨B, 2, none⟩ = some (.int .i64 m.start)
theorem BoxM.below {w w' : World} {B : Nat} {m : Mach} (hb : BoxM w B m) (k : Below w.heap.size w w') : BoxM w' B m := ⟨bcs k hb.1, bcs k hb.2.1, bcs k hb.2.2⟩
def Box2 (w : World) (B : Nat) (x y : Int) : Prop := w.cell? ⟨B, 0, none⟩ = some (.int .i64 x) ∧ w.cell? ⟨B, 1, none⟩ = some (.int .i64 y)
theorem Box2.below {w w' : World} {B : Nat} {x y : Int} (hb : Box2 w B x y) (k : Below w.heap.size w w') : Box2 w' B x y := ⟨bcs k hb.1, bcs k hb.2⟩
/-- The three boxes of PlantCheapest. -/
theorem boxes_cheap (w : World) (h l g : Int) (v1 v2 v3 : Value) (x y : Int) (m : Mach) : ∃ W0, (((w.alloc (.cells #[.int .i64 h, .int .i64 l, .int .i64 g, v1, v2, v3] 25)).alloc (.cells #[.int .i64 x, .int .i64 y] 33)).alloc (.cells #[.int .i64 m.cold, .int .i64 m.power, .int .i64 m.start] 35)) = W0 ∧ Below w.heap.size w W0 ∧ BoxP W0 w.heap.size h l g v1 v2 v3 ∧ Box2 W0 (w.heap.size + 1) x y ∧ BoxM W0 (w.heap.size + 1 + 1) m := by
  obtain ⟨W1, e1, hb1, hx1⟩ := box_plant w h l g v1 v2 v3
  rw [e1]
  have hz : W1.heap.size = w.heap.size + 1 := by rw [← e1]; simp
  have hb2 : Below W1.heap.size W1 (W1.alloc (.cells #[.int .i64 x, .int .i64 y] 33)) := bel_one _
  have hb3 : Below (W1.alloc (.cells #[.int .i64 x, .int .i64 y] 33)).heap.size (W1.alloc (.cells #[.int .i64 x, .int .i64 y] 33)) ((W1.alloc (.cells #[.int .i64 x, .int .i64 y] 33)).alloc (.cells #[.int .i64 m.cold, .int .i64 m.power, .int .i64 m.start] 35)) := bel_one _
  refine ⟨_, rfl, ?_, (hx1.below hb2).below hb3, ?_, ?_⟩
  · exact hb1.trans ((hb2.mono (by omega)).trans (hb3.mono (by simp; omega)))
  · refine Box2.below ?_ hb3
    rw [← hz]
    exact ⟨cell_new W1 _ _ 0 _ rfl, cell_new W1 _ _ 1 _ rfl⟩
  · have hz2 : (W1.alloc (.cells #[.int .i64 x, .int .i64 y] 33)).heap.size = w.heap.size + 1 + 1 := by simp [hz]
    rw [← hz2]
    exact ⟨cell_new _ _ _ 0 _ rfl, cell_new _ _ _ 1 _ rfl, cell_new _ _ _ 2 _ rfl⟩

theorem heats_open {w : World} {v : Value} {p : PlantD} {l : List Int} {n : Nat} (h : SlI w v (p.heats l n)) : ∃ a cap, v = .slice a n cap ∧ ∀ k, k < n → ∃ b off, a = some ⟨b, off, none⟩ ∧ b < w.heap.size ∧ ∀ j, j < n → w.cell? ⟨b, off + j, none⟩ = some (.int .i64 (p.heatAt l (j + 1))) := by
  obtain ⟨a, cap, e, -, hc⟩ := h.open
  have hl := heats_length p l n
  refine ⟨a, cap, by rw [e, hl], fun k hk => ?_⟩
  obtain ⟨b, off, ea, hb, hx⟩ := hc k (by rw [hl]; exact hk)
  refine ⟨b, off, ea, hb, fun j hj => ?_⟩
  have := hx j (by rw [hl]; exact hj)
  rw [heats_get] at this
  exact this
def FrzB (w : World) (B : Nat) : Prop := ∀ i, w.frozen? ⟨B, i, none⟩ = false
theorem FrzB.set {w : World} {B : Nat} (h : FrzB w B) (a : Addr) (v : Value) : FrzB (w.setCell a v) B := fun i => by simpa [go_sem] using h i
theorem FrzB.below {w w' : World} {B : Nat} (h : FrzB w B) (hb : Below w.heap.size w w') (hlt : B < w.heap.size) : FrzB w' B := fun i => (hb.frozen (p := ⟨B, i, none⟩) hlt).trans (h i)
theorem set_far {w : World} {B i j : Nat} {u x : Value} (h : w.cell? ⟨B, j, none⟩ = some x) (hne : i ≠ j) : (w.setCell ⟨B, i, none⟩ u).cell? ⟨B, j, none⟩ = some x := by
  rw [World.cell?_setCell_other _ _ _ _ (by intro e; injection e with h1 h2; exact hne h2)]
  exact h
theorem BoxP.set2 {w : World} {B : Nat} {h l g : Int} {v1 v2 v3 : Value} (b : BoxP w B h l g v1 v2 v3) (g' : Int) : BoxP (w.setCell ⟨B, 2, none⟩ (.int .i64 g')) B h l g' v1 v2 v3 := by
  obtain ⟨c0, c1, c2, c3, c4, c5⟩ := b
  exact ⟨set_far c0 (by decide), set_far c1 (by decide), World.cell?_setCell_same _ _ _ c2, set_far c3 (by decide), set_far c4 (by decide), set_far c5 (by decide)⟩
theorem BoxP.set3 {w : World} {B : Nat} {h l g : Int} {v1 v2 v3 : Value} (b : BoxP w B h l g v1 v2 v3) (v : Value) : BoxP (w.setCell ⟨B, 3, none⟩ v) B h l g v v2 v3 := by
  obtain ⟨c0, c1, c2, c3, c4, c5⟩ := b
  exact ⟨set_far c0 (by decide), set_far c1 (by decide), set_far c2 (by decide), World.cell?_setCell_same _ _ _ c3, set_far c4 (by decide), set_far c5 (by decide)⟩
theorem BoxP.set4 {w : World} {B : Nat} {h l g : Int} {v1 v2 v3 : Value} (b : BoxP w B h l g v1 v2 v3) (v : Value) : BoxP (w.setCell ⟨B, 4, none⟩ v) B h l g v1 v v3 := by
  obtain ⟨c0, c1, c2, c3, c4, c5⟩ := b
  exact ⟨set_far c0 (by decide), set_far c1 (by decide), set_far c2 (by decide), set_far c3 (by decide), World.cell?_setCell_same _ _ _ c4, set_far c5 (by decide)⟩
theorem BoxP.set5 {w : World} {B : Nat} {h l g : Int} {v1 v2 v3 : Value} (b : BoxP w B h l g v1 v2 v3) (v : Value) : BoxP (w.setCell ⟨B, 5, none⟩ v) B h l g v1 v2 v := by
  obtain ⟨c0, c1, c2, c3, c4, c5⟩ := b
  exact ⟨set_far c0 (by decide), set_far c1 (by decide), set_far c2 (by decide), set_far c3 (by decide), set_far c4 (by decide), World.cell?_setCell_same _ _ _ c5⟩
/-- The copy of the plant, with a greater High; with perhaps one machine more. -/
def HiQ (p : PlantD) (v1 v2 v3 : Value) (Q : Nat) (w9 wx : World) : Prop := ∃ H, p.high ≤ H ∧ BoxP wx Q p.heat p.low H v1 v2 v3 ∧ Below Q w9 wx ∧ FrzB wx Q
def MsQ (p : PlantD) (v1 v2 : Value) (Q : Nat) (w9 wx : World) : Prop := ∃ H vm' ms, p.high ≤ H ∧ SlM wx vm' ms ∧ (∃ more, ms = p.machines ++ more) ∧ BoxP wx Q p.heat p.low H v1 v2 vm' ∧ Below Q w9 wx ∧ FrzB wx Q
theorem cellQ {B Q i : Nat} {w w' : World} {x : Value} (h : w.cell? ⟨B, i, none⟩ = some x) (hb : Below Q w w') (hlt : B < Q) : w'.cell? ⟨B, i, none⟩ = some x := (hb.cell (p := ⟨B, i, none⟩) hlt).trans h
theorem BoxP.belowQ {w w' : World} {B Q : Nat} {h l g : Int} {v1 v2 v3 : Value} (b : BoxP w B h l g v1 v2 v3) (hb : Below Q w w') (hlt : B < Q) : BoxP w' B h l g v1 v2 v3 :=
  ⟨cellQ b.1 hb hlt, cellQ b.2.1 hb hlt, cellQ b.2.2.1 hb hlt, cellQ b.2.2.2.1 hb hlt, cellQ b.2.2.2.2.1 hb hlt, cellQ b.2.2.2.2.2 hb hlt⟩
theorem BoxM.belowQ {w w' : World} {B Q : Nat} {m : Mach} (b : BoxM w B m) (hb : Below Q w w') (hlt : B < Q) : BoxM w' B m := ⟨cellQ b.1 hb hlt, cellQ b.2.1 hb hlt, cellQ b.2.2 hb hlt⟩
theorem Box2.belowQ {w w' : World} {B Q : Nat} {x y : Int} (b : Box2 w B x y) (hb : Below Q w w') (hlt : B < Q) : Box2 w' B x y := ⟨cellQ b.1 hb hlt, cellQ b.2 hb hlt⟩
def ByteV (v : Value) : Prop := ∃ n : Int, 0 ≤ n ∧ n ≤ 255 ∧ v = .int .i64 n
end Go.Proofs.YtjjphiecjhijiaaDoor
/- The tail of besomlaw12.PlantCheapest: an easier plant costs no more. -/
namespace Go.Proofs.YtjjphiecjhijiaaDoor
open Go.RowKit Go.Maps
attribute [local go_sem] alloc_drewN setCell_drewN

theorem made_mach (w : World) (m : Mach) : SlM (w.alloc (.cells #[.int .i64 m.cold, .int .i64 m.power, .int .i64 m.start] 35)) (.slice (some ⟨w.heap.size, 0, none⟩) 1 1) [m] := by
  refine ⟨_, 1, rfl, by simp, .inr ⟨w.heap.size, 0, rfl, by simp, ?_⟩⟩
  intro i hi
  have hi3 : i < 3 := by simpa [Mach.cells] using hi
  rw [Nat.zero_add]
  match i, hi3 with
  | 0, _ => simp [World.cell?_alloc_new, Mach.cells]
  | 1, _ => simp [World.cell?_alloc_new, Mach.cells]
  | 2, _ => simp [World.cell?_alloc_new, Mach.cells]
theorem SlV.grown {w w' : World} {v : Value} {n : Nat} {vs : List Value} {r : Option Nat} (h : SlV w v n vs) (hg : w.grownBy w' r) (hne : ∀ q, v.ownBlock = some q → r ≠ some q) : SlV w' v n vs := by
  obtain ⟨a, cap, rfl, hn, hc⟩ := h
  refine ⟨a, cap, rfl, hn, hc.imp id ?_⟩
  rintro ⟨b, off, rfl, hlt, hc⟩
  refine ⟨b, off, rfl, Nat.lt_of_lt_of_le hlt hg.size, fun i hi => ?_⟩
  rw [hg.cell_far ⟨b, off + i, none⟩ hlt (fun e => hne b rfl e.symm)]
  exact hc i hi
theorem made_own2 (w : World) (o : Obj) : ((w.alloc o).alloc (.cells #[] 35)).ownsRow w.heap.size 35 3 (.slice (some ⟨w.heap.size + 1, 0, none⟩) 0 0) 0 [] := by
  have h := World.ownsRow_made (base := w.heap.size) (e := 35) (size := 3) (w.alloc o) #[] 0 (by simp) (by decide) rfl
  rw [World.size_alloc] at h
  exact h
theorem made_mach3 (w : World) (m : Mach) (o : Obj) : SlM ((w.alloc (.cells #[.int .i64 m.cold, .int .i64 m.power, .int .i64 m.start] 35)).alloc o) (.slice (some ⟨w.heap.size, 0, none⟩) 1 1) [m] := (made_mach w m).below (bel_one _)
theorem SlV.setFar {w : World} {v x : Value} {n B i : Nat} {vs : List Value} (h : SlV w v n vs) (hne : ∀ q, v.ownBlock = some q → q ≠ B) : SlV (w.setCell ⟨B, i, none⟩ x) v n vs := by
  obtain ⟨a, cap, rfl, hn, hc⟩ := h
  refine ⟨a, cap, rfl, hn, hc.imp id ?_⟩
  rintro ⟨b, off, rfl, hlt, hc⟩
  refine ⟨b, off, rfl, by simpa using hlt, fun j hj => ?_⟩
  rw [World.cell?_setCell_far _ _ _ _ (fun e => hne b rfl e.symm)]
  exact hc j hj
theorem SlV.setFar2 {w : World} {v x : Value} {n B i : Nat} {vs : List Value} (h : SlV w v n vs) (hne : n = 0 ∨ ∀ q, v.ownBlock = some q → q ≠ B) : SlV (w.setCell ⟨B, i, none⟩ x) v n vs := by
  obtain ⟨a, cap, rfl, hn, hc⟩ := h
  rcases hne with h0 | hne
  · exact ⟨a, cap, rfl, hn, .inl h0⟩
  · exact SlV.setFar ⟨a, cap, rfl, hn, hc⟩ hne
theorem SlV.own_lt {w : World} {v : Value} {n : Nat} {vs : List Value} (h : SlV w v n vs) : n = 0 ∨ ∀ q, v.ownBlock = some q → q < w.heap.size := by
  obtain ⟨a, cap, rfl, hn, h0 | ⟨b, off, rfl, hlt, -⟩⟩ := h
  · exact .inl h0
  · right
    intro q hq
    have e : b = q := Option.some.inj hq
    omega
/-- MsQ, and the machines lie elsewhere. -/
def MsR (p : PlantD) (v1 v2 : Value) (Q : Nat) (w9 wx : World) : Prop := ∃ H vm' ms, p.high ≤ H ∧ SlM wx vm' ms ∧ (∃ more, ms = p.machines ++ more) ∧ BoxP wx Q p.heat p.low H v1 v2 vm' ∧ Below Q w9 wx ∧ FrzB wx Q ∧ (ms.length = 0 ∨ ∀ q, vm'.ownBlock = some q → q ≠ Q)
/-- The copy with lesser loads and prices. -/
def LsQ (p : PlantD) (d0 d1 : Int) (H : Int) (vm2 : Value) (ms : List Mach) (Q : Nat) (w9 wx : World) : Prop := ∃ v1 v2, SlI wx v1 (lessL d0 p.loads) ∧ SlI wx v2 (lessL d1 p.prices) ∧ SlM wx vm2 ms ∧ BoxP wx Q p.heat p.low H v1 v2 vm2 ∧ Below Q w9 wx
theorem SlV.form {w : World} {v : Value} {n : Nat} {vs : List Value} (h : SlV w v n vs) : ∃ a cap, v = .slice a n cap := by
  obtain ⟨a, cap, rfl, -, -⟩ := h
  exact ⟨a, cap, rfl⟩
/-- Behind the two stores, in either order. -/
theorem lsq_of {p : PlantD} {d0 d1 H : Int} {v1 v2 v3 v4 vm : Value} {ms : List Mach} {Q : Nat} {w9 w11 wa wb : World} (hx : BoxP w11 Q p.heat p.low H v3 v4 vm) (hb : Below Q w9 w11) (hQ : Q < w11.heap.size) (hsm : SlM w11 vm ms) (hfm : ms.length = 0 ∨ ∀ q, vm.ownBlock = some q → q ≠ Q)
    (h1 : SlI wa v1 (lessL d0 p.loads)) (hbl : Below w11.heap.size w11 wa) (hf1 : ∀ q, v1.ownBlock = some q → w11.heap.size ≤ q) (h2 : SlI wb v2 (lessL d1 p.prices)) (hbp : Below wa.heap.size wa wb) (hf2 : ∀ q, v2.ownBlock = some q → wa.heap.size ≤ q) :
    LsQ p d0 d1 H vm ms Q w9 ((wb.setCell ⟨Q, 3, none⟩ v1).setCell ⟨Q, 4, none⟩ v2) ∧ LsQ p d0 d1 H vm ms Q w9 ((wb.setCell ⟨Q, 4, none⟩ v2).setCell ⟨Q, 3, none⟩ v1) := by
  have hz := hbl.size
  have hb2 : Below w11.heap.size w11 wb := hbl.trans (hbp.mono hz)
  have hx2 := hx.below hb2
  have hs2 := hsm.below hb2
  have h12 : SlI wb v1 (lessL d0 p.loads) := h1.below hbp
  have g1 : ∀ q, v1.ownBlock = some q → q ≠ Q := fun q h => by have := hf1 q h; omega
  have g2 : ∀ q, v2.ownBlock = some q → q ≠ Q := fun q h => by have := hf2 q h; omega
  have hbb : Below Q w9 wb := hb.trans (hb2.mono (Nat.le_of_lt hQ))
  exact ⟨⟨v1, v2, SlV.setFar (SlV.setFar h12 g1) g1, SlV.setFar (SlV.setFar h2 g2) g2, SlV.setFar2 (SlV.setFar2 hs2 hfm) hfm, (hx2.set3 v1).set4 v2, (hbb.setCell (p := ⟨Q, 3, none⟩) (Nat.le_refl _) _).setCell (p := ⟨Q, 4, none⟩) (Nat.le_refl _) _⟩,
    ⟨v1, v2, SlV.setFar (SlV.setFar h12 g1) g1, SlV.setFar (SlV.setFar h2 g2) g2, SlV.setFar2 (SlV.setFar2 hs2 hfm) hfm, (hx2.set4 v2).set3 v1, (hbb.setCell (p := ⟨Q, 4, none⟩) (Nat.le_refl _) _).setCell (p := ⟨Q, 3, none⟩) (Nat.le_refl _) _⟩⟩
theorem below_two {w w1 w2 : World} {B : Nat} (h : Below B w w1) (hb : B ≤ w.heap.size) (h2 : Below w1.heap.size w1 w2) : Below B w w2 := h.trans (h2.mono (Nat.le_trans hb h.size))
/-- What a cell holds, under a name. -/
def cd (w : World) (a : Addr) : Value := (w.cell? a).getD (.bool false)
theorem cd_of {w : World} {a : Addr} {x : Value} (h : w.cell? a = some x) : w.cell? a = some (cd w a) := by unfold cd; rw [h]; rfl
theorem use2 {a b : Prop} (h : a) (k : a → b) : b := k h
theorem made_mach2 (w : World) (m : Mach) (o : Obj) : SlM ((w.alloc o).alloc (.cells #[.int .i64 m.cold, .int .i64 m.power, .int .i64 m.start] 35)) (.slice (some ⟨w.heap.size + 1, 0, none⟩) 1 1) [m] := by
  have h := made_mach (w.alloc o) m
  rw [World.size_alloc] at h
  exact h
/-- The code from a region on, out of a row of statements. -/
def fromReg (n : Nat) : Code → Option Code
  | .region k ops d => if k = n then some (.region k ops d) else none
  | .seq a b => match fromReg n a with
    | some c => some (.seq c b)
    | none => fromReg n b
  | _ => none
noncomputable def tailCode2 : Code := ((Tryd.f4.body.bind (fromReg 38)).getD .skip)

set_option maxRecDepth 1000000 in
set_option maxHeartbeats 2000000 in
theorem cheap_tail2 (p : PlantD) (d0 d1 : Int) (C : Int) (w w9 wc : World) (B0 B1 Q0 : Nat) (al ap am : Option Addr) (cl cp cm : Nat)
    (hL : SlI w (.slice al p.loads.length cl) p.loads) (hPr : SlI w (.slice ap p.prices.length cp) p.prices)
    (hB : Below w.heap.size w w9) (hT : TabW w9) (h01 : w.heap.size ≤ B0) (h02 : B0 < Q0) (h03 : B1 < Q0) (hQ : Q0 < w9.heap.size)
    (hbx : BoxP w9 B0 p.heat p.low p.high (.slice al p.loads.length cl) (.slice ap p.prices.length cp) (.slice am p.machines.length cm)) (hb2 : Box2 w9 B1 d0 d1)
    (h00 : 1 < w.heap.size) (hok : p.ok = true) (hcb : p.coolB.isSome = true) (hC : p.coolC = C)
    (hcut : MsR p (.slice al p.loads.length cl) (.slice ap p.prices.length cp) Q0 w9 wc) (s0 s1 s2 s3 s4 s6 s8 s9 s10 s11 s13 s14 s15 s16 s17 s18 s19 s20 s21 s22 s23 s25 s26 s27 s28 s29 s30 s31 s32 s33 s34 s35 s36 s37 s38 s39 s40 s41 s42 s43 s44 s45 s46 s47 s48 s49 s50 s51 s52 s53 s54 s55 s56 s57 s58 s59 s60 s61 s62 s63 s64 s65 s66 s67 s68 s69 s70 s71 s72 s73 s74 s75 s76 s77 s78 s79 s80 s81 s82 s83 s84 s85 s86 s87 s88 s89 s90 s91 s92 s93 s94 s95 s96 s97 s98 s99 s100 s101 s102 s103 s104 s105 s106 s107 s108 s109 s110 s111 s112 s113 s114 s115 s116 s117 s118 s119 s120 s121 s122 s123 s124 s125 s126 s127 s128 s129 s130 s131 s132 s133 s134 s135 s136 s137 s138 s139 s140 s141 s142 s143 s144 s145 s146 s147 s148 s149 s150 s151 s152 s153 s154 s155 s156 s157 s158 s159 s160 s161 s162 s163 s164 s165 s166 s167 s168 s169 s170 s171 s172 s173 s174 s175 s176 s177 s178 s179 s180 s181 s182 s183 s184 s185 s186 s187 s188 s189 s190 s191 s192 s193 s194 s195 s196 s197 s198 s199 s200 s201 s202 s203 s204 s205 s206 s207 s208 s209 s210 s211 s212 s213 s214 s215 s216 s217 s218 s219 s220 s221 s222 s223 s224 s225 s226 s227 s228 : Value) :
    Code.wp Tryd.prog tailCode2 (bodyPost Tryd.prog Tryd.f4 (True1 w)) ⟨#[s0, s1, s2, s3, s4, .pointer (some ⟨B0, 0, none⟩), s6, .pointer (some ⟨B1, 0, none⟩), s8, s9, s10, s11, .int .i64 C, s13, s14, s15, s16, s17, s18, s19, s20, s21, s22, s23, .pointer (some ⟨Q0, 0, none⟩), s25, s26, s27, s28, s29, s30, s31, s32, s33, s34, s35, s36, s37, s38, s39, s40, s41, s42, s43, s44, s45, s46, s47, s48, s49, s50, s51, s52, s53, s54, s55, s56, s57, s58, s59, s60, s61, s62, s63, s64, s65, s66, s67, s68, s69, s70, s71, s72, s73, s74, s75, s76, s77, s78, s79, s80, s81, s82, s83, s84, s85, s86, s87, s88, s89, s90, s91, s92, s93, s94, s95, s96, s97, s98, s99, s100, s101, s102, s103, s104, s105, s106, s107, s108, s109, s110, s111, s112, s113, s114, s115, s116, s117, s118, s119, s120, s121, s122, s123, s124, s125, s126, s127, s128, s129, s130, s131, s132, s133, s134, s135, s136, s137, s138, s139, s140, s141, s142, s143, s144, s145, s146, s147, s148, s149, s150, s151, s152, s153, s154, s155, s156, s157, s158, s159, s160, s161, s162, s163, s164, s165, s166, s167, s168, s169, s170, s171, s172, s173, s174, s175, s176, s177, s178, s179, s180, s181, s182, s183, s184, s185, s186, s187, s188, s189, s190, s191, s192, s193, s194, s195, s196, s197, s198, s199, s200, s201, s202, s203, s204, s205, s206, s207, s208, s209, s210, s211, s212, s213, s214, s215, s216, s217, s218, s219, s220, s221, s222, s223, s224, s225, s226, s227, s228], []⟩ wc := by
  have ho := ok_Ok hok
  have hday := ho.day
  have hpl : p.prices.length ≤ 48 := by have := ho.len; omega
  have HB := hid hB
  have HT := hid hT
  have HBX := hid hbx
  have HB2 := hid hb2
  have HOK := hid hok
  have HCB := hid hcb
  have HC := hid hC
  have HL := hid hL
  have HPR := hid hPr
  clear hB hT hb2 hok hcb hC hL hPr hbx
  conv => arg 2; whnf
  conv => arg 4; dsimp only
  obtain ⟨H2, vm2, ms, hH2, hsm, hmore, hbx11, hb11, hf11, hfm⟩ := hcut
  obtain ⟨w11, rfl⟩ : ∃ w11 : World, w11 = wc := ⟨_, rfl⟩
  have HX11 := hid hbx11
  have HF11 := hid hf11
  have HB11 := hid hb11
  have HSM := hid hsm
  have HMO := hid hmore
  have HFM := hid hfm
  have HBX11 := hid (HBX.out.belowQ hb11 h02)
  have HB211 := hid (HB2.out.belowQ hb11 h03)
  have HW11 := hid (HB.out.trans (hb11.mono (by omega)))
  have HL11 := hid (HL.out.below HW11.out)
  have HP11 := hid (HPR.out.below HW11.out)
  have hz11 : w9.heap.size ≤ w11.heap.size := hb11.size
  have hq11 : Q0 < w11.heap.size := by omega
  have hy0 : B0 < w11.heap.size := by omega
  have hy1 : B1 < w11.heap.size := by omega
  have ham := ok_amounts HOK.out
  have HAM := hid ham
  have f3 := hf11 3
  have f4 := hf11 4
  clear hb11 hf11 hsm hmore hfm ham
  obtain ⟨c0, c1, c2, c3, c4, c5⟩ := HBX11.out
  obtain ⟨e0, e1, e2, e3, e4, e5⟩ := hbx11
  obtain ⟨m0, m1⟩ := HB211.out
  go_upto_region 38 with fail
  go_cut [24] (fun v wx => v = .pointer (some ⟨Q0, 0, none⟩) ∧ LsQ p d0 d1 H2 vm2 ms Q0 w9 wx)
  case first =>
    go_region_held3 (fun w' => w'.cell? ⟨B0, 3, none⟩ = some (.slice al p.loads.length cl) ∧ w'.cell? ⟨B0, 4, none⟩ = some (.slice ap p.prices.length cp) ∧ w'.cell? ⟨B1, 0, none⟩ = some (.int .i64 d0) ∧ w'.cell? ⟨B1, 1, none⟩ = some (.int .i64 d1) ∧ w'.cell? ⟨Q0, 3, none⟩ = some (cd w' ⟨Q0, 3, none⟩) ∧ w'.cell? ⟨Q0, 4, none⟩ = some (cd w' ⟨Q0, 4, none⟩) ∧ w'.frozen? ⟨Q0, 3, none⟩ = false ∧ w'.frozen? ⟨Q0, 4, none⟩ = false)
      (first | exact ⟨c3, c4, m0, m1, cd_of e3, cd_of e4, f3, f4⟩ | exact ⟨bcs hbp (bcs hbl c3), bcs hbp (bcs hbl c4), bcs hbp (bcs hbl m0), bcs hbp (bcs hbl m1), cd_of (bcs hbp (bcs hbl e3)), cd_of (bcs hbp (bcs hbl e4)), (hbp.frozen (p := ⟨Q0, 3, none⟩) (Nat.lt_of_lt_of_le hq11 hbl.size)).trans ((hbl.frozen (p := ⟨Q0, 3, none⟩) hq11).trans f3), (hbp.frozen (p := ⟨Q0, 4, none⟩) (Nat.lt_of_lt_of_le hq11 hbl.size)).trans ((hbl.frozen (p := ⟨Q0, 4, none⟩) hq11).trans f4)⟩ | exact ⟨bcs hbl c3, bcs hbl c4, bcs hbl m0, bcs hbl m1, cd_of (bcs hbl e3), cd_of (bcs hbl e4), (hbl.frozen (p := ⟨Q0, 3, none⟩) hq11).trans f3, (hbl.frozen (p := ⟨Q0, 4, none⟩) hq11).trans f4⟩ | exact ⟨(World.cell?_setCell_far _ _ _ _ (show Q0 ≠ B0 by omega)).trans n3, (World.cell?_setCell_far _ _ _ _ (show Q0 ≠ B0 by omega)).trans n4, (World.cell?_setCell_far _ _ _ _ (show Q0 ≠ B1 by omega)).trans n0, (World.cell?_setCell_far _ _ _ _ (show Q0 ≠ B1 by omega)).trans n1, cd_of (World.cell?_setCell_same _ _ _ ne3), cd_of (set_far ne4 (by decide)), (World.frozen?_setCell ..).trans nf3, (World.frozen?_setCell ..).trans nf4⟩ | exact ⟨(World.cell?_setCell_far _ _ _ _ (show Q0 ≠ B0 by omega)).trans ((World.cell?_setCell_far _ _ _ _ (show Q0 ≠ B0 by omega)).trans n3), (World.cell?_setCell_far _ _ _ _ (show Q0 ≠ B0 by omega)).trans ((World.cell?_setCell_far _ _ _ _ (show Q0 ≠ B0 by omega)).trans n4), (World.cell?_setCell_far _ _ _ _ (show Q0 ≠ B1 by omega)).trans ((World.cell?_setCell_far _ _ _ _ (show Q0 ≠ B1 by omega)).trans n0), (World.cell?_setCell_far _ _ _ _ (show Q0 ≠ B1 by omega)).trans ((World.cell?_setCell_far _ _ _ _ (show Q0 ≠ B1 by omega)).trans n1), cd_of (set_far (World.cell?_setCell_same _ _ _ ne3) (by decide)), cd_of (World.cell?_setCell_same _ _ _ (set_far ne4 (by decide))), (World.frozen?_setCell ..).trans ((World.frozen?_setCell ..).trans nf3), (World.frozen?_setCell ..).trans ((World.frozen?_setCell ..).trans nf4)⟩ | go_keep)
      (first
        | (go_at_call 18; (with_reducible refine (lesser_any (.slice al p.loads.length cl) p.loads d0 _ (HL11.out.below ?_) (by omega) HAM.out.1).mono ?_); (first | exact Below.refl _ _ | exact Below.drew (Below.refl _ _) | exact drewNB (Below.refl _ _) _); (rintro e w' ⟨v1, rfl, hl1, hbl, hfr1⟩; obtain ⟨av1, cv1, rfl, -, -⟩ := hl1.open))
        | (go_at_call 18; (with_reducible refine (lesser_any (.slice ap p.prices.length cp) p.prices d1 _ (HP11.out.below ?_) (by omega) HAM.out.2).mono ?_); (first | exact below_two (Below.drew (Below.refl _ _)) (Nat.le_refl _) hbl | exact below_two (drewNB (Below.refl _ _) _) (Nat.le_refl _) hbl | exact hbl); (rintro e w' ⟨v2, rfl, hl2, hbp, hfr2⟩; obtain ⟨av2, cv2, rfl, -, -⟩ := hl2.open; have n3 := bcs hbp (bcs hbl c3); have n4 := bcs hbp (bcs hbl c4); have n0 := bcs hbp (bcs hbl m0); have n1 := bcs hbp (bcs hbl m1); have ne3 := bcs hbp (bcs hbl e3); have ne4 := bcs hbp (bcs hbl e4); have nf3 := (hbp.frozen (p := ⟨Q0, 3, none⟩) (Nat.lt_of_lt_of_le hq11 hbl.size)).trans ((hbl.frozen (p := ⟨Q0, 3, none⟩) hq11).trans f3); have nf4 := (hbp.frozen (p := ⟨Q0, 4, none⟩) (Nat.lt_of_lt_of_le hq11 hbl.size)).trans ((hbl.frozen (p := ⟨Q0, 4, none⟩) hq11).trans f4))))
    all_goals
      go_wp2_with fail
    all_goals
      go_meet
      have hbl' : Below w11.heap.size w11 _ := (by first | exact hbl | exact below_two (Below.drew (Below.refl _ _)) (Nat.le_refl _) hbl | exact below_two (drewNB (Below.refl _ _) _) (Nat.le_refl _) hbl)
      refine ⟨rfl, ?_⟩
      have q := lsq_of HX11.out HB11.out hq11 HSM.out HFM.out hl1 hbl' hfr1 hl2 hbp hfr2
      first
        | exact q.1
        | exact q.2
  case rest =>
    obtain ⟨rfl, v1, v2, hl1, hl2, hsm2, hbx12, hb12⟩ := hcut
    obtain ⟨w12, rfl⟩ : ∃ w12 : World, w12 = wc := ⟨_, rfl⟩
    have HW12 := hid (HB.out.trans (hb12.mono (by omega)))
    obtain ⟨a1, k1, rfl⟩ := SlV.form hl1
    obtain ⟨a2, k2, rfl⟩ := SlV.form hl2
    obtain ⟨a3, k3, rfl⟩ := SlV.form hsm2
    have HPQ := hid (show PlantV w12 (.agg #[.int .i64 p.heat, .int .i64 p.low, .int .i64 H2, .slice a1 (lessL d0 p.loads).length k1, .slice a2 (lessL d1 p.prices).length k2, .slice a3 ms.length k3]) (easyP p H2 ms d0 d1) from ⟨_, _, _, rfl, hl1, hl2, hsm2⟩)
    have HEZ := hid (easyP_easier (d0 := d0) (d1 := d1) HOK.out hH2 HMO.out)
    have HCK := hid (refCheck_any _ _ _ HPQ.out)
    have HT12 := hid (HT.out.below hb12 (by omega))
    clear hl1 hl2 hsm2 hb12 c0 c1 c2 c3 c4 c5 e0 e1 e2 e3 e4 e5 m0 m1 f3 f4
    obtain ⟨e0, e1, e2, e3, e4, e5⟩ := hbx12
    cases hqo : (easyP p H2 ms d0 d1).ok with
    | false =>
      rw [hqo] at HCK
      clear hqo
      go_wp2_with fail
      refine HCK.out.mono ?_
      rintro e w13 ⟨rfl, hb13⟩
      have HB13 := hid (HW12.out.trans (hb13.mono HW12.out.size))
      have HT13 := hid (HT12.out.below' hb13)
      clear hb13
      go_wp2_with fail
      refine (awake_any _ HT13.out).mono ?_
      rintro e w14 ⟨rfl, hb14⟩
      have HB14 := hid (HB13.out.trans (hb14.mono HB13.out.size))
      clear hb14
      go_wp2_with fail
      go_ret
      exact ⟨rfl, HB14.out⟩
    | true =>
      have hce := cool_easier HEZ.out HOK.out hqo HCB.out
      have hE : (easyP p H2 ms d0 d1).coolE = 0 := by unfold PlantD.coolE; rw [hqo, if_pos rfl, hce.1, if_pos rfl]
      have hlc : decide ((easyP p H2 ms d0 d1).coolC ≤ C) = true := by rw [← HC.out]; exact decide_eq_true hce.2
      have HPE := hid hE
      have HLC := hid hlc
      rw [hqo] at HCK
      clear hqo hce hE hlc
      go_wp2_with fail
      refine HCK.out.mono ?_
      rintro e w13 ⟨rfl, hb13⟩
      have HB13 := hid (HW12.out.trans (hb13.mono HW12.out.size))
      have HT13 := hid (HT12.out.below' hb13)
      have HPQ13 := hid (HPQ.out.below hb13)
      have f0 := bcs hb13 e0
      have f1 := bcs hb13 e1
      have f2 := bcs hb13 e2
      have f3 := bcs hb13 e3
      have f4 := bcs hb13 e4
      have f5 := bcs hb13 e5
      clear hb13 e0 e1 e2 e3 e4 e5
      go_wp2_with fail
      refine (cool_any _ _ w13 HPQ13.out HT13.out).mono ?_
      rintro e w14 ⟨l2, rfl, hl2, hb14⟩
      have HB14 := hid (HB13.out.trans (hb14.mono HB13.out.size))
      have HT14 := hid (HT13.out.below' hb14)
      rw [HPE.out]
      have hlc := HLC.out
      generalize (easyP p H2 ms d0 d1).coolC = C2 at *
      clear hl2 hb14 f0 f1 f2 f3 f4 f5 HPE HLC
      go_wp2_with fail
      refine (awake_any _ HT14.out).mono ?_
      rintro e w15 ⟨rfl, hb15⟩
      have HB15 := hid (HB14.out.trans (hb15.mono HB14.out.size))
      clear hb15
      go_wp2_with fail
      go_ret
      exact ⟨rfl, HB15.out⟩
end Go.Proofs.YtjjphiecjhijiaaDoor
