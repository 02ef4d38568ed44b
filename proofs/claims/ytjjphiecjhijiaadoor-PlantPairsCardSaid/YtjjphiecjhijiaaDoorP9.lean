/- The document's best pairs, and besomlaw12.PlantMatches, walked. -/
import Derived.Test.YtjjphiecjhijiaaDoorN3
import Derived.BigQuiet
import Derived.Test.YtjjphiecjhijiaaDoorA6
import Derived.Deep.Upon
import Derived.Deep.RegionLaw
import Derived.Deep.AppendLies
import Derived.BigRegion
import Derived.Test.YtjjphiecjhijiaaDoorV1
namespace Go.Proofs.YtjjphiecjhijiaaDoor
open Go.RowKit

set_option maxRecDepth 100000 in
set_option maxHeartbeats 400000 in
/-- besomref12.Differ -/
theorem refDiffer_any (x y : Int × Int) (w : World) (h1 : 0 ≤ x.1 ∧ x.1 ≤ 1000000) (h2 : 0 ≤ x.2 ∧ x.2 ≤ 1000000) (h3 : 0 ≤ y.1 ∧ y.1 ≤ 1000000) (h4 : 0 ≤ y.2 ∧ y.2 ≤ 1000000) :
    Calls Tryd.prog 23 #[.agg #[.int .i64 x.1, .int .i64 x.2], .agg #[.int .i64 y.1, .int .i64 y.2]] w fun e w' => e = .returned (.int .i64 (absI (x.1 - y.1) + absI (x.2 - y.2))) ∧ Below w.heap.size w w' := by
  obtain ⟨a, b⟩ := x
  obtain ⟨c, d⟩ := y
  simp only at h1 h2 h3 h4 ⊢
  have HA := hid (fun w' => size_r (a - c) w' (by omega) (by omega))
  have HB := hid (fun w' => size_r (b - d) w' (by omega) (by omega))
  have hwa : IntKind.i64.wrap (a - c) = a - c := IntWalk.i64_in _ (by omega)
  have hwb : IntKind.i64.wrap (b - d) = b - d := IntWalk.i64_in _ (by omega)
  have hws : IntKind.i64.wrap (absI (a - c) + absI (b - d)) = absI (a - c) + absI (b - d) := IntWalk.i64_in _ (by unfold absI; omega)
  generalize absI (a - c) = p at *
  generalize absI (b - d) = q at *
  generalize hac : a - c = ac at *
  generalize hbd : b - d = bd at *
  go_enter Tryd.func23, Tryd.ntmps23
  go_upto_region 1 with fail
  obtain ⟨W1, hW1⟩ : ∃ W1, ((w.alloc (.cells #[.int .i64 a, .int .i64 b] 51)).alloc (.cells #[.int .i64 c, .int .i64 d] 51)) = W1 := ⟨_, rfl⟩
  rw [hW1]
  have hb1 : Below w.heap.size w W1 := by rw [← hW1]; exact ((Below.refl _ _).alloc (Nat.le_refl _) _).alloc (by simp) _
  have x0 : W1.cell? ⟨w.heap.size, 0, none⟩ = some (.int .i64 a) := by rw [← hW1]; exact bcs ((Below.refl _ _).alloc (Nat.le_refl _) _) (cell_new w #[.int .i64 a, .int .i64 b] 51 0 _ rfl)
  have x1 : W1.cell? ⟨w.heap.size, 1, none⟩ = some (.int .i64 b) := by rw [← hW1]; exact bcs ((Below.refl _ _).alloc (Nat.le_refl _) _) (cell_new w #[.int .i64 a, .int .i64 b] 51 1 _ rfl)
  have y0 : W1.cell? ⟨w.heap.size + 1, 0, none⟩ = some (.int .i64 c) := by rw [← hW1]; simp
  have y1 : W1.cell? ⟨w.heap.size + 1, 1, none⟩ = some (.int .i64 d) := by rw [← hW1]; simp
  have HB1 := hid hb1
  clear hW1 hb1
  go_quiet ((go_at_call 54; first | exact Calls.quiet_of_same ((HA.out _).mono fun _ _ ⟨h1, h2⟩ => ⟨h1, h2.symm⟩) | exact Calls.quiet_of_same ((HB.out _).mono fun _ _ ⟨h1, h2⟩ => ⟨h1, h2.symm⟩)))
  go_wp2_with fail
  go_ret
  exact ⟨rfl, drewNB HB1.out _⟩

set_option maxRecDepth 100000 in
set_option maxHeartbeats 1000000 in
/-- besomref12.Marks -/
theorem refMarks_any (v : Value) (l : List (Int × Int)) (w : World) (hs : SlK w v l) :
    Calls Tryd.prog 22 #[v] w fun e w' => e = .returned (.bool (marksB l)) ∧ w = w' := by
  obtain ⟨a, cap, rfl, hl, hcc⟩ := hs.open
  have HC := hid hcc
  have HR := hid (show marksB l = (decide (l.length % 2 = 0) && (decide (l.length ≤ 16) && !l.any badK)) from rfl)
  generalize marksB l = rb at *
  clear hs hcc
  go_enter Tryd.func22, Tryd.ntmps22
  go_wp2_with fail
  go_loop [3] (fun i => ∃ k : Nat, k ≤ l.length ∧ i = .int .i64 k ∧ ∀ j (h : j < l.length), j < k → badK l[j] = false) (fun i => l.length - (intOf i).toNat)
  case atStart => exact ⟨0, Nat.zero_le _, rfl, by omega⟩
  case round =>
    obtain ⟨k, hk, rfl, hno⟩ := hrel
    have HN := hid hno
    clear hno
    by_cases hlt : k < l.length
    · obtain ⟨b, off, rfl, hbl, hcc⟩ := HC.out k hlt
      obtain ⟨x0, x1⟩ := hcc k hlt
      have HM := hid (show l[k] ∈ l from List.getElem_mem _)
      clear hcc
      generalize hy : l[k] = y at *
      have HY := hid hy
      clear hy
      obtain ⟨c, s⟩ := y
      simp only at x0 x1
      have HBK := hid (show badK (c, s) = !(inB c 0 1000000 && inB s 0 1000000) by simp [badK, fewB, badN, okN])
      have hi0 := in_any c 0 1000000 w
      have hi1 := in_any s 0 1000000 w
      generalize inB c 0 1000000 = q0 at *
      generalize inB s 0 1000000 = q1 at *
      have hbad : badK (c, s) = true → rb = false := by
        intro h
        rw [HR.out, List.any_eq_true.2 ⟨_, HM.out, h⟩]
        simp
      have HBAD := hid hbad
      clear hbad
      cases q0 with
      | false =>
        have hq := HBAD.out (by rw [HBK.out]; rfl)
        go_wp2_with fail
        refine hi0.mono ?_
        rintro e w' ⟨rfl, rfl⟩
        go_wp2_with fail
        go_ret
        exact ⟨ret_bool hq.symm, rfl⟩
      | true =>
        cases q1 with
        | false =>
          have hq := HBAD.out (by rw [HBK.out]; rfl)
          go_wp2_with fail
          refine hi0.mono ?_
          rintro e w' ⟨rfl, rfl⟩
          go_wp2_with fail
          refine hi1.mono ?_
          rintro e w' ⟨rfl, rfl⟩
          go_wp2_with fail
          go_ret
          exact ⟨ret_bool hq.symm, rfl⟩
        | true =>
          go_wp2_with fail
          refine hi0.mono ?_
          rintro e w' ⟨rfl, rfl⟩
          go_wp2_with fail
          refine hi1.mono ?_
          rintro e w' ⟨rfl, rfl⟩
          go_wp2_with fail
          refine ⟨⟨k + 1, by omega, by go_num, ?_⟩, by simp [intOf]; omega⟩
          intro j hj hjk
          by_cases e : j = k
          · subst e; rw [HY.out, HBK.out]; rfl
          · exact HN.out j hj (by omega)
    · obtain rfl : k = l.length := by omega
      have hany : l.any badK = false := by
        rw [List.any_eq_false]
        intro x hx
        obtain ⟨j, hj, rfl⟩ := List.getElem_of_mem hx
        rw [HN.out j hj hj]; simp
      rw [hany] at HR
      have hrem : ((l.length : Int) % 2 == 0) = decide (l.length % 2 = 0) := by
        rw [Bool.eq_iff_iff]; simp; omega
      have hle : decide ((l.length : Int) ≤ 16) = decide (l.length ≤ 16) := decide_eq_decide.2 (by omega)
      clear hany
      have HRM := hid hrem
      have HLE := hid hle
      clear hrem hle
      cases hd0 : ((l.length : Int) % 2 == 0) with
      | false =>
        have hq : rb = false := by rw [HR.out, ← HRM.out, hd0]; rfl
        have HQ := hid hq
        clear hq
        go_wp2_with fail
        go_ret
        exact ⟨ret_bool HQ.out.symm, rfl⟩
      | true =>
        cases hd1 : decide ((l.length : Int) ≤ 16) with
        | false =>
          have hq : rb = false := by rw [HR.out, ← HRM.out, hd0, ← HLE.out, hd1]; rfl
          have HQ := hid hq
          clear hq
          go_wp2_with fail
          go_ret
          exact ⟨ret_bool HQ.out.symm, rfl⟩
        | true =>
          have hq : rb = true := by rw [HR.out, ← HRM.out, hd0, ← HLE.out, hd1]; rfl
          have HQ := hid hq
          clear hq
          go_wp2_with fail
          go_ret
          exact ⟨ret_bool HQ.out.symm, rfl⟩
end Go.Proofs.YtjjphiecjhijiaaDoor
namespace Go.Proofs.YtjjphiecjhijiaaDoor
open Go.RowKit

/-- A slice of ints as the source of an append. -/
theorem src_SlI {w : World} {rv : Value} {row : List Int} (hr : SlI w rv row) : Src Tryd.prog 1 22 rv row.length (row.map (.int .i64)) w := by
  obtain ⟨ad, cap, rfl, hl, hcc⟩ := hr.open
  have hone : ∀ u ∈ row.map (Value.int .i64), u.oneCell' = true := by
    intro u hu
    obtain ⟨z, _, rfl⟩ := List.mem_map.1 hu
    rfl
  cases ad with
  | none =>
    have h0 : row = [] := by
      by_cases h : 0 < row.length
      · obtain ⟨b, off, e, _⟩ := hcc 0 h
        cases e
      · exact List.length_eq_zero_iff.1 (by omega)
    subst h0
    exact Src.ofNil w Tryd.underlying22 cap
  | some a =>
    refine Src.ofSlice w Tryd.underlying22 a row.length cap _ (by simp) ?_ hone
    intro j u hu
    rw [List.getElem?_map] at hu
    by_cases hj : j < row.length
    · obtain ⟨b, off, e, _, hc⟩ := hcc j hj
      obtain rfl := Option.some.inj e
      rw [List.getElem?_eq_getElem hj] at hu
      have hu' := Option.some.inj hu
      rw [← hu', Addr.add_lit]
      exact hc j hj
    · rw [List.getElem?_eq_none (by omega)] at hu; cases hu
/-- append(own, row...), whatever the row's length: at the operation. -/
theorem wp_append_ints {o : Oper} {a : Act} {K : Act → World → Prop} {Q : Exit → Act → World → Prop} (w : World) (s x : Operand)
    (ho : o.op = .call { callee := .builtin .append, args := #[s, x], argTypes := #[22, 22] }) (base : Nat) (v : Value) (n : Nat) (xs : List Value) (hs : a.eval s = v) (hown : w.ownsRow base 3 1 v n xs)
    (rv : Value) (row : List Int) (hx : a.eval x = rv) (hr : SlI w rv row) (hsm : n + row.length ≤ 1000) (hbase : base ≤ w.heap.size) (N : Nat) (ys : List Value) (hN : n + row.length = N) (hys : xs ++ row.map (.int .i64) = ys)
    (h : ∀ v' w', w'.ownsRow base 3 1 v' N ys → w.grownBy w' v.ownBlock → K (a.put o.dst v') w') : o.wp Tryd.prog a w K Q := by
  subst hN hys
  obtain ⟨i0, hi, hz0, hz1, hz2⟩ := info_parts info3
  by_cases h0 : row = []
  · subst h0
    obtain ⟨ad, cap, hv, hle⟩ : ∃ ad cap, v = .slice ad n cap ∧ n ≤ cap := by
      rcases hown.2 with ⟨e, h0⟩ | ⟨g, cap, cur, e, _, _, hle, _⟩
      · exact ⟨none, 0, by rw [e, h0], by omega⟩
      · exact ⟨_, cap, e, hle⟩
    have hsrc := src_SlI hr
    have hrun := run_append_nothing (P := Tryd.prog) w 22 22 o.type 3 i0 Tryd.underlying22 hi ad n cap hle rv (by rw [hz1]; exact hsrc)
    rw [← hv] at hrun
    unfold Oper.wp execOp
    simp only [ho, resolve, invoke, builtin, Sem.run_bind, Sem.run_pure, Result.andThen_ok, List.map_toArray, List.map_cons, List.map_nil, hs, hx, hrun]
    exact h v w (by simpa using hown) ⟨rfl, rfl, rfl, Nat.le_refl _, fun _ _ _ => rfl⟩
  · obtain ⟨ad, cap, rfl, hl, hcc⟩ := hr.open
    have hp : 0 < row.length := List.length_pos_iff.2 h0
    obtain ⟨b, off, rfl, hb, hc⟩ := hcc 0 hp
    refine wp_append_lies w s x 22 ho base 3 i0 (.int .i64 0) 1 8 Tryd.underlying22 hi hz0 hz1 hz2 rfl (by omega) v n xs hs hown ⟨b, off, none⟩ row.length cap (row.map (.int .i64)) hx (by simp) ?_ ?_ hp (by unfold maxLen; omega) (by omega) hbase w.heap.size rfl (fun g cap w' h1 h2 _ _ => h _ w' h1 h2)
    · intro j u hu
      rw [List.getElem?_map] at hu
      by_cases hj : j < row.length
      · rw [List.getElem?_eq_getElem hj] at hu
        have hu' := Option.some.inj hu
        rw [← hu', Addr.add_lit]
        exact hc j hj
      · rw [List.getElem?_eq_none (by omega)] at hu; cases hu
    · intro u hu
      obtain ⟨z, _, rfl⟩ := List.mem_map.1 hu
      rfl
theorem step_append_ints {ops : Array Oper} {o : Oper} {a : Act} {K : Act → World → Prop} {Q : Exit → Act → World → Prop} {E : Prop} (w : World) (hgd : o.guard = none) (s x : Operand)
    (ho : o.op = .call { callee := .builtin .append, args := #[s, x], argTypes := #[22, 22] }) (base : Nat) (v : Value) (n : Nat) (xs : List Value) (hs : a.eval s = v) (hown : w.ownsRow base 3 1 v n xs)
    (rv : Value) (row : List Int) (hx : a.eval x = rv) (hr : SlI w rv row) (hsm : n + row.length ≤ 1000) (hbase : base ≤ w.heap.size) (N : Nat) (ys : List Value) (hN : n + row.length = N) (hys : xs ++ row.map (.int .i64) = ys)
    (h : ∀ v' w', w'.ownsRow base 3 1 v' N ys → w.grownBy w' v.ownBlock → K (a.put o.dst v') w') : if Region.wanted o (yielded ops a.tmps) = true then Oper.wp Tryd.prog o a w K Q else E := by
  have hw : Region.wanted o (yielded ops a.tmps) = true := by simp [Region.wanted, hgd]
  rw [if_pos hw]
  exact wp_append_ints w s x ho base v n xs hs hown rv row hx hr hsm hbase N ys hN hys h
end Go.Proofs.YtjjphiecjhijiaaDoor
namespace Go.Proofs.YtjjphiecjhijiaaDoor
open Go.RowKit

/-- A slice of pairs as the source of an append. -/
theorem src_SlK {w : World} {rv : Value} {row : List (Int × Int)} (hr : SlK w rv row) : Src Tryd.prog 2 43 rv row.length (row.flatMap cells2) w := by
  have hone : ∀ u ∈ row.flatMap cells2, u.oneCell' = true := by
    intro u hu
    obtain ⟨z, _, hz⟩ := List.mem_flatMap.1 hu
    simp [cells2] at hz
    rcases hz with rfl | rfl <;> rfl
  obtain ⟨a, cap, rfl, hn, hc⟩ := hr
  rcases hc with hc | ⟨b, off, rfl, hlt, hc⟩
  · obtain rfl : row = [] := List.length_eq_zero_iff.1 (by simpa using hc)
    cases a with
    | none => exact Src.ofNil w Tryd.underlying43 cap
    | some a => exact Src.ofSlice w Tryd.underlying43 a 0 cap [] (by simp) (by simp) (by simp)
  · refine Src.ofSlice w Tryd.underlying43 _ row.length cap _ (by rw [cells2_length]) ?_ hone
    intro j u hu
    obtain ⟨h1, h2⟩ := List.getElem?_eq_some_iff.1 hu
    rw [← h2, Addr.add_lit]
    exact hc j h1
/-- append(own, pairs...), whatever their number: at the operation. -/
theorem wp_append_pairs {o : Oper} {a : Act} {K : Act → World → Prop} {Q : Exit → Act → World → Prop} (w : World) (s x : Operand)
    (ho : o.op = .call { callee := .builtin .append, args := #[s, x], argTypes := #[43, 43] }) (base : Nat) (v : Value) (n : Nat) (xs : List Value) (hs : a.eval s = v) (hown : w.ownsRow base 33 2 v n xs)
    (rv : Value) (row : List (Int × Int)) (hx : a.eval x = rv) (hr : SlK w rv row) (hsm : n + row.length ≤ 1000) (hbase : base ≤ w.heap.size) (N : Nat) (ys : List Value) (hN : n + row.length = N) (hys : xs ++ row.flatMap cells2 = ys)
    (h : ∀ v' w', w'.ownsRow base 33 2 v' N ys → w.grownBy w' v.ownBlock → K (a.put o.dst v') w') : o.wp Tryd.prog a w K Q := by
  subst hN hys
  obtain ⟨i0, hi, hz0, hz1, hz2⟩ := info_parts info33
  by_cases h0 : row = []
  · subst h0
    obtain ⟨ad, cap, hv, hle⟩ : ∃ ad cap, v = .slice ad n cap ∧ n ≤ cap := by
      rcases hown.2 with ⟨e, h0⟩ | ⟨g, cap, cur, e, _, _, hle, _⟩
      · exact ⟨none, 0, by rw [e, h0], by omega⟩
      · exact ⟨_, cap, e, hle⟩
    have hsrc := src_SlK hr
    have hrun := run_append_nothing (P := Tryd.prog) w 43 43 o.type 33 i0 Tryd.underlying43 hi ad n cap hle rv (by rw [hz1]; exact hsrc)
    rw [← hv] at hrun
    unfold Oper.wp execOp
    simp only [ho, resolve, invoke, builtin, Sem.run_bind, Sem.run_pure, Result.andThen_ok, List.map_toArray, List.map_cons, List.map_nil, hs, hx, hrun]
    exact h v w (by simpa using hown) ⟨rfl, rfl, rfl, Nat.le_refl _, fun _ _ _ => rfl⟩
  · have hp : 0 < row.length := List.length_pos_iff.2 h0
    have hone : ∀ u ∈ row.flatMap cells2, u.oneCell' = true := by
      intro u hu
      obtain ⟨z, _, hz⟩ := List.mem_flatMap.1 hu
      simp [cells2] at hz
      rcases hz with rfl | rfl <;> rfl
    obtain ⟨ad, cap, rfl, hn, hc⟩ := hr
    rcases hc with hc | ⟨b, off, rfl, hlt, hc⟩
    · omega
    · refine wp_append_lies w s x 43 ho base 33 i0 (.agg #[.int .i64 0, .int .i64 0]) 2 16 Tryd.underlying43 hi hz0 hz1 hz2 rfl (by omega) v n xs hs hown ⟨b, off, none⟩ row.length cap (row.flatMap cells2) hx (by rw [cells2_length]) ?_ hone hp (by unfold maxLen; omega) (by omega) hbase w.heap.size rfl (fun g cap w' h1 h2 _ _ => h _ w' h1 h2)
      intro j u hu
      obtain ⟨h1, h2⟩ := List.getElem?_eq_some_iff.1 hu
      rw [← h2, Addr.add_lit]
      exact hc j h1
theorem step_append_pairs {ops : Array Oper} {o : Oper} {a : Act} {K : Act → World → Prop} {Q : Exit → Act → World → Prop} {E : Prop} (w : World) (hgd : o.guard = none) (s x : Operand)
    (ho : o.op = .call { callee := .builtin .append, args := #[s, x], argTypes := #[43, 43] }) (base : Nat) (v : Value) (n : Nat) (xs : List Value) (hs : a.eval s = v) (hown : w.ownsRow base 33 2 v n xs)
    (rv : Value) (row : List (Int × Int)) (hx : a.eval x = rv) (hr : SlK w rv row) (hsm : n + row.length ≤ 1000) (hbase : base ≤ w.heap.size) (N : Nat) (ys : List Value) (hN : n + row.length = N) (hys : xs ++ row.flatMap cells2 = ys)
    (h : ∀ v' w', w'.ownsRow base 33 2 v' N ys → w.grownBy w' v.ownBlock → K (a.put o.dst v') w') : if Region.wanted o (yielded ops a.tmps) = true then Oper.wp Tryd.prog o a w K Q else E := by
  have hw : Region.wanted o (yielded ops a.tmps) = true := by simp [Region.wanted, hgd]
  rw [if_pos hw]
  exact wp_append_pairs w s x ho base v n xs hs hown rv row hx hr hsm hbase N ys hN hys h
end Go.Proofs.YtjjphiecjhijiaaDoor
namespace Go.Proofs.YtjjphiecjhijiaaDoor
open Go.RowKit

theorem made_pair (w : World) (base : Nat) (a b : Int) (hb : base ≤ w.heap.size) : (w.alloc (.cells #[.int .i64 a, .int .i64 b] 33)).ownsRow base 33 2 (.slice (some ⟨w.heap.size, 0, none⟩) 1 1) 1 [.int .i64 a, .int .i64 b] :=
  ⟨rfl, .inr ⟨w.heap.size, 1, _, rfl, hb, heap_alloc_new w _, Nat.le_refl _, by decide, rfl, rfl⟩⟩
def PairQ (m : Int) (out : List (Int × Int)) (w : World) (e : Ending) (w' : World) : Prop := ∃ v, e = .returned (.tuple #[v, .int .i64 m]) ∧ SlK w' v out ∧ Below w.heap.size w w'
/-- What paired has found, with the first j of the rest tried. -/
def outB (lm : List (Int × Int)) (n a : Nat) (rest pre : List Nat) : List (Int × Int) :=
  if pre = [] then [] else ((a : Int), ((foldB lm n a rest pre).2 : Int)) :: pairsL lm n (rest.erase (foldB lm n a rest pre).2)
theorem outB_all (lm : List (Int × Int)) (n a : Nat) (rest : List Nat) (h : rest ≠ []) : outB lm n a rest rest = pairsL lm (n + 1) (a :: rest) := by
  unfold outB; rw [if_neg h]; rfl
theorem foldB_all (lm : List (Int × Int)) (n a : Nat) (rest : List Nat) : foldB lm n a rest rest = mB lm (n + 1) (a :: rest) := rfl
theorem nil_SlK (w : World) : SlK w (.slice none 0 0) [] := ⟨none, 0, rfl, by simp, .inl rfl⟩
theorem erase_at (rest : List Nat) (hd : rest.Nodup) (j : Nat) (h : j < rest.length) : rest.erase rest[j] = rest.take j ++ rest.drop (j + 1) := by
  have hsplit : rest = rest.take j ++ rest[j] :: rest.drop (j + 1) := by rw [← List.drop_eq_getElem_cons h, List.take_append_drop]
  have hn : rest[j] ∉ rest.take j := by
    intro hm
    rw [hsplit, List.nodup_append] at hd
    exact hd.2.2 _ hm _ List.mem_cons_self rfl
  conv => lhs; arg 1; rw [hsplit]
  rw [List.erase_append_right _ hn, List.erase_cons_head]
/-- A part of an own slice. -/
theorem own_part {w : World} {base g n cap c i k : Nat} {l : List Int} (h : w.ownsRow base 3 1 (.slice (some ⟨g, 0, none⟩) n cap) n (l.map (.int .i64))) (hik : i + k ≤ n) (hn : n ≤ 1000) : SlI w (.slice (some ⟨g, i, none⟩) k c) ((l.drop i).take k) := by
  have hl : l.length = n := by have := h.1; simpa using this
  have hlen : ((l.drop i).take k).length = k := by simp; omega
  obtain ⟨g2, cap2, e, _, hg⟩ | h0 : (∃ g2 cap2, Value.slice (some ⟨g, 0, none⟩) n cap = .slice (some ⟨g2, 0, none⟩) n cap2 ∧ base ≤ g2 ∧ g2 < w.heap.size) ∨ n = 0 := by
    by_cases h0 : n = 0
    · exact .inr h0
    · exact .inl (h.form (by omega))
  · obtain ⟨e1, -, -⟩ := Value.slice.inj e
    obtain rfl : g = g2 := by have := Option.some.inj e1; injection this
    refine ⟨some ⟨g, i, none⟩, c, by rw [hlen], by omega, .inr ⟨g, i, rfl, hg, fun q hq => ?_⟩⟩
    simp only [List.length_map, hlen] at hq
    rw [h.cellAt (i + q) (by omega)]
    simp [List.getElem?_eq_getElem (show i + q < l.length by omega)]
  · exact ⟨some ⟨g, i, none⟩, c, by rw [hlen], by omega, .inl (by omega)⟩
theorem outB_new {lm : List (Int × Int)} (n a : Nat) (rest pre : List Nat) (b : Nat) (hc : (foldB lm n a rest pre).1 < 0 ∨ (mB lm n (rest.erase b)).1 + difM lm a b < (foldB lm n a rest pre).1) :
    outB lm n a rest (pre ++ [b]) = ((a : Int), (b : Int)) :: pairsL lm n (rest.erase b) ∧ (foldB lm n a rest (pre ++ [b])).1 = (mB lm n (rest.erase b)).1 + difM lm a b := by
  have e : foldB lm n a rest (pre ++ [b]) = ((mB lm n (rest.erase b)).1 + difM lm a b, b) := by rw [foldB_snoc]; unfold stepB; rw [if_pos hc]
  unfold outB
  rw [if_neg (by simp), e]
  exact ⟨rfl, rfl⟩
theorem outB_old {lm : List (Int × Int)} (n a : Nat) (rest pre : List Nat) (b : Nat) (hc : ¬ ((foldB lm n a rest pre).1 < 0 ∨ (mB lm n (rest.erase b)).1 + difM lm a b < (foldB lm n a rest pre).1)) :
    outB lm n a rest (pre ++ [b]) = outB lm n a rest pre ∧ (foldB lm n a rest (pre ++ [b])).1 = (foldB lm n a rest pre).1 := by
  have e : foldB lm n a rest (pre ++ [b]) = foldB lm n a rest pre := by rw [foldB_snoc]; unfold stepB; rw [if_neg hc]
  have e0 : pre ≠ [] := by
    rintro rfl
    exact hc (.inl (by simp [foldB]))
  unfold outB
  rw [if_neg (by simp), if_neg e0, e]
  exact ⟨rfl, rfl⟩

set_option maxRecDepth 100000 in
set_option maxHeartbeats 2000000 in
/-- besomref12.paired -/
theorem paired_any (lm : List (Int × Int)) (hm : mOk lm) : ∀ (n base : Nat) (lv kv : Value) (left : List Nat) (w : World), SlK w lv lm → w.ownsRow base 3 1 kv left.length ((left.map fun (x : Nat) => (x : Int)).map (.int .i64)) → left.Nodup → (∀ x ∈ left, x < lm.length) → left.length = 2 * n → n ≤ 10 →
    Calls Tryd.prog 53 #[lv, kv] w (PairQ (mB lm n left).1 (pairsL lm n left) w) := by
  intro n
  induction n with
  | zero =>
    intro base lv kv left w hk hs hd hlt hl hn10
    obtain rfl : left = [] := List.length_eq_zero_iff.1 (by omega)
    obtain ⟨a2, cap2, rfl⟩ := own_form hs
    clear hk hs hd hlt
    go_enter Tryd.func53, Tryd.ntmps53
    go_wp2_with fail
    go_ret2
    exact ⟨_, rfl, nil_SlK _, Below.refl _ _⟩
  | succ n ih =>
    intro base lv kv left w hk hs hd hlt hl hn10
    obtain ⟨a, rest, rfl⟩ : ∃ a rest, left = a :: rest := by
      cases left with
      | nil => simp at hl
      | cons a rest => exact ⟨a, rest, rfl⟩
    have HK := hid hk
    have HS := hid hs
    have HIH := hid ih
    have HD := hid hd
    have HRD := hid (show rest.Nodup from (List.nodup_cons.1 hd).2)
    have HLT := hid hlt
    have hrl : rest.length = 2 * n + 1 := by simp at hl; omega
    have hl2 : (a :: rest).length = rest.length + 1 := by simp
    obtain ⟨ak, capk, rfl, hlk, -⟩ := hk.open
    obtain ⟨gr, capr, rfl, hgb, hgl⟩ := hs.form (by simp)
    have hcap : rest.length + 1 ≤ capr := by
      rcases hs.2 with ⟨e, _⟩ | ⟨g, cap, cur, e, _, _, hle, _⟩
      · cases e
      · obtain ⟨-, -, rfl⟩ := Value.slice.inj e
        simpa using hle
    rw [hl2] at HS ⊢
    have hlen20 : rest.length ≤ 20 := by simp at hl; omega
    have HRL := hid hlen20
    have HOA := hid (outB_all lm n a rest (by rintro rfl; simp at hrl))
    rw [← foldB_all, ← HOA.out]
    have HRN := hid hrl
    have hr1 : 1 ≤ rest.length := by omega
    have hnz : ((rest.length : Int) + 1 == 0) = false := by simp; omega
    clear hk hs hd hlt ih hl hl2 hrl
    go_enter Tryd.func53, Tryd.ntmps53
    go_wp2_with fail
    go_loopw [6, 7, 8] (fun o m i wr => ∃ j : Nat, j ≤ rest.length ∧ i = .int .i64 (j + 1 : Nat) ∧ m = .int .i64 (foldB lm n a rest (rest.take j)).1 ∧ SlK wr o (outB lm n a rest (rest.take j)) ∧ Below w.heap.size w wr) (fun _ _ i _ => rest.length + 1 - (intOf i).toNat)
    case atStart => exact ⟨0, Nat.zero_le _, rfl, rfl, nil_SlK _, Below.refl _ _⟩
    case round =>
      obtain ⟨j, hj, rfl, rfl, hso, hbr⟩ := hrel
      obtain ⟨w2, rfl⟩ : ∃ w2 : World, w2 = wr := ⟨_, rfl⟩
      have HSO := hid hso
      have HB := hid hbr
      clear hso hbr
      by_cases hjn : j < rest.length
      · have hi1 : ((j + 1 : Nat) : Int) < ((rest.length + 1 : Nat) : Int) := by omega
        have hc0 : ¬ capr = 1 := by omega
        have hc1 : j + 1 ≤ capr := by omega
        have hc2 : (1 : Int) ≤ ((j + 1 : Nat) : Int) := by omega
        generalize hj1 : j + 1 = j1 at *
        have hwj : IntKind.i64.wrap ((j1 : Int) + 1) = ((j1 + 1 : Nat) : Int) := by rw [IntWalk.i64_in _ (by have := HRL.out; omega)]; rfl
        have hq1 : (0 : Int) ≤ (j1 : Int) + 1 := by omega
        have hq2 : (j1 : Int) ≤ (rest.length : Int) := by omega
        have HJ1 := hid hj1
        clear hj1
        have HSA := hid (fun (c : Nat) w' (h : Below w2.heap.size w2 w') => show SlI w' (.slice (some ⟨gr, 1, none⟩) (j1 - 1) c) ((rest.take j).map fun (x : Nat) => (x : Int)) from by
          have h1 := own_part (i := 1) (k := j1 - 1) (c := c) (own_below HS.out (HB.out.trans (h.mono HB.out.size))) (by omega) (by have := HRL.out; omega)
          have e : j1 - 1 = j := by have := HJ1.out; omega
          rw [show ((((a :: rest).map fun (x : Nat) => (x : Int)).drop 1).take (j1 - 1)) = (rest.take j).map fun (x : Nat) => (x : Int) by rw [e]; simp [List.map_take]] at h1
          exact h1)
        have HSB := hid (fun (c : Nat) w' (h : Below w2.heap.size w2 w') => show SlI w' (.slice (some ⟨gr, j1 + 1, none⟩) (rest.length - j1) c) ((rest.drop (j + 1)).map fun (x : Nat) => (x : Int)) from by
          have hj1l : j1 ≤ rest.length := by have := HJ1.out; omega
          have h1 := own_part (i := j1 + 1) (k := rest.length - j1) (c := c) (own_below HS.out (HB.out.trans (h.mono HB.out.size))) (by omega) (by have := HRL.out; omega)
          rw [show ((((a :: rest).map fun (x : Nat) => (x : Int)).drop (j1 + 1)).take (rest.length - j1)) = (rest.drop (j + 1)).map fun (x : Nat) => (x : Int) by
            rw [HJ1.out, List.map_cons, List.drop_succ_cons, ← List.map_drop]
            exact List.take_of_length_le (by simp)] at h1
          exact h1)
        go_upto_region 8 with fail
        go_cut [9] (fun v wx => wx.ownsRow w2.heap.size 3 1 v (rest.length - 1) (((rest.erase rest[j]).map fun (x : Nat) => (x : Int)).map (.int .i64)) ∧ Below w2.heap.size w2 wx)
        case first =>
          by_cases hce : capr = j1 + 1
          · have HSB := hid (fun (c : Nat) w' (h : Below w2.heap.size w2 w') => show SlI w' (.slice (some ⟨gr, 0, none⟩) (rest.length - j1) c) ((rest.drop (j + 1)).map fun (x : Nat) => (x : Int)) from by
              have h1 := own_part (i := 0) (k := 0) (c := c) (own_below HS.out (HB.out.trans (h.mono HB.out.size))) (by omega) (by have := HRL.out; omega)
              have e : rest.length - j1 = 0 := by omega
              have e2 : rest.drop (j + 1) = [] := List.drop_eq_nil_iff.2 (by have := HJ1.out; omega)
              rw [e, e2]
              simpa using h1)
            have hce' : (capr = j1 + 1) = True := eq_true hce
            have hce2 : capr ≤ j1 + 1 := by omega
            clear hce
            go_region_law (first
              | (refine step_append_ints _ rfl (.tmp 21) (.tmp 24) rfl w2.heap.size _ 0 [] rfl (own_below (World.ownsRow_made w2 #[] 0 (Nat.le_refl _) (by decide) rfl) (by repeat first | exact Below.refl _ _ | refine Below.drew ?_)) _ ((rest.take j).map fun (x : Nat) => (x : Int)) rfl (HSA.out _ _ (by repeat first | exact Below.refl _ _ | refine Below.drew ?_ | refine Below.alloc ?_ (by simp) _)) (by have := HRL.out; simp; omega) (by simp) j (((rest.take j).map fun (x : Nat) => (x : Int)).map (.int .i64)) (by simp; omega) rfl ?_; intro v5 w5 hown5 hg5; have hb5 : Below w2.heap.size w2 w5 := (by refine Below.grown ?_ hg5 ?_ ?_; (repeat first | exact Below.refl _ _ | refine Below.drew ?_ | refine Below.alloc ?_ (by simp) _); (simp); (intro r hr; have e : w2.heap.size = r := Option.some.inj hr; omega)))
              | (refine step_append_ints _ rfl (.tmp 25) (.tmp 29) rfl w2.heap.size v5 j _ rfl (own_below hown5 (by repeat first | exact Below.refl _ _ | refine Below.drew ?_)) _ ((rest.drop (j + 1)).map fun (x : Nat) => (x : Int)) rfl (HSB.out _ _ (by repeat first | exact hb5 | refine Below.drew ?_)) (by have := HRL.out; simp; omega) (by have := hb5.size; simpa using this) (rest.length - 1) _ (by simp; omega) rfl ?_; intro v6 w6 hown6 hg6; have hb6 : Below w2.heap.size w2 w6 := (by refine Below.grown ?_ hg6 ?_ ?_; (repeat first | exact hb5 | refine Below.drew ?_); (have := hb5.size; simpa using this); (intro r hr; exact (hown5.lt r hr).1))))
            all_goals
              go_wp2_with fail
              go_meet
              refine ⟨?_, hb6⟩
              rw [erase_at rest HRD.out j hjn, List.map_append, List.map_append]
              exact hown6
          · go_region_law (first
              | (refine step_append_ints _ rfl (.tmp 21) (.tmp 24) rfl w2.heap.size _ 0 [] rfl (own_below (World.ownsRow_made w2 #[] 0 (Nat.le_refl _) (by decide) rfl) (by repeat first | exact Below.refl _ _ | refine Below.drew ?_)) _ ((rest.take j).map fun (x : Nat) => (x : Int)) rfl (HSA.out _ _ (by repeat first | exact Below.refl _ _ | refine Below.drew ?_ | refine Below.alloc ?_ (by simp) _)) (by have := HRL.out; simp; omega) (by simp) j (((rest.take j).map fun (x : Nat) => (x : Int)).map (.int .i64)) (by simp; omega) rfl ?_; intro v5 w5 hown5 hg5; have hb5 : Below w2.heap.size w2 w5 := (by refine Below.grown ?_ hg5 ?_ ?_; (repeat first | exact Below.refl _ _ | refine Below.drew ?_ | refine Below.alloc ?_ (by simp) _); (simp); (intro r hr; have e : w2.heap.size = r := Option.some.inj hr; omega)))
              | (refine step_append_ints _ rfl (.tmp 25) (.tmp 29) rfl w2.heap.size v5 j _ rfl (own_below hown5 (by repeat first | exact Below.refl _ _ | refine Below.drew ?_)) _ ((rest.drop (j + 1)).map fun (x : Nat) => (x : Int)) rfl (HSB.out _ _ (by repeat first | exact hb5 | refine Below.drew ?_)) (by have := HRL.out; simp; omega) (by have := hb5.size; simpa using this) (rest.length - 1) _ (by simp; omega) rfl ?_; intro v6 w6 hown6 hg6; have hb6 : Below w2.heap.size w2 w6 := (by refine Below.grown ?_ hg6 ?_ ?_; (repeat first | exact hb5 | refine Below.drew ?_); (have := hb5.size; simpa using this); (intro r hr; exact (hown5.lt r hr).1))))
            all_goals
              go_wp2_with fail
              go_meet
              refine ⟨?_, hb6⟩
              rw [erase_at rest HRD.out j hjn, List.map_append, List.map_append]
              exact hown6
        case rest =>
          obtain ⟨hown9, hb9⟩ := hcut
          have HO9 := hid hown9
          have HB9 := hid hb9
          obtain ⟨ad9, cap9, rfl⟩ := own_form hown9
          have HCA := hid (HIH.out w2.heap.size (.slice ak lm.length capk) _ (rest.erase rest[j]) wc (HK.out.below (HB.out.trans (HB9.out.mono HB.out.size))) (by rw [List.length_erase_of_mem (List.getElem_mem _)]; exact HO9.out) (HRD.out.erase _) (fun x hx => HLT.out x (List.mem_cons_of_mem _ (List.mem_of_mem_erase hx))) (by rw [List.length_erase_of_mem (List.getElem_mem _)]; have := HRN.out; omega) (by omega))
          clear hown9 hb9
          go_wp2_with fail
          refine HCA.out.mono ?_
          rintro e w7 ⟨v7, rfl, hs7, hb7⟩
          have hb27 := HB9.out.trans (hb7.mono HB9.out.size)
          have HB7 := hid (HB.out.trans (hb27.mono HB.out.size))
          have HSO7 := hid (HSO.out.below hb27)
          have HS7 := hid hs7
          have hown7 := own_below HS.out HB7.out
          have z0 : w7.cell? ⟨gr, 0, none⟩ = some (.int .i64 (a : Int)) := by rw [hown7.cellAt 0 (by omega)]; simp
          have z1 : w7.cell? ⟨gr, j1, none⟩ = some (.int .i64 (rest[j] : Int)) := by rw [hown7.cellAt j1 (by have := HJ1.out; omega)]; rw [← HJ1.out]; simp [hjn]
          have hal : a < lm.length := HLT.out a (by simp)
          have hbl : rest[j] < lm.length := HLT.out _ (List.mem_cons_of_mem _ (List.getElem_mem _))
          obtain ⟨ak2, capk2, ek, -, hkc⟩ := (HK.out.below HB7.out).open
          obtain ⟨bk, offk, rfl, hbk, hkk⟩ := hkc a hal
          obtain ⟨e1, -, -⟩ := Value.slice.inj ek
          subst e1
          obtain ⟨ma0, ma1⟩ := hkk a hal
          obtain ⟨mb0, mb1⟩ := hkk rest[j] hbl
          clear hs7 hb7 hb27 hown7 hkc hkk ek
          have hta := hm a
          have htb := hm rest[j]
          have hma : mark lm a = lm[a] := by simp [mark, List.getD_eq_getElem?_getD, hal]
          have hmb : mark lm rest[j] = lm[rest[j]] := by simp [mark, List.getD_eq_getElem?_getD, hbl]
          rw [hma] at hta
          rw [hmb] at htb
          have HDF := hid (fun w' => refDiffer_any lm[a] lm[rest[j]] w' ⟨hta.1, hta.2.1⟩ hta.2.2 ⟨htb.1, htb.2.1⟩ htb.2.2)
          have HDM := hid (show difM lm a rest[j] = absI (lm[a].1 - lm[rest[j]].1) + absI (lm[a].2 - lm[rest[j]].2) by unfold difM; rw [hma, hmb])
          have hmd := mB_bd hm n (rest.erase rest[j]) (by rw [List.length_erase_of_mem (List.getElem_mem _)]; have := HRN.out; omega)
          have hdd := dif_bd hm a rest[j]
          have HTK := hid (show rest.take (j + 1) = rest.take j ++ [rest[j]] from List.take_succ_eq_append_getElem hjn)
          have HNEW := hid (outB_new (lm := lm) n a rest (rest.take j) rest[j])
          have HOLD := hid (outB_old (lm := lm) n a rest (rest.take j) rest[j])
          rw [← HTK.out] at HNEW HOLD
          have hal2 : (a : Int) < (lm.length : Int) := by omega
          have hbl2 : (rest[j] : Int) < (lm.length : Int) := by omega
          clear HCA HO9 hta htb hma hmb
          rw [← HDM.out] at HDF
          generalize difM lm a rest[j] = dv at *
          generalize (mB lm n (rest.erase rest[j])).1 = M at *
          have hM8 : M ≤ 20000000 := by omega
          have hwM : IntKind.i64.wrap (M + dv) = M + dv := IntWalk.i64_in _ (by omega)
          go_upto_region 10 with fail
          go_cut [11] (fun v wx => v = .int .i64 (M + dv) ∧ Below w7.heap.size w7 wx)
          case first =>
            go_region_held3 (fun w' => w'.cell? ⟨gr, 0, none⟩ = some (.int .i64 (a : Int)) ∧ w'.cell? ⟨gr, j1, none⟩ = some (.int .i64 (rest[j] : Int)) ∧ w'.cell? ⟨bk, offk + a * 2, none⟩ = some (.int .i64 lm[a].1) ∧ w'.cell? ⟨bk, offk + a * 2 + 1, none⟩ = some (.int .i64 lm[a].2) ∧ w'.cell? ⟨bk, offk + rest[j] * 2, none⟩ = some (.int .i64 lm[rest[j]].1) ∧ w'.cell? ⟨bk, offk + rest[j] * 2 + 1, none⟩ = some (.int .i64 lm[rest[j]].2))
              (first | exact ⟨z0, z1, ma0, ma1, mb0, mb1⟩ | exact ⟨bcs hbq z0, bcs hbq z1, bcs hbq ma0, bcs hbq ma1, bcs hbq mb0, bcs hbq mb1⟩ | go_keep)
              (first | (go_at_call 23; refine (HDF.out _).mono ?_; (rintro e w' ⟨rfl, hbq⟩)))
            all_goals
              go_wp2_with fail
              go_meet
              refine ⟨rfl, ?_⟩
              repeat' (first | exact Below.refl _ _ | apply drewNB | apply Below.drew | exact hbq | exact (drewNB (Below.refl _ _) _).trans hbq | exact ((Below.refl _ _).drew).trans hbq)
          case rest =>
            obtain ⟨rfl, hb10⟩ := hcut
            have HB10 := hid (HB7.out.trans (hb10.mono HB7.out.size))
            have HSO10 := hid (HSO7.out.below hb10)
            have HS10 := hid (HS7.out.below hb10)
            have y0 := bcs hb10 z0
            have y1 := bcs hb10 z1
            have hFb := foldB_bd hm n a rest (rest.take j) HRN.out (fun b hb => List.mem_of_mem_take hb)
            clear z0 z1 ma0 ma1 mb0 mb1 hb10 HDF hwM
            generalize (foldB lm n a rest (rest.take j)).1 = F at *
            by_cases hF : F < 0
            · have hFd : decide (F < 0) = true := by simp [hF]
              have HX := hid (HNEW.out (.inl hF))
              clear HNEW HOLD
              have hpl : (pairsL lm n (rest.erase rest[j])).length ≤ 10 := by have := pairsL_length lm n (rest.erase rest[j]); omega
              go_upto_region 13 with fail
              go_region_law (refine step_append_pairs _ rfl (.tmp 69) (.tmp 70) rfl wc.heap.size _ 1 [.int .i64 (a : Int), .int .i64 (rest[j] : Int)] rfl (own_below (made_pair _ _ _ _ (by simp)) (by repeat first | exact Below.refl _ _ | refine Below.drew ?_)) _ (pairsL lm n (rest.erase rest[j])) rfl (HS10.out.below (by repeat first | exact Below.refl _ _ | refine Below.drew ?_ | refine Below.alloc ?_ (by simp) _)) (by omega) (by simp) ((pairsL lm n (rest.erase rest[j])).length + 1) ((((a : Int), (rest[j] : Int)) :: pairsL lm n (rest.erase rest[j])).flatMap cells2) (by omega) (by simp [cells2]) ?_; intro v5 w5 hown5 hg5; have hb5 : Below wc.heap.size wc w5 := (by refine Below.grown ?_ hg5 ?_ ?_; (repeat first | exact Below.refl _ _ | refine Below.drew ?_ | refine Below.alloc ?_ (by simp) _); (simp); (intro r hr; have e : wc.heap.size = r := Option.some.inj hr; omega)))
              all_goals
                have H13 := hid (And.intro (own_SlK (l := ((a : Int), (rest[j] : Int)) :: pairsL lm n (rest.erase rest[j])) hown5 (by simp; omega)) (HB10.out.trans (hb5.mono HB10.out.size)))
                clear hown5 hb5 hg5 y0 y1 hpl
                go_wp2_with fail
                refine ⟨⟨j + 1, by omega, by rw [← HJ1.out]; go_num, by rw [HX.out.2], by rw [HX.out.1]; exact H13.out.1, H13.out.2⟩, by simp [intOf]; have := HJ1.out; omega⟩
            · have hFd : decide (F < 0) = false := by simp; omega
              by_cases hlt : M + dv < F
              · have hFe : decide (M + dv < F) = true := by simp [hlt]
                have HX := hid (HNEW.out (.inr hlt))
                clear HNEW HOLD
                have hpl : (pairsL lm n (rest.erase rest[j])).length ≤ 10 := by have := pairsL_length lm n (rest.erase rest[j]); omega
                go_upto_region 13 with fail
                go_region_law (refine step_append_pairs _ rfl (.tmp 69) (.tmp 70) rfl wc.heap.size _ 1 [.int .i64 (a : Int), .int .i64 (rest[j] : Int)] rfl (own_below (made_pair _ _ _ _ (by simp)) (by repeat first | exact Below.refl _ _ | refine Below.drew ?_)) _ (pairsL lm n (rest.erase rest[j])) rfl (HS10.out.below (by repeat first | exact Below.refl _ _ | refine Below.drew ?_ | refine Below.alloc ?_ (by simp) _)) (by omega) (by simp) ((pairsL lm n (rest.erase rest[j])).length + 1) ((((a : Int), (rest[j] : Int)) :: pairsL lm n (rest.erase rest[j])).flatMap cells2) (by omega) (by simp [cells2]) ?_; intro v5 w5 hown5 hg5; have hb5 : Below wc.heap.size wc w5 := (by refine Below.grown ?_ hg5 ?_ ?_; (repeat first | exact Below.refl _ _ | refine Below.drew ?_ | refine Below.alloc ?_ (by simp) _); (simp); (intro r hr; have e : wc.heap.size = r := Option.some.inj hr; omega)))
                all_goals
                  have H13 := hid (And.intro (own_SlK (l := ((a : Int), (rest[j] : Int)) :: pairsL lm n (rest.erase rest[j])) hown5 (by simp; omega)) (HB10.out.trans (hb5.mono HB10.out.size)))
                  clear hown5 hb5 hg5 y0 y1 hpl
                  go_wp2_with fail
                  refine ⟨⟨j + 1, by omega, by rw [← HJ1.out]; go_num, by rw [HX.out.2], by rw [HX.out.1]; exact H13.out.1, H13.out.2⟩, by simp [intOf]; have := HJ1.out; omega⟩
              · have hFe : decide (M + dv < F) = false := by simp; omega
                have HX := hid (HOLD.out (fun hc => by rcases hc with hc | hc; exact hF hc; exact hlt hc))
                clear HNEW HOLD y0 y1
                go_wp2_with fail
                refine ⟨⟨j + 1, by omega, by rw [← HJ1.out]; go_num, by rw [HX.out.2], by rw [HX.out.1]; exact HSO10.out, HB10.out⟩, by simp [intOf]; have := HJ1.out; omega⟩
      · obtain rfl : j = rest.length := by omega
        have hso := HSO.out
        rw [List.take_length] at hso ⊢
        rw [HOA.out] at hso
        have HSO2 := hid hso
        clear hso
        go_wp2_with fail
        go_ret2
        exact ⟨_, rfl, by rw [HOA.out]; exact HSO2.out, HB.out⟩
end Go.Proofs.YtjjphiecjhijiaaDoor
/- besomref12.Match and besomlaw12.PlantMatches walked. -/
namespace Go.Proofs.YtjjphiecjhijiaaDoor
open Go.RowKit Go.Maps

set_option maxRecDepth 100000 in
set_option maxHeartbeats 1000000 in
/-- besomref12.Match -/
theorem refMatch_any (v : Value) (lm : List (Int × Int)) (w : World) (hs : SlK w v lm) : Calls Tryd.prog 20 #[v] w (MatchPost lm w) := by
  have HS := hid hs
  obtain ⟨a, cap, rfl, hll, -⟩ := hs.open
  have HM := hid (refMarks_any _ lm w hs)
  have HR := hid (show matchR lm = if marksB lm then (pairsL lm (lm.length / 2) (List.range lm.length), (mB lm (lm.length / 2) (List.range lm.length)).1, 0) else ([], 0, 2) from rfl)
  have HMB := hid (show marksB lm = (decide (lm.length % 2 = 0) && (decide (lm.length ≤ 16) && !lm.any badK)) from rfl)
  clear hs
  cases hmb : marksB lm with
  | false =>
    rw [hmb] at HM HR
    clear hmb HMB
    go_enter Tryd.func20, Tryd.ntmps20
    go_wp2_with fail
    refine HM.out.mono ?_
    rintro e w' ⟨rfl, rfl⟩
    go_wp2_with fail
    go_ret3
    have hr : matchR lm = ([], 0, 2) := by rw [HR.out]; rfl
    exact ⟨⟨_, by rw [hr]; rfl, by rw [hr]; exact ⟨none, 0, rfl, by simp, .inl rfl⟩⟩, Below.refl _ _⟩
  | true =>
    rw [hmb] at HM HR HMB
    have h := HMB.out.symm
    simp only [Bool.and_eq_true, decide_eq_true_eq, Bool.not_eq_true'] at h
    obtain ⟨h2, h16, hany⟩ := h
    have HOK := hid (mOk_of hany)
    have HRR := hid (show matchR lm = (pairsL lm (lm.length / 2) (List.range lm.length), (mB lm (lm.length / 2) (List.range lm.length)).1, 0) by rw [HR.out]; rfl)
    obtain ⟨n, hn⟩ : ∃ n, lm.length = 2 * n := ⟨lm.length / 2, by omega⟩
    have HN := hid hn
    obtain ⟨i0, hi, hz0, hz1, hz2⟩ := info_parts info3
    clear hmb hany HR HMB h2 hn
    go_enter Tryd.func20, Tryd.ntmps20
    go_wp2_with fail
    refine HM.out.mono ?_
    rintro e w' ⟨rfl, rfl⟩
    go_wp2_with fail
    go_loopw [5, 6] (fun u i wr => ∃ k : Nat, k ≤ lm.length ∧ i = .int .i64 k ∧ wr.ownsRow w.heap.size 3 1 u k (((List.range k).map fun (x : Nat) => (x : Int)).map (.int .i64)) ∧ Below w.heap.size w wr) (fun _ i _ => lm.length - (intOf i).toNat)
    case atStart => exact ⟨0, Nat.zero_le _, rfl, World.ownsRow_nil _ _ _ _, Below.refl _ _⟩
    case round =>
      obtain ⟨k, hk, rfl, hown, hbr⟩ := hrel
      obtain ⟨w2, rfl⟩ : ∃ w2 : World, w2 = wr := ⟨_, rfl⟩
      have HO := hid hown
      have HB := hid hbr
      clear hown hbr
      by_cases hkl : k < lm.length
      · have HRG := hid (show ((List.range (k + 1)).map fun (x : Nat) => (x : Int)).map (Value.int .i64) = ((List.range k).map fun (x : Nat) => (x : Int)).map (Value.int .i64) ++ [.int .i64 (k : Int)] by rw [List.range_succ]; simp)
        go_wp2_with (at_builtin; refine wpList_append_lies _ rfl _ _ 22 rfl w.heap.size 3 i0 (.int .i64 0) 1 8 Tryd.underlying22 hi hz0 hz1 hz2 rfl (by omega) u5 k _ rfl (HO.out.alloc _) ⟨w2.heap.size, 0, none⟩ 1 1 [.int .i64 (k : Int)] rfl rfl (cell_one_new _ _ _) (ones _ rfl) (by omega) (by unfold maxLen; omega) (by omega) (by have := HB.out.size; simp; omega) (w2.heap.size + 1) (by simp) ?_; intro g6 cap6 w6 hown6 hgrow6 hat6 hlt6)
        have hb6 : Below w.heap.size w w6 := (HB.out.alloc HB.out.size _).grown hgrow6 (by have := HB.out.size; simp; omega) (fun q hq => (HO.out.lt q hq).1)
        exact ⟨⟨k + 1, by omega, by go_num, by rw [HRG.out]; exact hown6, hb6⟩, by simp [intOf]; omega⟩
      · obtain rfl : k = lm.length := by omega
        have HP := hid (paired_any lm HOK.out n w.heap.size (.slice a lm.length cap) u5 (List.range lm.length) w2 (HS.out.below HB.out) (by rw [List.length_range]; exact HO.out) List.nodup_range (by simp) (by rw [List.length_range]; exact HN.out) (by have := HN.out; omega))
        rw [show lm.length / 2 = n by have := HN.out; omega] at HRR
        go_wp2_with fail
        refine HP.out.mono ?_
        rintro e w3 ⟨v3, rfl, hs3, hb3⟩
        go_wp2_with fail
        go_ret3
        exact ⟨⟨_, by rw [HRR.out]; rfl, by rw [HRR.out]; exact hs3⟩, HB.out.trans (hb3.mono HB.out.size)⟩

def BoolM (v : Value) : Prop := ∃ b : Bool, v = .bool b
set_option maxRecDepth 100000 in
set_option maxHeartbeats 1000000 in
/-- besomlaw12.PlantMatches returns true. -/
theorem matches_any (v : Value) (lm : List (Int × Int)) (w : World) (hs : SlK w v lm) (hT : TabW w) : Calls Tryd.prog 5 #[v] w (True1 w) := by
  have HS := hid hs
  have HT := hid hT
  obtain ⟨a, cap, rfl, hll, -⟩ := hs.open
  clear hs hT
  generalize hb1 : decide ((lm.length : Int) > 10) = b1 at *
  generalize hb2 : decide ((lm.length : Int) ≤ 16) = b2 at *
  generalize hb3 : decide ((lm.length : Int) > 20) = b3 at *
  go_enter Tryd.func5, Tryd.ntmps5
  go_upto_region 1 with fail
  go_cut [21] (fun t wx => BoolM t ∧ wx = w)
  case first =>
    cases b1 <;> cases b2 <;> cases b3
    all_goals
      go_wp2_with fail
      go_meet
      exact ⟨⟨_, rfl⟩, rfl⟩
  case rest =>
    obtain ⟨⟨g, rfl⟩, rfl⟩ := hcut
    clear hb1 hb2 hb3 hll
    cases g with
    | true =>
      go_wp2_with fail
      refine (awake_any _ HT.out).mono ?_
      rintro e W2 ⟨rfl, hb2⟩
      have HB2 := hid hb2
      clear hb2
      go_wp2_with fail
      go_ret
      exact ⟨rfl, HB2.out⟩
    | false =>
      go_wp2_with fail
      refine (match_any _ lm _ HS.out HT.out).mono ?_
      rintro e W1 ⟨⟨v1, rfl, hs1⟩, hb1⟩
      have HS1 := hid hs1
      have HB1 := hid hb1
      clear hs1 hb1
      go_wp2_with fail
      refine (refMatch_any _ lm W1 (HS.out.below HB1.out)).mono ?_
      rintro e W2 ⟨⟨v2, rfl, hs2⟩, hb2⟩
      have HS2 := hid hs2
      have HS1 := hid (HS1.out.below hb2)
      have HB2 := hid (HB1.out.trans (hb2.mono HB1.out.size))
      clear hs2 hb2
      have hcc : ((matchR lm).2.1 == (matchR lm).2.1) = true := by simp
      have hee : ((matchR lm).2.2 == (matchR lm).2.2) = true := by simp
      generalize (matchR lm).2.1 = C at *
      generalize (matchR lm).2.2 = E at *
      generalize (matchR lm).1 = L at *
      have HRF := hid (show (L == L) = true by simp)
      go_wp2_with fail
      refine (samePairs_any v1 v2 L L W2 HS1.out HS2.out).mono ?_
      rw [HRF.out]
      rintro e W5 ⟨rfl, d5, rfl⟩
      have HB5 := hid (drewNB HB2.out d5)
      generalize W2.drewN d5 = W5 at *
      go_wp2_with fail
      refine (awake_any W5 (HT.out.below' HB5.out)).mono ?_
      rintro e W6 ⟨rfl, hb6⟩
      have HB6 := hid (HB5.out.trans (hb6.mono HB5.out.size))
      clear hb6
      go_wp2_with fail
      go_ret
      exact ⟨rfl, HB6.out⟩
end Go.Proofs.YtjjphiecjhijiaaDoor
