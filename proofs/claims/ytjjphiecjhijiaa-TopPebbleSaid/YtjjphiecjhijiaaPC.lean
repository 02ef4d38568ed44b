/- Slices of pairs: read, and appended. -/
import Derived.Test.YtjjphiecjhijiaaJ9
import Derived.Test.YtjjphiecjhijiaaRG
import Derived.Deep.Upon
import Derived.Laws.EntriesVeiled
import Derived.BigRegion
namespace Go.Proofs.Ytjjphiecjhijiaa
open Go.RowKit
def cells2 (x : Int × Int) : List Value := [.int .i64 x.1, .int .i64 x.2]
/-- A slice of marks. -/
def SlK (w : World) (v : Value) (l : List (Int × Int)) : Prop := SlV w v l.length (l.flatMap cells2)
theorem SlK.below {w w' : World} {v : Value} {l : List (Int × Int)} (h : SlK w v l) (hb : Below w.heap.size w w') : SlK w' v l := SlV.below h hb
theorem cells2_length (l : List (Int × Int)) : (l.flatMap cells2).length = l.length * 2 := by
  induction l with
  | nil => rfl
  | cons m l ih => simp only [List.flatMap_cons, List.length_append, ih, List.length_cons]; simp [cells2]; omega
theorem own_SlK {w : World} {B n : Nat} {t : TypeId} {v : Value} {l : List (Int × Int)} (h : w.ownsRow B t 2 v n (l.flatMap cells2)) (hn : l.length ≤ 140737488351232) : SlK w v l := by
  have hlen : n = l.length := by have := h.1; rw [cells2_length] at this; omega
  subst hlen
  rcases h.2 with ⟨rfl, h0⟩ | ⟨g, cap, cur, rfl, hg, hh, hnc, hcm, hcs, htake⟩
  · exact ⟨none, 0, by rw [h0], hn, .inl h0⟩
  · refine ⟨_, cap, rfl, hn, .inr ⟨g, 0, rfl, (Array.getElem?_eq_some_iff.1 hh).1, fun i hi => ?_⟩⟩
    rw [cells2_length] at hi
    rw [Nat.zero_add, h.cellAt i hi]
    exact List.getElem?_eq_getElem (by rw [cells2_length]; exact hi)
theorem info43 : (Try.prog.info? 43).map (fun i => (i.zero, i.size, i.bytes)) = some (some (.agg #[.int .i64 0, .int .i64 0]), 2, 16) := by kernel_rfl
theorem made_pair (w : World) (base : Nat) (a b : Int) (hb : base ≤ w.heap.size) : (w.alloc (.cells #[.int .i64 a, .int .i64 b] 43)).ownsRow base 43 2 (.slice (some ⟨w.heap.size, 0, none⟩) 1 1) 1 [.int .i64 a, .int .i64 b] :=
  ⟨rfl, .inr ⟨w.heap.size, 1, _, rfl, hb, heap_alloc_new w _, Nat.le_refl _, by decide, rfl, rfl⟩⟩
/-- A slice of pairs as the source of an append. -/
theorem src_SlK {w : World} {rv : Value} {row : List (Int × Int)} (hr : SlK w rv row) : Src Try.prog 2 28 rv row.length (row.flatMap cells2) w := by
  have hone : ∀ u ∈ row.flatMap cells2, u.oneCell' = true := by
    intro u hu
    obtain ⟨z, _, hz⟩ := List.mem_flatMap.1 hu
    simp [cells2] at hz
    rcases hz with rfl | rfl <;> rfl
  obtain ⟨a, cap, rfl, hn, hc⟩ := hr
  rcases hc with hc | ⟨b, off, rfl, hlt, hc⟩
  · obtain rfl : row = [] := List.length_eq_zero_iff.1 (by simpa using hc)
    cases a with
    | none => exact Src.ofNil w Try.underlying28 cap
    | some a => exact Src.ofSlice w Try.underlying28 a 0 cap [] (by simp) (by simp) (by simp)
  · refine Src.ofSlice w Try.underlying28 _ row.length cap _ (by rw [cells2_length]) ?_ hone
    intro j u hu
    obtain ⟨h1, h2⟩ := List.getElem?_eq_some_iff.1 hu
    rw [← h2, Addr.add_lit]
    exact hc j h1
/-- append(own, pairs...), whatever their number: at the operation. -/
theorem wp_append_pairs {o : Oper} {a : Act} {K : Act → World → Prop} {Q : Exit → Act → World → Prop} (w : World) (s x : Operand)
    (ho : o.op = .call { callee := .builtin .append, args := #[s, x], argTypes := #[28, 28] }) (base : Nat) (v : Value) (n : Nat) (xs : List Value) (hs : a.eval s = v) (hown : w.ownsRow base 43 2 v n xs)
    (rv : Value) (row : List (Int × Int)) (hx : a.eval x = rv) (hr : SlK w rv row) (hsm : n + row.length ≤ 1000) (hbase : base ≤ w.heap.size) (N : Nat) (ys : List Value) (hN : n + row.length = N) (hys : xs ++ row.flatMap cells2 = ys)
    (h : ∀ v' w', w'.ownsRow base 43 2 v' N ys → w.grownBy w' v.ownBlock → K (a.put o.dst v') w') : o.wp Try.prog a w K Q := by
  subst hN hys
  obtain ⟨i0, hi, hz0, hz1, hz2⟩ := info_parts info43
  by_cases h0 : row = []
  · subst h0
    obtain ⟨ad, cap, hv, hle⟩ : ∃ ad cap, v = .slice ad n cap ∧ n ≤ cap := by
      rcases hown.2 with ⟨e, h0⟩ | ⟨g, cap, cur, e, _, _, hle, _⟩
      · exact ⟨none, 0, by rw [e, h0], by omega⟩
      · exact ⟨_, cap, e, hle⟩
    have hsrc := src_SlK hr
    have hrun := run_append_nothing (P := Try.prog) w 28 28 o.type 43 i0 Try.underlying28 hi ad n cap hle rv (by rw [hz1]; exact hsrc)
    rw [← hv] at hrun
    unfold Oper.wp execOp
    simp only [ho, resolve, invoke, builtin, Sem.run_bind, Sem.run_pure, Result.andThen_ok, List.map_toArray, List.map_cons, List.map_nil, hs, hx, hrun]
    exact h v w (by simpa using hown) ⟨rfl, rfl, rfl, Nat.le_refl _, fun _ _ _ => rfl⟩
  · have hp : 0 < row.length := List.length_pos_iff.2 h0
    have hone : ∀ u ∈ row.flatMap cells2, u.oneCell' = true := by
      intro u hu
      obtain ⟨z, _, hz⟩ := List.mem_flatMap.1 hu
      simp [cells2] at hz
      rcases hz with rfl | rfl <;> rfl
    obtain ⟨ad, cap, rfl, hn, hc⟩ := hr
    rcases hc with hc | ⟨b, off, rfl, hlt, hc⟩
    · omega
    · refine wp_append_lies w s x 28 ho base 43 i0 (.agg #[.int .i64 0, .int .i64 0]) 2 16 Try.underlying28 hi hz0 hz1 hz2 rfl (by omega) v n xs hs hown ⟨b, off, none⟩ row.length cap (row.flatMap cells2) hx (by rw [cells2_length]) ?_ hone hp (by unfold maxLen; omega) (by omega) hbase w.heap.size rfl (fun g cap w' h1 h2 _ _ => h _ w' h1 h2)
      intro j u hu
      obtain ⟨h1, h2⟩ := List.getElem?_eq_some_iff.1 hu
      rw [← h2, Addr.add_lit]
      exact hc j h1
theorem step_append_pairs {ops : Array Oper} {o : Oper} {a : Act} {K : Act → World → Prop} {Q : Exit → Act → World → Prop} {E : Prop} (w : World) (hgd : o.guard = none) (s x : Operand)
    (ho : o.op = .call { callee := .builtin .append, args := #[s, x], argTypes := #[28, 28] }) (base : Nat) (v : Value) (n : Nat) (xs : List Value) (hs : a.eval s = v) (hown : w.ownsRow base 43 2 v n xs)
    (rv : Value) (row : List (Int × Int)) (hx : a.eval x = rv) (hr : SlK w rv row) (hsm : n + row.length ≤ 1000) (hbase : base ≤ w.heap.size) (N : Nat) (ys : List Value) (hN : n + row.length = N) (hys : xs ++ row.flatMap cells2 = ys)
    (h : ∀ v' w', w'.ownsRow base 43 2 v' N ys → w.grownBy w' v.ownBlock → K (a.put o.dst v') w') : if Region.wanted o (yielded ops a.tmps) = true then Oper.wp Try.prog o a w K Q else E := by
  have hw : Region.wanted o (yielded ops a.tmps) = true := by simp [Region.wanted, hgd]
  rw [if_pos hw]
  exact wp_append_pairs w s x ho base v n xs hs hown rv row hx hr hsm hbase N ys hN hys h
/-- The block of a slice that is not empty. -/
def blkOf (v : Value) (k : Nat) : Prop := v.ownBlock = some k ∧ ∀ a cap, v ≠ .slice a 0 cap
/-- A slice of pairs in a later world that kept its block. -/
theorem SlK.same {w w' : World} {v : Value} {l : List (Int × Int)} (h : SlK w v l) (hz : w.heap.size ≤ w'.heap.size) (hs : ∀ k, blkOf v k → k < w.heap.size → w'.heap[k]? = w.heap[k]?) : SlK w' v l := by
  obtain ⟨a, cap, rfl, hn, hc⟩ := h
  by_cases h0 : l.length = 0
  · exact ⟨a, cap, rfl, hn, .inl h0⟩
  refine ⟨a, cap, rfl, hn, hc.imp id ?_⟩
  rintro ⟨b, off, rfl, hlt, hc⟩
  refine ⟨b, off, rfl, Nat.lt_of_lt_of_le hlt hz, fun i hi => ?_⟩
  exact (World.cell?_of_block (a := ⟨b, off + i, none⟩) (hs b ⟨rfl, fun a c e => by injection e; exact h0 (by assumption)⟩ hlt)).trans (hc i hi)
theorem drop_cells2 : ∀ (l : List (Int × Int)) (i : Nat), (l.drop i).flatMap cells2 = (l.flatMap cells2).drop (i * 2)
  | [], i => by simp
  | x :: l, 0 => by simp
  | x :: l, i + 1 => by
    have h := drop_cells2 l i
    rw [List.drop_succ_cons, h, List.flatMap_cons, Nat.succ_mul]
    rfl
theorem take_cells2 : ∀ (l : List (Int × Int)) (i : Nat), (l.take i).flatMap cells2 = (l.flatMap cells2).take (i * 2)
  | [], i => by simp
  | x :: l, 0 => by simp
  | x :: l, i + 1 => by
    have h := take_cells2 l i
    rw [List.take_succ_cons, List.flatMap_cons, h, List.flatMap_cons, Nat.succ_mul]
    rfl
/-- A part of a slice of pairs. -/
theorem SlK.part {w : World} {b off n cap : Nat} {l : List (Int × Int)} (h : SlK w (.slice (some ⟨b, off, none⟩) n cap) l) (i e c : Nat) (he : i + e ≤ l.length) (h0 : 0 < l.length) : SlK w (.slice (some ⟨b, off + i * 2, none⟩) e c) ((l.drop i).take e) ∧ ((l.drop i).take e).length = e := by
  have hlen : ((l.drop i).take e).length = e := by simp; omega
  refine ⟨⟨some ⟨b, off + i * 2, none⟩, c, by rw [hlen], ?_, .inr ⟨b, off + i * 2, rfl, ?_, ?_⟩⟩, hlen⟩
  · obtain ⟨a, cap, e1, hn, hc⟩ := h
    omega
  · obtain ⟨a, cap, e1, hn, hc⟩ := h
    rcases hc with hc | ⟨b2, o2, e2, hlt, hc⟩
    · omega
    · obtain ⟨e3, -, -⟩ := Value.slice.inj e1
      rw [← e3] at e2
      injection e2 with e2
      injection e2 with e4 e5
      subst e4
      exact hlt
  · obtain ⟨a, cap, e1, hn, hc⟩ := h
    rcases hc with hc | ⟨b2, o2, e2, hlt, hc⟩
    · omega
    · obtain ⟨e3, -, -⟩ := Value.slice.inj e1
      rw [← e3] at e2
      injection e2 with e2
      injection e2 with e4 e5
      subst e4 e5
      intro j hj
      have hj2 : i * 2 + j < (l.flatMap cells2).length := by
        rw [cells2_length] at hj ⊢
        rw [hlen] at hj
        omega
      have hx := hc (i * 2 + j) hj2
      rw [Nat.add_assoc, hx]
      congr 1
      have hd := drop_cells2 l i
      have ht := take_cells2 (l.drop i) e
      simp only [ht, hd]
      simp
end Go.Proofs.Ytjjphiecjhijiaa
