/- league.Draws. -/
import Derived.Test.YtjjphiecjhijiaaD3
namespace Go.Proofs.Ytjjphiecjhijiaa
open Go.RowKit Go.Shelf
attribute [local go_sem] Oper.semAt_some

theorem info28 : (Try.prog.info? 28).map (fun i => (i.zero, i.size, i.bytes)) = some (some (.slice none 0 0), 1, 24) := by kernel_rfl
theorem OutI.weak {bO bL L : Nat} {ds : List Nat} {w W : World} {X Y : Nat → Prop} (h : OutI bO bL L ds w W X) (hY : ∀ k, Y k → X k) : OutI bO bL L ds w W Y := by
  obtain ⟨v, cs, h1, h2, h3, h4, h5, h6⟩ := h
  exact ⟨v, cs, h1, h2, h3, fun k hk hy => h4 k hk (hY k hy), h5, h6⟩
/-- An append whose run is known, at a step of a region that draws, inside a fence. -/
theorem stepIn_append {F : Fence} {n : Nat} {ops : Array Oper} {o : Oper} {a : Act} {w w' : World} {K : Act → World → Prop} {Q : Exit → Act → World → Prop} {E : Prop} (hgd : o.guard = none) (s x : Operand) (t : TypeId)
    (ho : o.op = .call { callee := .builtin .append, args := #[s, x], argTypes := #[t, t] }) {v v1 v2 : Value} (hs : a.eval s = v1) (hx : a.eval x = v2) (hrun : (Builtin.append_ #[t, t] o.type #[v1, v2]).run Try.prog w = .ok v w') (h : K (a.put o.dst v) w') :
    if Region.wanted o (yielded ops a.tmps) = true then Oper.wpIn F n Try.prog o a w K Q else E := by
  have hw : Region.wanted o (yielded ops a.tmps) = true := by simp [Region.wanted, hgd]
  rw [if_pos hw]
  unfold Oper.wpIn
  refine ⟨by simp [Oper.about, ho, resolve, Target.leads, Sem.run_pure], ?_⟩
  rw [Oper.semAt_plain F _ _ (by rw [ho]; intro c hc'; cases hc')]
  simp [execOp, ho, resolve, invoke, builtin, hs, hx, hrun, Result.andThen]
  exact h
/-- A slice of slices of these lengths. -/
def SlD (w : World) (v : Value) (ds : List Nat) : Prop := ∃ base cs, w.ownsRow base 28 1 v ds.length cs ∧ LensOf cs ds
/-- What league.Draws returns. -/
def DrawsPost (tm L : Int) (w : World) (e : Ending) (w' : World) : Prop :=
  (∃ (v : Value) (c : Int) (ds : List Nat), e = .returned (.tuple #[v, .int .i64 c]) ∧ SlD w' v ds ∧ ((c = 4 ∧ ds = []) ∨ (c = 0 ∧ 1 ≤ L ∧ L ≤ 8 ∧ 2 ≤ tm ∧ tm ≤ 16 ∧ GoodD (min L.toNat (gamesN tm.toNat)) ds ∧ ds.length ≤ 128))) ∧ Below w.heap.size w w'

/-- Between two rounds; and in a round, behind its first statement. -/
def DrI (T l : Nat) (w : World) (O : Nat → Prop) (pre : List Value) (W : World) : Prop := ∃ ds, GoodD (min l (gamesN T)) ds ∧ ds.length ≤ 8 * pre.length ∧ OutI (w.heap.size + 1) w.heap.size l ds w W O
def DrA (T l : Nat) (w : World) (O : Nat → Prop) (pre : List Value) (x : Value) (a' : Act) (W : World) : Prop :=
  a' = { tmps := #[.int .i64 (T : Int), .int .i64 (l : Int), undef, .pointer (some ⟨w.heap.size, 0, none⟩), .slice none 0 0, .int .i64 0, .pointer (some ⟨w.heap.size + 1, 0, none⟩), x, undef, .int .i64 (T : Int),
    .bool true, .bool false, .bool false, .int .i64 (l : Int), .bool true, .bool false, .bool false, .int .i64 (T : Int),
    .func (.func 23) #[] #[.pointer (some ⟨w.heap.size + 1 + 1, 0, none⟩)], x, undef, undef, undef, undef, undef, undef, undef, undef, undef, undef], defers := [] } ∧ NxR T pre x W ∧ DrI T l w O pre W
/-- The same between two chunks of a round: what the round must keep. -/
def DrI2 (T l n0 B b : Nat) (w W : World) (O : Nat → Prop) (O2 : Nat → Prop) (pre2 : List Value) (W' : World) : Prop :=
  ∃ ds, GoodD (min l (gamesN T)) ds ∧ pre2.length ≤ ds.length ∧ ds.length ≤ n0 + pre2.length ∧ pre2.length ≤ 8 ∧ OutI (w.heap.size + 1) w.heap.size l ds w W' (fun k => O k ∨ O2 k ∨ k = b ∨ k = W.heap.size ∨ k = W.heap.size + 1) ∧
    KeepsFrom B W W' ∧ (∀ k, O k ∨ k = w.heap.size + 1 + 1 → W'.heap[k]? = W.heap[k]?)
theorem DrI2.ch {T l n0 B C b : Nat} {w W A A' : World} {O O2 : Nat → Prop} {pre2 : List Value} (h : DrI2 T l n0 B b w W O O2 pre2 A) (hO : ∀ k, O k → k < W.heap.size) (hC : ∀ k, O2 k → C ≤ k) (hW : W.heap.size ≤ C) (hT : w.heap.size + 2 < W.heap.size) (hc : Ch O2 A A') :
    DrI2 T l n0 B b w W O (NewO O2 A A') pre2 A' := by
  obtain ⟨ds, h1, h2, h3, h4, h5, h6, h7⟩ := h
  have hAW := h6.size
  refine ⟨ds, h1, h2, h3, h4, ?_, ⟨Nat.le_trans hAW hc.1.size, fun k o hB hk ho => ?_⟩, fun k hk => ?_⟩
  · refine h5.move (X' := O2) ⟨hc.1.os, hc.1.tape, hc.1.output, hc.1.size, fun k hk => hc.2 k (by omega) (fun hx => by have := hC k hx; omega)⟩ ⟨fun hx => by have := hC _ hx; omega, fun hx => by have := hC _ hx; omega⟩ (fun k h => .inr (.inl h))
      (fun k hk hn => ?_) (fun k o hk _ hno => hc.2 k (Array.getElem?_eq_some_iff.1 hk).1 hno)
    rcases hn with hn | (hn | hn) | hn
    · exact .inl hn
    · exact .inr (.inl hn)
    · omega
    · exact .inr (.inr hn)
  · have hkW := (Array.getElem?_eq_some_iff.1 hk).1
    exact (hc.2 k (by omega) (fun hx => by have := hC k hx; omega)).trans (h6.same k o hB hk ho)
  · have hkW : k < W.heap.size := by
      rcases hk with hk | rfl
      · exact hO k hk
      · omega
    exact (hc.2 k (by omega) (fun hx => by have := hC k hx; omega)).trans (h7 k hk)
theorem DrI2.recs {T l n0 B C b : Nat} {w W A A' : World} {O O2 : Nat → Prop} {pre2 : List Value} {row : Option Nat} (h : DrI2 T l n0 B b w W O O2 pre2 A) (hO : ∀ k, O k → k < W.heap.size) (hW : W.heap.size ≤ C) (hT : w.heap.size + 2 < W.heap.size)
    (hg : A.grownBy A' row) (hr : ∀ r, row = some r → C ≤ r ∧ ∃ o : Obj, A.heap[r]? = some o ∧ o.isCells = false) : DrI2 T l n0 B b w W O O2 pre2 A' := by
  obtain ⟨ds, h1, h2, h3, h4, h5, h6, h7⟩ := h
  have hAW := h6.size
  have hsame : ∀ k, k < W.heap.size → A'.heap[k]? = A.heap[k]? := fun k hk => hg.block k (by omega) (fun e => by have := (hr k e.symm).1; omega)
  refine ⟨ds, h1, h2, h3, h4, h5.recs hg hr (by omega), ⟨Nat.le_trans hAW hg.size, fun k o hB hk ho => ?_⟩, fun k hk => ?_⟩
  · exact (hsame k (Array.getElem?_eq_some_iff.1 hk).1).trans (h6.same k o hB hk ho)
  · have hkW : k < W.heap.size := by
      rcases hk with hk | rfl
      · exact hO k hk
      · omega
    exact (hsame k hkW).trans (h7 k hk)
/-- A round of the inner loop, behind its first statement. -/
def DrA2 (T l g n0 B b off cap : Nat) (w W : World) (O : Nat → Prop) (v0 : Value) (O2 : Nat → Prop) (pre2 : List Value) (x : Value) (a' : Act) (W' : World) : Prop :=
  a' = { tmps := #[.int .i64 (T : Int), .int .i64 (l : Int), undef, .pointer (some ⟨w.heap.size, 0, none⟩), .slice none 0 0, .int .i64 0, .pointer (some ⟨w.heap.size + 1, 0, none⟩), .slice (some ⟨b, off, none⟩) g cap, x, .int .i64 (T : Int),
    .bool true, .bool false, .bool false, .int .i64 (l : Int), .bool true, .bool false, .bool false, .int .i64 (T : Int),
    .func (.func 23) #[] #[.pointer (some ⟨w.heap.size + 1 + 1, 0, none⟩)], .slice (some ⟨b, off, none⟩) g cap, .slice (some ⟨b, off, none⟩) g cap, .int .i64 (l : Int),
    v0, x, undef, undef, undef, undef, undef, undef], defers := [] } ∧ NxC g l pre2 x W' ∧ DrI2 T l n0 B b w W O O2 pre2 W'
/-- A chunk more. -/
theorem DrI2.step {T l n0 B C b : Nat} {w W A w3 w4 : World} {O O2 : Nat → Prop} {pre2 : List Value} {x : Value} {es : List Nat} {ad : Option Addr} {capv : Nat} {cs : List Value} {ad3 : Option Addr} {d cap3 g cap4 : Nat}
    (h : GoodD (min l (gamesN T)) es ∧ pre2.length ≤ es.length ∧ es.length ≤ n0 + pre2.length ∧ pre2.length ≤ 8 ∧ KeepsFrom B W A ∧ (∀ k, O k ∨ k = w.heap.size + 1 + 1 → A.heap[k]? = W.heap[k]?))
    (o1 : A.heap[w.heap.size + 1]? = some (.cells #[.slice ad es.length capv] 22 (0, 0))) (o2 : A.ownsRow (w.heap.size + 3) 28 1 (.slice ad es.length capv) es.length cs)
    (o : LensOf cs es ∧ (∀ k, (Value.slice ad es.length capv).ownBlock = some k → ¬ (O k ∨ O2 k ∨ k = b ∨ k = W.heap.size ∨ k = W.heap.size + 1)) ∧ A.heap[w.heap.size]? = some (.cells #[.int .i64 (l : Int)] 3 (0, 0)) ∧ Below w.heap.size w A)
    (hd : d ≤ min l (gamesN T)) (hd0 : pre2.length = 0 → d = min l (gamesN T)) (hp8 : pre2.length < 8)
    (hO : ∀ k, O k → w.heap.size + 2 < k ∧ k < W.heap.size) (hO2 : ∀ k, O2 k → W.heap.size + 2 ≤ k ∧ k < A.heap.size) (hbW : b < W.heap.size) (hbO : b ≠ w.heap.size + 1) (hT : w.heap.size + 2 < W.heap.size) (hWA : W.heap.size + 2 ≤ A.heap.size) (hBC : B ≤ C) (hB : w.heap.size + 3 ≤ B)
    (hb3 : Below A.heap.size A w3) (h2 : w4.ownsRow (w.heap.size + 3) 28 1 (.slice (some ⟨g, 0, none⟩) (es.length + 1) cap4) (es.length + 1) (cs ++ [.slice ad3 d cap3]))
    (h3 : (w3.alloc (.cells #[.slice ad3 d cap3] 28)).grownBy w4 (Value.slice ad es.length capv).ownBlock) (h5 : (Value.slice ad es.length capv).ownBlock = some g ∨ g = (w3.alloc (.cells #[.slice ad3 d cap3] 28)).heap.size) :
    KeepsFrom C A (w4.setCell ⟨w.heap.size + 1, 0, none⟩ (.slice (some ⟨g, 0, none⟩) (es.length + 1) cap4)) ∧
    (∀ k, O2 k ∨ (k = b ∨ k = W.heap.size ∨ k = W.heap.size + 1) → (w4.setCell ⟨w.heap.size + 1, 0, none⟩ (.slice (some ⟨g, 0, none⟩) (es.length + 1) cap4)).heap[k]? = A.heap[k]?) ∧
    DrI2 T l n0 B b w W O O2 (pre2 ++ [x]) (w4.setCell ⟨w.heap.size + 1, 0, none⟩ (.slice (some ⟨g, 0, none⟩) (es.length + 1) cap4)) := by
  obtain ⟨e1, e2, e3, e4, e6, e7⟩ := h
  obtain ⟨o3, o4, o5, o6⟩ := o
  have hA3 := hb3.size
  have h34 := h3.size
  rw [World.size_alloc] at h34
  generalize hv' : Value.slice (some ⟨g, 0, none⟩) (es.length + 1) cap4 = v' at *
  have hsame : ∀ k, k < A.heap.size → k ≠ w.heap.size + 1 → (Value.slice ad es.length capv).ownBlock ≠ some k → (w4.setCell ⟨w.heap.size + 1, 0, none⟩ v').heap[k]? = A.heap[k]? := by
    intro k hk h1 hr
    rw [heap_setCell_other w4 ⟨w.heap.size + 1, 0, none⟩ k v' h1, h3.block k (by simp; omega) (fun e => hr e.symm), Below.heap_alloc _ _ _ (by omega), hb3.block k hk]
  have hrow : ∀ k, (Value.slice ad es.length capv).ownBlock = some k → w.heap.size + 3 ≤ k ∧ k < A.heap.size := fun k hk => o2.lt k hk
  have hsz : A.heap.size ≤ (w4.setCell ⟨w.heap.size + 1, 0, none⟩ v').heap.size := by simp; omega
  refine ⟨⟨hsz, fun k o hC hk ho => ?_⟩, fun k hk => ?_, es ++ [d], e1.snoc hd (fun h0 => hd0 (by rw [h0] at e2; simpa using e2)), ?_, ?_, ?_, ?_, ⟨Nat.le_trans e6.size hsz, fun k o hC hk ho => ?_⟩, fun k hk => ?_⟩
  · refine (hsame k (Array.getElem?_eq_some_iff.1 hk).1 (by omega) (fun hr => ?_)).trans hk
    obtain ⟨cur, hcur⟩ := own_type o2 k hr
    rw [hk] at hcur
    injection hcur with hcur
    rw [hcur] at ho
    cases ho
  · have hkA : k < A.heap.size := by
      rcases hk with hk | hk | hk | hk
      · exact (hO2 k hk).2
      · omega
      · omega
      · omega
    refine hsame k hkA ?_ (fun hr => o4 k hr ?_)
    · rcases hk with hk | hk | hk | hk
      · have := (hO2 k hk).1; omega
      · omega
      · omega
      · omega
    · rcases hk with hk | hk
      · exact .inr (.inl hk)
      · exact .inr (.inr hk)
  · simp; omega
  · simp; omega
  · simp; omega
  · have hw4 : w4.heap[w.heap.size + 1]? = some (.cells #[.slice ad es.length capv] 22 (0, 0)) := by
      rw [h3.block (w.heap.size + 1) (by simp; omega) (fun e => by have := hrow _ e.symm; omega), Below.heap_alloc _ _ _ (by omega), hb3.block _ (by omega)]
      exact o1
    have hg1 : v'.ownBlock = some g := by rw [← hv']; rfl
    have hgr := h2.lt g hg1
    refine ⟨v', cs ++ [.slice ad3 d cap3], (heap_setCell_same w4 (w.heap.size + 1) 0 _ 22 v' hw4).trans (by simp), ?_, o3.snoc ad3 d cap3, ?_, ?_, ?_⟩
    · rw [show (es ++ [d]).length = es.length + 1 by simp]
      refine own_same h2 (fun k o hk _ _ => heap_setCell_other w4 ⟨w.heap.size + 1, 0, none⟩ k v' (by
        rw [hg1] at hk
        injection hk with hk
        show k ≠ w.heap.size + 1
        omega))
    · intro k hk hx
      rw [hg1] at hk
      injection hk with hk
      subst hk
      rcases h5 with h5 | h5
      · exact o4 g h5 hx
      · rw [World.size_alloc] at h5
        have hgA : A.heap.size < g := by omega
        rcases hx with hx | hx | hx | hx | hx
        · have := hO g hx; omega
        · have := hO2 g hx; omega
        · omega
        · omega
        · omega
    · exact (hsame _ (by omega) (by omega) (fun hr => by have := hrow _ hr; omega)).trans o5
    · refine o6.trans ((((hb3.mono (by omega)).alloc (by omega) _).grown h3 (by simp; omega) (fun k e => by have := hrow k e; omega)).setCell (p := ⟨w.heap.size + 1, 0, none⟩) (by simp) _)
  · have hkW := (Array.getElem?_eq_some_iff.1 hk).1
    have hkA := e6.same k o hC hk ho
    refine (hsame k (by omega) (by omega) (fun hr => ?_)).trans hkA
    obtain ⟨cur, hcur⟩ := own_type o2 k hr
    rw [hkA] at hcur
    injection hcur with hcur
    rw [hcur] at ho
    cases ho
  · have hkW : k < W.heap.size ∧ w.heap.size + 1 < k := by
      rcases hk with hk | rfl
      · have := hO k hk; omega
      · omega
    refine (hsame k (by omega) (by omega) (fun hr => ?_)).trans (e7 k hk)
    rcases hk with hk | rfl
    · exact o4 k hr (.inl hk)
    · have := hrow _ hr; omega
set_option maxRecDepth 100000 in
set_option maxHeartbeats 4000000 in
theorem draws_any (tm L : Int) (w : World) : Calls Try.prog 4 #[.int .i64 tm, .int .i64 L] w (DrawsPost tm L w) := by
  have hmf : ∀ (fn : Fn) (first cap : Array Value) (w : World), (Instr.makeFunc fn first cap).run Try.prog w = .ok (.func fn first cap) w := fun _ _ _ _ => rfl
  by_cases hok : (2 ≤ tm ∧ tm ≤ 16) ∧ 1 ≤ L ∧ L ≤ 8
  · obtain ⟨⟨ht2, ht16⟩, hL1, hL8⟩ := hok
    have hi1 : inB tm 2 16 = true := by simp [inB]; omega
    have hi2 : inB L 1 8 = true := by simp [inB]; omega
    have H1 := hid (fun W => within_l tm 2 16 W)
    have H2 := hid (fun W => within_l L 1 8 W)
    rw [hi1] at H1
    rw [hi2] at H2
    clear hi1 hi2
    obtain ⟨T, rfl⟩ := Int.eq_ofNat_of_zero_le (show 0 ≤ tm by omega)
    obtain ⟨l, rfl⟩ := Int.eq_ofNat_of_zero_le (show 0 ≤ L by omega)
    refine callsIn_wide (n := 20) |>.1 ?_
    refine callsIn_of_wp_marks Try.func4 rfl trivial ?_ rfl
    simp only [Try.ntmps4, List.size_toArray, List.length_cons, List.length_nil, Nat.reduceAdd, Nat.reduceSub, Array.replicate_succ, Array.replicate_zero, List.push_toArray, List.append_toArray, List.nil_append, List.cons_append]
    gi_wp2_with fail
    refine ⟨trivial, ?_⟩
    refine (callsIn_wide.2 (H1.out _)).mono ?_
    rintro e w' ⟨rfl, rfl⟩
    gi_wp2_with fail
    refine ⟨trivial, ?_⟩
    refine (callsIn_wide.2 (H2.out _)).mono ?_
    rintro e w' ⟨rfl, rfl⟩
    gi_wp2_with fail
    refine ⟨trivial, ?_⟩
    refine (callsIn_wide.2 (rounds_any (T : Int) _)).mono ?_
    rintro e w' ⟨rfl, rfl⟩
    gi_wp2_with fail
    obtain ⟨W3, hW3⟩ : ∃ W3, ((w.alloc (.cells #[.int .i64 (l : Int)] 3)).alloc (.cells #[.slice none 0 0] 22)).alloc (.cells #[.int .i64 (T : Int)] 3) = W3 := ⟨_, rfl⟩
    have hz3 : W3.heap.size = w.heap.size + 3 := by rw [← hW3]; simp
    have hL3 : W3.heap[w.heap.size]? = some (.cells #[.int .i64 (l : Int)] 3 (0, 0)) := by
      rw [← hW3, Below.heap_alloc _ _ _ (by simp; omega), Below.heap_alloc _ _ _ (by simp)]; exact heap_alloc_new w _
    have hO3 : W3.heap[w.heap.size + 1]? = some (.cells #[.slice none 0 0] 22 (0, 0)) := by
      rw [← hW3, Below.heap_alloc _ _ _ (by simp)]
      have := heap_alloc_new (w.alloc (.cells #[.int .i64 (l : Int)] 3)) (.cells #[.slice none 0 0] 22)
      simpa using this
    have hT3 : W3.heap[w.heap.size + 1 + 1]? = some (.cells #[.int .i64 (T : Int)] 3 (0, 0)) := by
      rw [← hW3]
      have := heap_alloc_new ((w.alloc (.cells #[.int .i64 (l : Int)] 3)).alloc (.cells #[.slice none 0 0] 22)) (.cells #[.int .i64 (T : Int)] 3)
      simpa using this
    have hb3 : Below w.heap.size w W3 := by
      rw [← hW3]; exact (((Below.refl _ w).alloc (Nat.le_refl _) _).alloc (by simp) _).alloc (by simp; omega) _
    rw [hW3]
    clear hW3
    refine wpIn_rangeG rfl (by omega) (gf := 23) (lb := #[.pointer (some ⟨w.heap.size + 1 + 1, 0, none⟩)]) rfl trivial (enters_of Try.func23 (by kernel_rfl) rfl)
      (encs := fun v : Value => #[v]) (K := fun k => k = w.heap.size + 1 + 1) (Nx := NxR T) (Dn := fun pre => pre.length = circleN T) (Pn := fun _ _ => False) (w0 := W3) ?seq (Below.refl _ _) (fun _ => rfl) ?hK
      (DrI T l w) (DrA T l w)
      ?hI ?hIs ?hIas ?h0 ?assign ?body ?done ?panic
    case seq =>
      intro lp J Jp W hbW hJ hY hP h0
      refine (rounds1_in (20 - 1) (by omega) lp (w.heap.size + 1 + 1) T (by omega) (by omega) J W ?_ hJ hY h0).mono ?_
      · exact (hbW.cell (p := ⟨w.heap.size + 1 + 1, 0, none⟩) (by simp; omega)).trans (by simp [World.cell?, hT3])
      · rintro e W' ⟨⟨v, rfl⟩, O, pre, h1, h2⟩
        exact ⟨O, pre, h1, h2⟩
    case hK => rintro k rfl; omega
    case hI =>
      rintro O pre W W' ⟨ds, h1, h2, h3⟩ hO hz hc
      exact ⟨ds, h1, h2, h3.ch (B := w.heap.size + 3) hc (fun k hk => by have := hO k hk; omega) ⟨by omega, by omega, by omega⟩⟩
    case hIs =>
      rintro O pre W W' row ⟨ds, h1, h2, h3⟩ hg hr
      exact ⟨ds, h1, h2, h3.recs hg hr (by omega)⟩
    case hIas =>
      rintro O pre x a' W W' row ⟨rfl, ⟨n1, vs, n2, n3, n4, n5⟩, ds, h1, h2, h3⟩ hg hr
      exact ⟨rfl, ⟨n1, vs, n2, n3.recs hg hr, n4, fun b hb => by obtain ⟨cur, hc⟩ := n5 b hb; exact ⟨cur, (block_recs hc rfl hg hr).trans hc⟩⟩, ds, h1, h2, h3.recs hg hr (by omega)⟩
    case h0 =>
      refine ⟨[], ⟨by simp, by simp⟩, by simp, .slice none 0 0, [], hO3, World.ownsRow_nil _ _ _ _, trivial, fun k e => by simp [Value.ownBlock] at e, hL3, hb3⟩
    case assign =>
      rintro lp O pre x W hx hi hO hz
      gi_wp2_with fail
      exact ⟨KeepsFrom.refl _ _, fun _ _ => trivial, rfl, hx, hi⟩
    case body =>
      rintro lp O pre x a' W hl ⟨rr, hrr⟩ ⟨rfl, ⟨n1, vs, n2, n3, n4, n5⟩, ds, g1, g2, g3⟩ hO hz
      have hgm : 1 ≤ gamesN T ∧ gamesN T ≤ 8 := by unfold gamesN; omega
      obtain ⟨ad, cap, rfl, hcap⟩ := n4
      obtain ⟨b, off, rfl, hblt⟩ : ∃ b off, ad = some ⟨b, off, none⟩ ∧ b < W.heap.size := by
        obtain ⟨a, c, e, _, hc⟩ := n3
        obtain ⟨e1, -, -⟩ := Value.slice.inj e
        rcases hc with hc | ⟨b, off, e2, hlt, _⟩
        · omega
        · exact ⟨b, off, e1.trans e2, hlt⟩
      have HG3 := hid g3
      have HN3 := hid n3
      have HN2 := hid n2
      have c1 : W.cell? ⟨w.heap.size, 0, none⟩ = some (.int .i64 (l : Int)) := by
        obtain ⟨_, _, _, _, _, _, o5, _⟩ := g3
        simp [World.cell?, o5]
      clear g3 n3 n2
      gi_wp2_with fail
      refine ⟨trivial, ?_⟩
      refine (CallsIn.inRound lp (callsIn_wide.2 (chunk_any (some ⟨b, off, none⟩) vs.length cap (l : Int) (by omega) W))).mono ?_
      rintro e w' ⟨rfl, rfl⟩
      gi_wp2_with fail
      obtain ⟨Wi, hWi⟩ : ∃ Wi, (W.alloc (.cells #[.slice (some ⟨b, off, none⟩) vs.length cap] 28)).alloc (.cells #[.int .i64 (l : Int)] 3) = Wi := ⟨_, rfl⟩
      have hzi : Wi.heap.size = W.heap.size + 2 := by rw [← hWi]; simp
      have hSi : Wi.cell? ⟨W.heap.size, 0, none⟩ = some (.slice (some ⟨b, off, none⟩) vs.length cap) := by
        rw [← hWi]; simp [go_sem]
      have hNi : Wi.cell? ⟨W.heap.size + 1, 0, none⟩ = some (.int .i64 (l : Int)) := by
        rw [← hWi]; simp [go_sem]
      have hbi : Below W.heap.size W Wi := by
        rw [← hWi]; exact ((Below.refl _ W).alloc (Nat.le_refl _) _).alloc (by simp) _
      have hrri : Wi.heap[lp]? = some (.loop rr) := (hbi.block lp (Array.getElem?_eq_some_iff.1 hrr).1).trans hrr
      rw [hWi]
      clear hWi c1
      have hOW : ∀ k, O k → k < W.heap.size := fun k hk => (hO k hk).2
      have hTW : w.heap.size + 2 < W.heap.size := by omega
      refine wpIn_rangeGN (l₀ := lp) (r₀ := rr) rfl hrri (by omega) (gf := 25) (lb := #[.pointer (some ⟨W.heap.size, 0, none⟩), .pointer (some ⟨W.heap.size + 1, 0, none⟩)]) rfl trivial (enters_of Try.func25 (by kernel_rfl) rfl)
        (encs := fun v : Value => #[v]) (K := fun k => k = b ∨ k = W.heap.size ∨ k = W.heap.size + 1) (Nx := NxC vs.length l) (Dn := fun pre => vs.length ≤ pre.length * l) (Pn := fun _ _ => False) (w0 := Wi) ?seq2 (Below.refl _ _) (fun _ => rfl) ?hK2
        (DrI2 T l (8 * pre.length) W3.heap.size b w W O) (DrA2 T l vs.length (8 * pre.length) W3.heap.size b off cap w W O (.func (.func 25) #[] #[.pointer (some ⟨W.heap.size, 0, none⟩), .pointer (some ⟨W.heap.size + 1, 0, none⟩)]))
        ?hI2 ?hIs2 ?hIas2 ?h02 ?assign2 ?body2 ?done2 ?panic2
      case seq2 =>
        intro lq J Jp Wx hbW hJ hY hP h0
        refine (CallsIn.inRound lp (chunk1_in (20 - 1 - 1 - 1) (by omega) lq W.heap.size (W.heap.size + 1) l (by omega) (by omega) b off cap vs (by have := HN2.out; omega) (by have := HN2.out; omega) J Wx ?_ hcap ?_ ?_ hJ hY h0)).mono ?_
        · exact (HN3.out.below hbi).below hbW
        · exact bcs hbW hSi
        · exact bcs hbW hNi
        · rintro e W' ⟨⟨v, rfl⟩, O, pre, h1, h2⟩
          exact ⟨O, pre, h1, h2⟩
      case hK2 => rintro k (rfl | rfl | rfl) <;> omega
      case hI2 =>
        rintro O2 pre2 A A' hi hO2 hz2 hc
        exact hi.ch (C := Wi.heap.size + 1) hOW hO2 (by omega) hTW hc
      case hIs2 =>
        rintro O2 pre2 A A' row hi hg hr
        exact hi.recs hOW (by omega) hTW hg hr
      case hIas2 =>
        rintro O2 pre2 x a' A A' row ⟨rfl, ⟨m1, us, m2, m3⟩, hi⟩ hg hr
        exact ⟨rfl, ⟨m1, us, m2, m3.recs hg hr⟩, hi.recs hOW (by omega) hTW hg hr⟩
      case h02 =>
        refine ⟨ds, g1, by simp, by simpa using g2, by simp, ?_, ⟨by omega, fun k o hB hk ho => (hbi.block k (Array.getElem?_eq_some_iff.1 hk).1).trans hk⟩, fun k hk => hbi.block k ?_⟩
        · obtain ⟨v, cs, o1, o2, o3, o4, o5, o6⟩ := HG3.out
          have hlo := fun k hk => o2.lt k hk
          refine ⟨v, cs, (hbi.block _ (by omega)).trans o1, own_below o2 hbi, o3, fun k hk hx => ?_, (hbi.block _ (by omega)).trans o5, o6.trans (hbi.mono (by omega))⟩
          have h1 := hlo k hk
          rcases hx with hx | hx | hx | hx | hx
          · exact o4 k hk hx
          · exact hx
          · subst hx
            obtain ⟨cur, hcur⟩ := own_type o2 k hk
            obtain ⟨cur2, hcur2⟩ := n5 k rfl
            rw [hcur] at hcur2
            cases hcur2
          · omega
          · omega
        · rcases hk with hk | rfl
          · exact hOW k hk
          · omega
      case assign2 =>
        rintro lq O2 pre2 x A hx hi hO2 hz2
        gi_wp2_with fail
        exact ⟨KeepsFrom.refl _ _, fun _ _ => trivial, rfl, hx, hi⟩
      case body2 =>
        rintro lq O2 pre2 x a' A hlq _ ⟨rfl, ⟨m1, us, m2, m3⟩, es, e1, e2, e3, e4, e5, e6, e7⟩ hO2 hz2
        obtain ⟨v, cs, o1, o2, o3, o4, o5, o6⟩ := e5
        obtain ⟨ad, capv, rfl, hcv⟩ := own_cap o2
        obtain ⟨adx, cpx, rfl, _⟩ : ∃ adx cpx, x = .slice adx us.length cpx ∧ us.length ≤ 1000 := by
          obtain ⟨a, c, e, _⟩ := m3
          exact ⟨a, c, e, by omega⟩
        have hmx : Try.prog.follows .mixedOrders = true := by kernel_rfl
        have c1 : A.cell? ⟨w.heap.size + 1, 0, none⟩ = some (.slice ad es.length capv) := by simp [World.cell?, o1]
        have HO2 := hid o2
        have HM3 := hid m3
        have hus : 0 < us.length ∧ us.length ≤ 1000 := by omega
        have HUS := hid hus
        have HZA := hid (show w.heap.size + 3 ≤ A.heap.size by have := e6.size; omega)
        obtain ⟨i1, hi1, hi2, hi3, hi4⟩ := info_parts info28
        have HI1 := hid (And.intro hi1 (And.intro hi2 (And.intro hi3 hi4)))
        have H1A := hid o1
        have H3A := hid (And.intro o3 (And.intro o4 (And.intro o5 o6)))
        have HEE := hid (And.intro e1 (And.intro e2 (And.intro e3 (And.intro e4 (And.intro e6 e7)))))
        have HM2 := hid (And.intro m1 m2)
        have hmin2 : us.length = min l (vs.length - pre2.length * l) := m2
        have hvg := HN2.out
        have HD1 := hid (show us.length ≤ min l (gamesN T) by rw [hmin2, ← hvg]; omega)
        have HD2 := hid (show pre2.length = 0 → us.length = min l (gamesN T) by intro h; rw [hmin2, h, ← hvg]; simp)
        have HD3 := hid (show pre2.length < 8 by
          have : pre2.length * 1 ≤ pre2.length * l := Nat.mul_le_mul_left _ (by omega)
          omega)
        have HOO := hid (show ∀ k, O k → w.heap.size + 2 < k ∧ k < W.heap.size from fun k hk => by have := hO k hk; omega)
        have HO22 := hid (show ∀ k, O2 k → W.heap.size + 2 ≤ k ∧ k < A.heap.size from fun k hk => by have := hO2 k hk; omega)
        have HBO := hid (show b ≠ w.heap.size + 1 by
          rintro rfl
          obtain ⟨cur, hc⟩ := n5 _ rfl
          obtain ⟨v, cs, p1, _⟩ := HG3.out
          rw [p1] at hc
          cases hc)
        clear hmin2 hvg
        have hes : es.length ≤ 1000 := by
          have : circleN T ≤ 16 := by unfold circleN; omega
          omega
        have HES := hid hes
        clear o1 o2 o3 o4 o5 o6 m1 m2 m3 hus hi1 hi2 hi3 hi4 e1 e2 e3 e4 e6 e7 hes
        gi_wp2_with fail
        have HCL : Hid (Calls Try.prog 12 #[.slice adx us.length cpx] A.drew (fun e w3 => ∃ ad3 cap3 g cap4 w4, e = .returned (.slice ad3 us.length cap3) ∧ w3.cell? ⟨w.heap.size + 1, 0, none⟩ = some (.slice ad es.length capv) ∧
            (Builtin.append_ #[22, 22] 22 #[.slice ad es.length capv, .slice (some ⟨w3.heap.size, 0, none⟩) 1 1]).run Try.prog (w3.alloc (.cells #[.slice ad3 us.length cap3] 28)) = .ok (.slice (some ⟨g, 0, none⟩) (es.length + 1) cap4) w4 ∧
            w4.cell? ⟨w.heap.size + 1, 0, none⟩ = some (.slice ad es.length capv) ∧ w4.frozen? ⟨w.heap.size + 1, 0, none⟩ = false ∧
            Hid (KeepsFrom Wi.heap.size A (w4.setCell ⟨w.heap.size + 1, 0, none⟩ (.slice (some ⟨g, 0, none⟩) (es.length + 1) cap4)) ∧
              (∀ k, O2 k ∨ (k = b ∨ k = W.heap.size ∨ k = W.heap.size + 1) → (w4.setCell ⟨w.heap.size + 1, 0, none⟩ (.slice (some ⟨g, 0, none⟩) (es.length + 1) cap4)).heap[k]? = A.heap[k]?) ∧
              DrI2 T l (8 * pre.length) W3.heap.size b w W O O2 (pre2 ++ [.slice adx us.length cpx]) (w4.setCell ⟨w.heap.size + 1, 0, none⟩ (.slice (some ⟨g, 0, none⟩) (es.length + 1) cap4))))) := by
          refine (clone_any _ us _ (HM3.out.below (Below.refl _ _).drew) HUS.out.1 HUS.out.2).mono ?_
          rintro e w3 ⟨⟨ad3, cap3, rfl⟩, hb3'⟩
          have hb3 := ((Below.refl A.heap.size A).drew).trans hb3'
          have hs3 := hb3.size
          obtain ⟨g, cap4, w4, hrun, h2, h3, h5, -⟩ := run_append_lies (P := Try.prog) (w := w3.alloc (.cells #[.slice ad3 us.length cap3] 28)) 22 22 (w.heap.size + 3) 28 i1 (.slice none 0 0) 1 24 Try.underlying22 HI1.out.1 HI1.out.2.1 HI1.out.2.2.1 HI1.out.2.2.2 rfl (by omega) (.slice ad es.length capv) es.length cs ((own_below HO2.out hb3).alloc _) ⟨w3.heap.size, 0, none⟩ 1 1 [.slice ad3 us.length cap3] rfl (cell_one_new _ _ _) (ones _ rfl) (by omega) (by have := HES.out; unfold maxLen; omega) (by have := HES.out; omega) (by have := HZA.out; simp; omega) _ rfl
          have hq : w4.heap[w.heap.size + 1]? = some (.cells #[.slice ad es.length capv] 22 (0, 0)) := by
            have hz := HZA.out
            rw [h3.block (w.heap.size + 1) (by simp; omega) (fun e => by have := HO2.out.lt _ e.symm; omega), Below.heap_alloc _ _ _ (by omega), hb3.block _ (by omega)]
            exact H1A.out
          refine ⟨ad3, cap3, g, cap4, w4, rfl, bcs hb3 c1, hrun, by simp [World.cell?, hq], by simp [World.frozen?, hq], ?_⟩
          exact DrI2.step ⟨HEE.out.1, HEE.out.2.1, HEE.out.2.2.1, HEE.out.2.2.2.1, HEE.out.2.2.2.2.1, HEE.out.2.2.2.2.2⟩ H1A.out HO2.out H3A.out HD1.out HD2.out HD3.out HOO.out HO22.out hblt HBO.out hTW (by omega) (by omega) (by omega) hb3 h2 h3 h5
        refine wpIn_region_any hmx ?_
        change wpAnyIn _ _ _ _ _ _ _ _ _ (World.drew _)
        refine wpAnyIn_ready (rs := [0, 1]) (by kernel_rfl) (by simp) ?_
        refine AllReadyIn.cons rfl (fun K hK => ?_) (AllReadyIn.cons rfl (fun K hK => ?_) AllReadyIn.nil)
        · go_simp
          refine hK _ _ ?_
          clear hK K
          refine wpAnyIn_ready (rs := [1]) (by kernel_rfl) (by simp) ?_
          refine AllReadyIn.cons rfl (fun K hK => ?_) AllReadyIn.nil
          go_simp
          refine hK _ _ ?_
          clear hK K
          refine wpAnyIn_ready (rs := [2]) (by kernel_rfl) (by simp) ?_
          refine AllReadyIn.cons rfl (fun K hK => ?_) AllReadyIn.nil
          go_simp
          refine ⟨trivial, ?_⟩
          refine (CallsIn.inRound lq (CallsIn.inRound lp (callsIn_wide.2 HCL.out))).mono ?_
          rintro e w3 ⟨ad3, cap3, g, cap4, w4, rfl, k1, hrun, q1, q2, HF⟩
          have k2 := bcs ((Below.refl w3.heap.size w3).alloc (Nat.le_refl _) (.cells #[.slice ad3 us.length cap3] 28)) k1
          have HR := hid hrun
          clear hrun
          refine hK _ _ ?_
          clear hK K
          refine wpAnyIn_ready (rs := [3]) (by kernel_rfl) (by simp) ?_
          refine AllReadyIn.cons rfl (fun K hK => ?_) AllReadyIn.nil
          go_simp
          refine hK _ _ ?_
          clear hK K
          refine wpAnyIn_ready (rs := [4]) (by kernel_rfl) (by simp) ?_
          refine AllReadyIn.cons rfl (fun K hK => ?_) AllReadyIn.nil
          refine stepIn_append rfl (.tmp 24) (.tmp 27) 22 rfl rfl rfl HR.out ?_
          refine hK _ _ ?_
          clear hK K
          refine wpAnyIn_ready (rs := [5]) (by kernel_rfl) (by simp) ?_
          refine AllReadyIn.cons rfl (fun K hK => ?_) AllReadyIn.nil
          go_simp
          refine hK _ _ ?_
          clear hK K
          refine wpAnyIn_done (by kernel_rfl) ?_ _
          exact HF.out
        · go_simp
          refine hK _ _ ?_
          clear hK K
          refine wpAnyIn_ready (rs := [0, 2]) (by kernel_rfl) (by simp) ?_
          refine AllReadyIn.cons rfl (fun K hK => ?_) (AllReadyIn.cons rfl (fun K hK => ?_) AllReadyIn.nil)
          · go_simp
            refine hK _ _ ?_
            clear hK K
            refine wpAnyIn_ready (rs := [2]) (by kernel_rfl) (by simp) ?_
            refine AllReadyIn.cons rfl (fun K hK => ?_) AllReadyIn.nil
            go_simp
            refine ⟨trivial, ?_⟩
            refine (CallsIn.inRound lq (CallsIn.inRound lp (callsIn_wide.2 HCL.out))).mono ?_
            rintro e w3 ⟨ad3, cap3, g, cap4, w4, rfl, k1, hrun, q1, q2, HF⟩
            have k2 := bcs ((Below.refl w3.heap.size w3).alloc (Nat.le_refl _) (.cells #[.slice ad3 us.length cap3] 28)) k1
            have HR := hid hrun
            clear hrun
            refine hK _ _ ?_
            clear hK K
            refine wpAnyIn_ready (rs := [3]) (by kernel_rfl) (by simp) ?_
            refine AllReadyIn.cons rfl (fun K hK => ?_) AllReadyIn.nil
            go_simp
            refine hK _ _ ?_
            clear hK K
            refine wpAnyIn_ready (rs := [4]) (by kernel_rfl) (by simp) ?_
            refine AllReadyIn.cons rfl (fun K hK => ?_) AllReadyIn.nil
            refine stepIn_append rfl (.tmp 24) (.tmp 27) 22 rfl rfl rfl HR.out ?_
            refine hK _ _ ?_
            clear hK K
            refine wpAnyIn_ready (rs := [5]) (by kernel_rfl) (by simp) ?_
            refine AllReadyIn.cons rfl (fun K hK => ?_) AllReadyIn.nil
            go_simp
            refine hK _ _ ?_
            clear hK K
            refine wpAnyIn_done (by kernel_rfl) ?_ _
            exact HF.out
          · go_simp
            refine ⟨trivial, ?_⟩
            refine (CallsIn.inRound lq (CallsIn.inRound lp (callsIn_wide.2 HCL.out))).mono ?_
            rintro e w3 ⟨ad3, cap3, g, cap4, w4, rfl, k1, hrun, q1, q2, HF⟩
            have k2 := bcs ((Below.refl w3.heap.size w3).alloc (Nat.le_refl _) (.cells #[.slice ad3 us.length cap3] 28)) k1
            have HR := hid hrun
            clear hrun
            refine hK _ _ ?_
            clear hK K
            refine wpAnyIn_ready (rs := [0, 3]) (by kernel_rfl) (by simp) ?_
            refine AllReadyIn.cons rfl (fun K hK => ?_) (AllReadyIn.cons rfl (fun K hK => ?_) AllReadyIn.nil)
            · go_simp
              refine hK _ _ ?_
              clear hK K
              refine wpAnyIn_ready (rs := [3]) (by kernel_rfl) (by simp) ?_
              refine AllReadyIn.cons rfl (fun K hK => ?_) AllReadyIn.nil
              go_simp
              refine hK _ _ ?_
              clear hK K
              refine wpAnyIn_ready (rs := [4]) (by kernel_rfl) (by simp) ?_
              refine AllReadyIn.cons rfl (fun K hK => ?_) AllReadyIn.nil
              refine stepIn_append rfl (.tmp 24) (.tmp 27) 22 rfl rfl rfl HR.out ?_
              refine hK _ _ ?_
              clear hK K
              refine wpAnyIn_ready (rs := [5]) (by kernel_rfl) (by simp) ?_
              refine AllReadyIn.cons rfl (fun K hK => ?_) AllReadyIn.nil
              go_simp
              refine hK _ _ ?_
              clear hK K
              refine wpAnyIn_done (by kernel_rfl) ?_ _
              exact HF.out
            · go_simp
              refine hK _ _ ?_
              clear hK K
              refine wpAnyIn_ready (rs := [0]) (by kernel_rfl) (by simp) ?_
              refine AllReadyIn.cons rfl (fun K hK => ?_) AllReadyIn.nil
              go_simp
              refine hK _ _ ?_
              clear hK K
              refine wpAnyIn_ready (rs := [4]) (by kernel_rfl) (by simp) ?_
              refine AllReadyIn.cons rfl (fun K hK => ?_) AllReadyIn.nil
              refine stepIn_append rfl (.tmp 24) (.tmp 27) 22 rfl rfl rfl HR.out ?_
              refine hK _ _ ?_
              clear hK K
              refine wpAnyIn_ready (rs := [5]) (by kernel_rfl) (by simp) ?_
              refine AllReadyIn.cons rfl (fun K hK => ?_) AllReadyIn.nil
              go_simp
              refine hK _ _ ?_
              clear hK K
              refine wpAnyIn_done (by kernel_rfl) ?_ _
              exact HF.out
      case done2 =>
        rintro O2 pre2 A hdn ⟨es, e1, e2, e3, e4, e5, e6, e7⟩
        gi_wp2_with fail
        exact ⟨e6, e7, es, e1, by rw [List.length_append]; simp; omega, e5.weak (fun k h => .inl h)⟩
      case panic2 =>
        rintro O2 pre2 ch A hp
        exact hp.elim
    case done =>
      rintro O pre D W hD hdn ⟨ds, h1, h2, v, cs, o1, o2, o3, o4, o5, o6⟩ hK
      have c1 : W.cell? ⟨w.heap.size + 1, 0, none⟩ = some v := by simp [World.cell?, o1]
      have HO := hid (And.intro o2 (And.intro o3 o6))
      have HG := hid (And.intro h1 h2)
      have HDN := hid hdn
      obtain ⟨ad, cap, rfl, -⟩ := own_cap o2
      clear o1 o2 o3 o4 o5 o6 h1 h2 hdn
      gi_wp2_with fail
      refine ⟨by simp, .inl ⟨_, _, rfl, run_takeDeferred hK, ?_⟩⟩
      have hcr : circleN T ≤ 16 := by unfold circleN; omega
      have hrow := own_kept HO.out.1 (grownBy_putObj' W D (.deferred none)) (fun r e => by cases e; exact ⟨_, hK, rfl⟩)
      have hbel := HO.out.2.2.trans (belowK_b (w := w) (Nat.le_refl _) W D _ (.deferred none) (by omega) hK rfl rfl)
      have hlen : ds.length ≤ 128 := by have h1 := HG.out.2; have h2 := HDN.out; rw [h2] at h1; omega
      exact ⟨.tuple #[.slice ad ds.length cap, .int .i64 0], by simp [results, Try.results4, go_sem], ⟨_, 0, ds, rfl, ⟨_, cs, hrow, HO.out.2.1⟩, .inr ⟨rfl, by omega, by omega, by omega, by omega, HG.out.1, hlen⟩⟩, hbel⟩
    case panic =>
      rintro O pre ch D W hD hp
      exact hp.elim
  · have hb0 : Below w.heap.size w (w.alloc (.cells #[.int .i64 L] 3)) := (Below.refl _ w).alloc (Nat.le_refl _) _
    have HB0 := hid hb0
    have hnil : ∀ W : World, SlD W (.slice none 0 0) [] := fun W => ⟨0, [], World.ownsRow_nil _ _ _ _, trivial⟩
    have HN := hid hnil
    clear hnil hb0
    have H1 := hid (fun W => within_l tm 2 16 W)
    have H2 := hid (fun W => within_l L 1 8 W)
    by_cases h1 : inB tm 2 16 = true
    · have h2 : inB L 1 8 = false := by
        simp only [inB, Bool.and_eq_true, decide_eq_true_eq] at h1
        cases h : inB L 1 8 with
        | false => rfl
        | true =>
          simp only [inB, Bool.and_eq_true, decide_eq_true_eq] at h
          exact absurd ⟨⟨h1.1, h1.2⟩, h.1, h.2⟩ hok
      rw [h1] at H1
      rw [h2] at H2
      clear h1 h2 hok
      go_enter Try.func4, Try.ntmps4
      go_wp2_with fail
      refine (H1.out _).mono ?_
      rintro e w' ⟨rfl, rfl⟩
      go_wp2_with fail
      refine (H2.out _).mono ?_
      rintro e w' ⟨rfl, rfl⟩
      go_wp2_with fail
      go_ret2
      exact ⟨⟨_, 4, [], rfl, HN.out _, .inl ⟨rfl, rfl⟩⟩, HB0.out⟩
    · have h1' : inB tm 2 16 = false := by simpa using h1
      rw [h1'] at H1
      clear h1 h1' hok
      go_enter Try.func4, Try.ntmps4
      go_wp2_with fail
      refine (H1.out _).mono ?_
      rintro e w' ⟨rfl, rfl⟩
      go_wp2_with fail
      go_ret2
      exact ⟨⟨_, 4, [], rfl, HN.out _, .inl ⟨rfl, rfl⟩⟩, HB0.out⟩
end Go.Proofs.Ytjjphiecjhijiaa
