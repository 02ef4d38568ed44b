/- sheet.nearest. -/
import Derived.Test.YtolnhicngepnnaaS8
import Derived.Test.YtolnhicngepnnaaDX
import Derived.Maps.OwnIn
namespace Go.Proofs.Ytolnhicngepnnaa
open Go.RowKit Go.Shelf
attribute [local go_sem] Oper.semAt_some

/-- The row of the numbers in its box, beside the box of the stones; none of it is in X. -/
def OutH (bO bL : Nat) (sl : Value) (ds : List Nat) (w W : World) (X : Nat → Prop) : Prop :=
  ∃ v cs, W.heap[bO]? = some (.cells #[v] 28 (0, 0)) ∧ W.ownsRow (w.heap.size + 3) 3 1 v ds.length cs ∧ (cs = natsV ds ∧ (ds = [] → v = .slice none 0 0)) ∧ (∀ k, v.ownBlock = some k → ¬ X k) ∧ W.heap[bL]? = some (.cells #[sl] 22 (0, 0)) ∧ Below w.heap.size w W
theorem OutH.move {bO bL : Nat} {sl : Value} {ds : List Nat} {w W W' : World} {X X' Y : Nat → Prop} (h : OutH bO bL sl ds w W X) (hb : Below w.heap.size W W') (hX : ¬ X' bO ∧ ¬ X' bL) (hXX : ∀ k, X' k → X k) (hY : ∀ k, k < W.heap.size → Y k → X k)
    (hs : ∀ k o, W.heap[k]? = some o → o.isCells = true → ¬ X' k → W'.heap[k]? = W.heap[k]?) : OutH bO bL sl ds w W' Y := by
  obtain ⟨v, cs, h1, h2, h3, h4, h5, h6⟩ := h
  refine ⟨v, cs, (hs bO _ h1 rfl hX.1).trans h1, own_same h2 (fun k o hk ho hc => hs k o ho hc (fun hx => h4 k hk (hXX k hx))), h3, fun k hk hy => ?_, (hs bL _ h5 rfl hX.2).trans h5, h6.trans hb⟩
  exact h4 k hk (hY k (h2.lt k hk).2 hy)
/-- The iterator goes on. -/
theorem OutH.ch {bO bL B : Nat} {sl : Value} {ds : List Nat} {w W W' : World} {O : Nat → Prop} (h : OutH bO bL sl ds w W O) (hc : Ch O W W') (hO : ∀ k, O k → B ≤ k) (hB : bO < B ∧ bL < B ∧ w.heap.size ≤ B) : OutH bO bL sl ds w W' (NewO O W W') := by
  refine h.move (X' := O) ⟨hc.1.os, hc.1.tape, hc.1.output, hc.1.size, fun k hk => ?_⟩ ⟨fun hx => ?_, fun hx => ?_⟩ (fun k h => h) (fun k hk hn => hn.elim id (fun q => by omega)) (fun k o hk _ hno => hc.2 k (Array.getElem?_eq_some_iff.1 hk).1 hno)
  · refine hc.2 k ?_ (fun hx => ?_)
    · obtain ⟨_, _, _, _, _, _, _, hbel⟩ := h
      have := hbel.size
      omega
    · have := hO k hx; omega
  · have := hO bO hx; omega
  · have := hO bL hx; omega
/-- A loop's record turns. -/
theorem OutH.recs {bO bL B : Nat} {sl : Value} {ds : List Nat} {w W W' : World} {O : Nat → Prop} {row : Option Nat} (h : OutH bO bL sl ds w W O) (hg : W.grownBy W' row)
    (hr : ∀ r, row = some r → B ≤ r ∧ ∃ o : Obj, W.heap[r]? = some o ∧ o.isCells = false) (hB : w.heap.size ≤ B) : OutH bO bL sl ds w W' O := by
  refine h.move (X' := fun _ => False) ⟨hg.os, hg.tape, hg.output, hg.size, fun k hk => ?_⟩ ⟨id, id⟩ (fun k h => h.elim) (fun k _ h => h) (fun k o hk hc _ => ?_)
  · refine hg.block k ?_ (fun e => ?_)
    · obtain ⟨_, _, _, _, _, _, _, hbel⟩ := h
      have := hbel.size
      omega
    · have := (hr k e.symm).1; omega
  · refine hg.block k (Array.getElem?_eq_some_iff.1 hk).1 (fun e => ?_)
    obtain ⟨_, o', ho', hc'⟩ := hr k e.symm
    rw [hk] at ho'
    injection ho' with ho'
    rw [ho', hc'] at hc
    cases hc

/-- Between two rounds of nearest; and in a round, behind its first statement. -/
def HoI (l : List StoneD) (sl : Value) (w : World) (O : Nat → Prop) (pre : List Nat) (W : World) : Prop := (∃ r, houseTo l l.length = pre ++ r) ∧ OutH (w.heap.size + 1) w.heap.size sl pre w W O
def HoA (l : List StoneD) (sl : Value) (w : World) (O : Nat → Prop) (pre : List Nat) (x : Nat) (a' : Act) (W : World) : Prop :=
  a' = { tmps := #[sl, .pointer (some ⟨w.heap.size, 0, none⟩), .slice none 0 0, .pointer (some ⟨w.heap.size + 1, 0, none⟩), .int .i64 (x : Int), sl, .func (.func 66) #[] #[.pointer (some ⟨w.heap.size + 1 + 1, 0, none⟩)], .int .i64 (x : Int), (stAt l x).agg, undef, undef, undef, undef, undef, undef, undef, undef], defers := [] } ∧ NxH l pre x ∧ OutH (w.heap.size + 1) w.heap.size sl pre w W O
theorem ltS_cmp (l : List StoneD) : (fun x y => decide (cmpR l x y < 0)) = ltS l := by
  funext x y
  unfold ltS cmpR
  by_cases h1 : sqS l x < sqS l y
  · simp [h1]
  · by_cases h2 : sqS l y < sqS l x <;> simp [h1, h2]
/-- What nearest returns. -/
def NearPost (l : List StoneD) (w : World) (e : Ending) (w' : World) : Prop := ∃ v, e = .returned v ∧ w'.ownsRow (w.heap.size + 3) 3 1 v (nearR l).length (natsV (nearR l)) ∧ Below w.heap.size w w'
/-- A number more. -/
theorem OutH.step {bO bL B : Nat} {sl : Value} {w A w4 : World} {O K : Nat → Prop} {pre : List Nat} {x g cap4 : Nat} {v : Value}
    (o1 : A.heap[bO]? = some (.cells #[v] 28 (0, 0))) (o2 : A.ownsRow (w.heap.size + 3) 3 1 v pre.length (natsV pre)) (o4 : ∀ k, v.ownBlock = some k → ¬ O k) (o5 : A.heap[bL]? = some (.cells #[sl] 22 (0, 0))) (o6 : Below w.heap.size w A)
    (hbO : bO = w.heap.size + 1) (hbL : bL = w.heap.size) (hO : ∀ k, O k → w.heap.size + 2 < k ∧ k < A.heap.size) (hK : ∀ k, K k → k < w.heap.size + 3 ∧ k ≠ bO) (hA : w.heap.size + 3 ≤ A.heap.size)
    (h2 : w4.ownsRow (w.heap.size + 3) 3 1 (.slice (some ⟨g, 0, none⟩) (pre.length + 1) cap4) (pre.length + 1) (natsV pre ++ [.int .i64 (x : Int)]))
    (h3 : (A.alloc (.cells #[.int .i64 (x : Int)] 3)).grownBy w4 v.ownBlock) (h5 : v.ownBlock = some g ∨ g = (A.alloc (.cells #[.int .i64 (x : Int)] 3)).heap.size) :
    KeepsFrom B A (w4.setCell ⟨bO, 0, none⟩ (.slice (some ⟨g, 0, none⟩) (pre.length + 1) cap4)) ∧
    (∀ k, O k ∨ K k → (w4.setCell ⟨bO, 0, none⟩ (.slice (some ⟨g, 0, none⟩) (pre.length + 1) cap4)).heap[k]? = A.heap[k]?) ∧
    OutH bO bL sl (pre ++ [x]) w (w4.setCell ⟨bO, 0, none⟩ (.slice (some ⟨g, 0, none⟩) (pre.length + 1) cap4)) O := by
  subst hbO hbL
  have h34 := h3.size
  rw [World.size_alloc] at h34
  generalize hv' : Value.slice (some ⟨g, 0, none⟩) (pre.length + 1) cap4 = v' at *
  have hsame : ∀ k, k < A.heap.size → k ≠ w.heap.size + 1 → v.ownBlock ≠ some k → (w4.setCell ⟨w.heap.size + 1, 0, none⟩ v').heap[k]? = A.heap[k]? := by
    intro k hk h1 hr
    rw [heap_setCell_other w4 ⟨w.heap.size + 1, 0, none⟩ k v' h1, h3.block k (by simp; omega) (fun e => hr e.symm), Below.heap_alloc _ _ _ (by omega)]
  have hrow : ∀ k, v.ownBlock = some k → w.heap.size + 3 ≤ k ∧ k < A.heap.size := fun k hk => o2.lt k hk
  have hsz : A.heap.size ≤ (w4.setCell ⟨w.heap.size + 1, 0, none⟩ v').heap.size := by simp; omega
  have hg1 : v'.ownBlock = some g := by rw [← hv']; rfl
  have hgr := h2.lt g hg1
  refine ⟨⟨hsz, fun k o hC hk ho => ?_⟩, fun k hk => ?_, v', natsV pre ++ [.int .i64 (x : Int)], ?_, ?_, ⟨by simp [natsV], by simp⟩, ?_, ?_, ?_⟩
  · refine (hsame k (Array.getElem?_eq_some_iff.1 hk).1 (fun e => ?_) (fun hr => ?_)).trans hk
    · rw [e, o1] at hk
      injection hk with hk
      rw [← hk] at ho
      cases ho
    · obtain ⟨cur, hcur⟩ := own_type o2 k hr
      rw [hk] at hcur
      injection hcur with hcur
      rw [hcur] at ho
      cases ho
  · rcases hk with hk | hk
    · have := hO k hk
      exact hsame k (by omega) (by omega) (fun hr => o4 k hr hk)
    · have := hK k hk
      exact hsame k (by omega) this.2 (fun hr => by have := hrow k hr; omega)
  · have hw4 : w4.heap[w.heap.size + 1]? = some (.cells #[v] 28 (0, 0)) := by
      rw [h3.block (w.heap.size + 1) (by simp; omega) (fun e => by have := hrow _ e.symm; omega), Below.heap_alloc _ _ _ (by omega)]
      exact o1
    exact (heap_setCell_same w4 (w.heap.size + 1) 0 _ 28 v' hw4).trans (by simp)
  · rw [show (pre ++ [x]).length = pre.length + 1 by simp]
    refine own_same h2 (fun k o hk _ _ => heap_setCell_other w4 ⟨w.heap.size + 1, 0, none⟩ k v' (by
      rw [hg1] at hk
      injection hk with hk
      show k ≠ w.heap.size + 1
      omega))
  · intro k hk hx
    rw [hg1] at hk
    injection hk with hk
    subst hk
    rcases h5 with h5 | h5
    · exact o4 g h5 hx
    · rw [World.size_alloc] at h5
      have := hO g hx
      omega
  · exact (hsame _ (by omega) (by omega) (fun hr => by have := hrow _ hr; omega)).trans o5
  · refine o6.trans (((Below.refl A.heap.size A |>.mono (by omega)).alloc (by omega) _).grown h3 (by simp; omega) (fun k e => by have := hrow k e; omega) |>.setCell (p := ⟨w.heap.size + 1, 0, none⟩) (by simp) _)
set_option maxRecDepth 100000 in
set_option maxHeartbeats 4000000 in
theorem nearest_any (a : Option Addr) (cap : Nat) (l : List StoneD) (hl : l.length < 20) (hok : ∀ k, k < l.length → (stAt l k).ok = true) (w : World) (hs : SlS w (.slice a l.length cap) l) (haw : ∀ ad, a = some ad → ad.block < w.heap.size) :
    Calls Try.prog 14 #[.slice a l.length cap] w (NearPost l w) := by
  have hmf : ∀ (fn : Fn) (first cap : Array Value) (w : World), (Instr.makeFunc fn first cap).run Try.prog w = .ok (.func fn first cap) w := fun _ _ _ _ => rfl
  obtain ⟨i0, hi, hz0, hz1, hz2⟩ := info_parts info3
  have HS := hid hs
  have HOK := hid hok
  clear hs hok
  refine callsIn_wide (n := 20) |>.1 ?_
  refine callsIn_of_wp_marks Try.func14 rfl trivial ?_ rfl
  simp only [Try.ntmps14, List.size_toArray, List.length_cons, List.length_nil, Nat.reduceAdd, Nat.reduceSub, Array.replicate_succ, Array.replicate_zero, List.push_toArray, List.append_toArray, List.nil_append, List.cons_append]
  gi_wp2_with fail
  refine ⟨trivial, ?_⟩
  refine (callsIn_wide.2 (housed_any a l.length cap _)).mono ?_
  rintro e w' ⟨rfl, rfl⟩
  gi_wp2_with fail
  obtain ⟨sl, hsl⟩ : ∃ sl, Value.slice a l.length cap = sl := ⟨_, rfl⟩
  have HSL := hid hsl
  rw [hsl] at HS ⊢
  clear hsl
  obtain ⟨W3, hW3⟩ : ∃ W3, ((w.alloc (.cells #[sl] 22)).alloc (.cells #[.slice none 0 0] 28)).alloc (.cells #[sl] 22) = W3 := ⟨_, rfl⟩
  have hz3 : W3.heap.size = w.heap.size + 3 := by rw [← hW3]; simp
  have hL3 : W3.heap[w.heap.size]? = some (.cells #[sl] 22 (0, 0)) := by
    rw [← hW3, Below.heap_alloc _ _ _ (by simp; omega), Below.heap_alloc _ _ _ (by simp)]; exact heap_alloc_new w _
  have hO3 : W3.heap[w.heap.size + 1]? = some (.cells #[.slice none 0 0] 28 (0, 0)) := by
    rw [← hW3, Below.heap_alloc _ _ _ (by simp)]
    have := heap_alloc_new (w.alloc (.cells #[sl] 22)) (.cells #[.slice none 0 0] 28)
    simpa using this
  have hT3 : W3.heap[w.heap.size + 1 + 1]? = some (.cells #[sl] 22 (0, 0)) := by
    rw [← hW3]
    have := heap_alloc_new ((w.alloc (.cells #[sl] 22)).alloc (.cells #[.slice none 0 0] 28)) (.cells #[sl] 22)
    simpa using this
  have hb3 : Below w.heap.size w W3 := by
    rw [← hW3]; exact (((Below.refl _ w).alloc (Nat.le_refl _) _).alloc (by simp) _).alloc (by simp; omega) _
  rw [hW3]
  clear hW3
  refine wpIn_rangeG rfl (by omega) (gf := 66) (lb := #[.pointer (some ⟨w.heap.size + 1 + 1, 0, none⟩)]) rfl trivial (enters_of Try.func66 (by kernel_rfl) rfl)
    (encs := encH l) (K := fun k => k = w.heap.size + 1 + 1 ∨ ∃ ad, a = some ad ∧ ad.block = k) (Nx := fun pre x _ => NxH l pre x) (Dn := fun pre => pre = houseTo l l.length) (Pn := fun _ _ => False) (w0 := W3) ?seq (Below.refl _ _) (fun _ => rfl) ?hK
    (HoI l sl w) (HoA l sl w)
    ?hI ?hIs ?hIas ?h0 ?assign ?body ?done ?panic
  case seq =>
    intro lp J Jp W hbW hJ hY hP h0
    refine (housed1_in (20 - 1) (by omega) lp (w.heap.size + 1 + 1) a cap l (by omega) HOK.out J W ?_ ?_ hJ hY h0).mono ?_
    · rw [HSL.out]
      exact (HS.out.below hb3).below hbW
    · rw [HSL.out]
      exact (hbW.cell (p := ⟨w.heap.size + 1 + 1, 0, none⟩) (by simp; omega)).trans (by simp [World.cell?, hT3])
    · rintro e W' ⟨⟨v, rfl⟩, O, h1⟩
      exact ⟨O, _, rfl, h1⟩
  case hK =>
    rintro k (rfl | ⟨ad, e, rfl⟩)
    · omega
    · have := haw ad e; omega
  case hI =>
    rintro O pre W W' ⟨h1, h3⟩ hO hz hc
    exact ⟨h1, h3.ch (B := w.heap.size + 3) hc (fun k hk => by have := hO k hk; omega) ⟨by omega, by omega, by omega⟩⟩
  case hIs =>
    rintro O pre W W' row ⟨h1, h3⟩ hg hr
    exact ⟨h1, h3.recs hg hr (by omega)⟩
  case hIas =>
    rintro O pre x a' W W' row ⟨rfl, h1, h3⟩ hg hr
    exact ⟨rfl, h1, h3.recs hg hr (by omega)⟩
  case h0 =>
    refine ⟨⟨_, rfl⟩, .slice none 0 0, [], hO3, World.ownsRow_nil _ _ _ _, ⟨rfl, fun _ => rfl⟩, fun k e => by simp [Value.ownBlock] at e, hL3, hb3⟩
  case assign =>
    rintro lp O pre x W hx ⟨-, hi⟩ hO hz
    rw [show encH l x = #[.int .i64 (x : Int), (stAt l x).agg] from rfl]
    gi_wp2_with fail
    exact ⟨KeepsFrom.refl _ _, fun _ _ => trivial, rfl, hx, hi⟩
  case body =>
    rintro lp O pre x a' W hl ⟨rr, hrr⟩ ⟨rfl, hnx, v, cs, o1, o2, ⟨rfl, o3⟩, o4, o5, o6⟩ hO hz
    have c1 : W.cell? ⟨w.heap.size + 1, 0, none⟩ = some v := by simp [World.cell?, o1]
    have f1 : W.frozen? ⟨w.heap.size + 1, 0, none⟩ = false := by simp [World.frozen?, o1]
    obtain ⟨r, hr⟩ := hnx
    have HR := hid hr
    clear hr
    have hpl : pre.length < 20 := by
      have h1 : (houseTo l l.length).length ≤ l.length := by
        unfold houseTo
        exact Nat.le_trans (List.length_filter_le _ _) (by simp)
      have h2 := congrArg List.length HR.out
      simp at h2
      omega
    have hbk := o6.size
    gi_wp2_with (gi_at_builtin; refine wpListIn_append_own_at _ rfl _ _ 28 rfl (w.heap.size + 3) 3 i0 (.int .i64 0) 1 8 Try.underlying28 hi hz0 hz1 hz2 rfl (by decide) _ _ _ rfl (o2.alloc _) ⟨W.heap.size, 0, none⟩ 1 1 [.int .i64 (x : Int)] rfl rfl (cell_one_new _ _ _) (ones _ rfl) (by unfold maxLen; omega) (by omega) (by simp; omega) ?_; intro v' w4 hown4 hgrow4 _ hat4; obtain ⟨g, cap4, rfl, -, -⟩ := hown4.form (by omega); have hblk := (hgrow4.block (w.heap.size + 1) (by simp; omega) (fun e => by have := o2.lt _ e.symm; omega)).trans (Below.heap_alloc W (.cells #[.int .i64 (x : Int)] 3) (w.heap.size + 1) (by omega)); have c1' := (World.cell?_of_block (a := ⟨w.heap.size + 1, 0, none⟩) hblk).trans c1; have f1' := (World.frozen?_of_block (a := ⟨w.heap.size + 1, 0, none⟩) hblk).trans f1)
    have hst := OutH.step (B := W3.heap.size) (K := fun k => k = w.heap.size + 1 + 1 ∨ ∃ ad, a = some ad ∧ ad.block = k) o1 o2 o4 o5 o6 rfl rfl (fun k hk => by have := hO k hk; omega) (by
      rintro k (rfl | ⟨ad, e, rfl⟩)
      · omega
      · have := haw ad e; omega) (by omega) hown4 hgrow4 (hat4.imp (fun e => e.symm) (fun e => by simpa [Value.ownBlock] using e))
    refine ⟨hst.1, hst.2.1, ⟨r, ?_⟩, hst.2.2⟩
    rw [HR.out]; simp
  case done =>
    rintro O pre D W hD rfl ⟨-, v, cs, o1, o2, ⟨rfl, o3⟩, o4, o5, o6⟩ hK
    have c1 : W.cell? ⟨w.heap.size + 1, 0, none⟩ = some v := by simp [World.cell?, o1]
    have c0 : W.cell? ⟨w.heap.size, 0, none⟩ = some sl := by simp [World.cell?, o5]
    have HNR := hid (show nearR l = isort (ltS l) (houseTo l l.length) (houseTo l l.length).length from rfl)
    have HMEM := hid (fun k (hk : k ∈ houseTo l l.length) => houseTo_mem hk)
    have hpl : (houseTo l l.length).length < 20 := by
      have h1 : (houseTo l l.length).length ≤ l.length := by
        unfold houseTo
        exact Nat.le_trans (List.length_filter_le _ _) (by simp)
      omega
    have hbk := o6.size
    obtain ⟨hs, hhs⟩ : ∃ hs, houseTo l l.length = hs := ⟨_, rfl⟩
    rw [hhs] at o2 o3 HNR HMEM hpl
    clear hhs
    have HO1 := hid o1
    have HB := hid o6
    have HDF := hid hK
    by_cases he : hs = []
    · have hv := o3 he
      subst he hv
      clear o1 o2 o3 o4 o5 o6 hK
      gi_wp2_with fail
      refine ⟨trivial, ?_⟩
      refine (callsIn_wide.2 (sort_none _ W)).mono ?_
      rintro e W5 ⟨rfl, hb5⟩
      have c2 := bcs hb5 c1
      gi_wp2_with fail
      have hd5 := (hb5.block D (Array.getElem?_eq_some_iff.1 HDF.out).1).trans HDF.out
      refine ⟨by simp, .inl ⟨_, _, rfl, run_takeDeferred hd5, ?_⟩⟩
      have hbel := (HB.out.trans (hb5.mono HB.out.size)).trans (belowK_b (w := w) (Nat.le_refl _) W5 D _ (.deferred none) (by omega) hd5 rfl rfl)
      refine ⟨.slice none 0 0, by simp [results, Try.results14, go_sem], _, rfl, ?_, hbel⟩
      rw [HNR.out]
      exact World.ownsRow_nil _ _ _ _
    · have hlen : 0 < hs.length := List.length_pos_iff.2 he
      obtain ⟨g, cap4, rfl, -, -⟩ := o2.form hlen
      have hgl := o2.lt g rfl
      have hcmp : CmpOk (.pointer (some ⟨w.heap.size, 0, none⟩)) g hs (cmpR l) W := by
        intro x y hx hy W2 hgr
        have mx := HMEM.out x hx
        have my := HMEM.out y hy
        have hbw : Below w.heap.size w W2 := HB.out.trans ⟨hgr.os, hgr.tape, hgr.output, hgr.size, fun i hi => hgr.block i (by omega) (fun e => by injection e; omega)⟩
        refine near1_any w.heap.size sl l x y mx.1 my.1 mx.2 my.2 W2 (HS.out.below hbw) ?_
        exact (World.cell?_of_block (a := ⟨w.heap.size, 0, none⟩) (hgr.block w.heap.size (by omega) (fun e => by injection e; omega))).trans c0
      have HSRT := hid (sort_any _ g cap4 (w.heap.size + 3) hs (cmpR l) W hlen hpl o2 hcmp)
      clear o1 o3 o4 o5 o6 hK hcmp
      gi_wp2_with fail
      refine ⟨trivial, ?_⟩
      refine (callsIn_wide.2 HSRT.out).mono ?_
      rintro e W5 ⟨rfl, hown5, hgr5⟩
      clear HSRT
      have c2 := (World.cell?_of_block (a := ⟨w.heap.size + 1, 0, none⟩) (hgr5.block (w.heap.size + 1) (by omega) (fun e => by injection e; omega))).trans c1
      gi_wp2_with fail
      have hDg : D ≠ g := by
        rintro rfl
        obtain ⟨cur, hcur⟩ := own_type o2 D rfl
        have := HDF.out.symm.trans hcur
        cases this
      have hd5 := (hgr5.block D (Array.getElem?_eq_some_iff.1 HDF.out).1 (fun e => by injection e; omega)).trans HDF.out
      refine ⟨by simp, .inl ⟨_, _, rfl, run_takeDeferred hd5, ?_⟩⟩
      have hbel := (HB.out.trans (Below.grown (Below.refl W.heap.size W |>.mono HB.out.size) hgr5 (by omega) (fun k e => by injection e; omega))).trans (belowK_b (w := w) (Nat.le_refl _) W5 D _ (.deferred none) (by omega) hd5 rfl rfl)
      have hrow := own_kept hown5 (grownBy_putObj' W5 D (.deferred none)) (fun r e => by cases e; exact ⟨_, hd5, rfl⟩)
      have hnl : (nearR l).length = hs.length := by rw [HNR.out]; exact (isort_perm _ _ _ (Nat.le_refl _)).length_eq
      refine ⟨.slice (some ⟨g, 0, none⟩) hs.length cap4, by simp [results, Try.results14, go_sem], _, rfl, ?_, hbel⟩
      rw [hnl, HNR.out]
      rw [ltS_cmp] at hrow
      exact hrow
  case panic =>
    rintro O pre ch D W hD hp
    exact hp.elim
end Go.Proofs.Ytolnhicngepnnaa
