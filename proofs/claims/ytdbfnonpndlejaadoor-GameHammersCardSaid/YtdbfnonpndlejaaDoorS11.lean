/- game.Hammers walked. -/
import Derived.Test.YtdbfnonpndlejaaDoorH0
import Derived.Deep.AppendLies
namespace Go.Proofs.YtdbfnonpndlejaaDoor
open Go.RowKit Go.Shelf Go.Maps
attribute [local go_sem] Oper.semAt_some

def hamP (m : MatchD) (first : Int) (card : List LineD) (pre : List Nat) : List Int := (pre.filter (fun k => !(stAt m first card k).over)).map (fun k => (stAt m first card k).ham)
theorem hamP_snoc (m : MatchD) (first : Int) (card : List LineD) (pre : List Nat) (k : Nat) : hamP m first card (pre ++ [k]) = hamP m first card pre ++ (if (stAt m first card k).over then [] else [(stAt m first card k).ham]) := by
  unfold hamP
  rw [List.filter_append, List.map_append]
  congr 1
  cases h : (stAt m first card k).over <;> simp [h]
theorem hamP_len (m : MatchD) (first : Int) (card : List LineD) (pre : List Nat) : (hamP m first card pre).length ≤ pre.length := by
  unfold hamP
  rw [List.length_map]
  exact List.length_filter_le _ _
/-- The box stands as it stood behind an append to the row. -/
theorem lfact {w w3 : World} {L base n : Nat} {v : Value} {o : Obj} {q : List Value} (hv : w.heap[L]? = some (.cells #[v] 33 (0, 0))) (hown : w.ownsRow base 3 1 v n q) (hL : L < base) (hg : (w.alloc o).grownBy w3 v.ownBlock) :
    w3.heap[L]? = some (.cells #[v] 33 (0, 0)) ∧ w3.cell? ⟨L, 0, none⟩ = some v ∧ w3.frozen? ⟨L, 0, none⟩ = false := by
  have hlt := (Array.getElem?_eq_some_iff.1 hv).1
  have h : w3.heap[L]? = some (.cells #[v] 33 (0, 0)) := by
    rw [hg.block L (by simp; omega) (fun e => by have := (hown.lt L e.symm).1; omega), heap_alloc_old w o L hlt]
    exact hv
  exact ⟨h, cellB h 0, by simp [World.frozen?, h]⟩
/-- The box of the hammers, and its row, that the iterator does not own. -/
def HamB (w0 w : World) (L base : Nat) (O : Nat → Prop) (l : List Int) : Prop :=
  (∃ v, w.heap[L]? = some (.cells #[v] 33 (0, 0)) ∧ w.ownsRow base 3 1 v l.length (l.map (.int .i64)) ∧ ∀ k, v.ownBlock = some k → ¬ O k) ∧ Below w0.heap.size w0 w
theorem HamB.below {w0 w w' : World} {L base : Nat} {O : Nat → Prop} {l : List Int} (h : HamB w0 w L base O l) (hb : Below w.heap.size w w') : HamB w0 w' L base O l := by
  obtain ⟨⟨v, hv, ho, hO⟩, hb0⟩ := h
  exact ⟨⟨v, (hb.block _ (Array.getElem?_eq_some_iff.1 hv).1).trans hv, own_below ho hb, hO⟩, hb0.trans (hb.mono hb0.size)⟩
theorem HamB.ch {w0 w w' : World} {L base : Nat} {O : Nat → Prop} {l : List Int} (h : HamB w0 w L base O l) (hc : Ch O w w') (hO : ¬ O L) (hO2 : ∀ k, k < w0.heap.size → ¬ O k) : HamB w0 w' L base (NewO O w w') l := by
  obtain ⟨⟨v, hv, ho, hn⟩, hb0⟩ := h
  have hlt := (Array.getElem?_eq_some_iff.1 hv).1
  refine ⟨⟨v, (hc.2 L hlt hO).trans hv, ?_, ?_⟩, ?_⟩
  · rcases ho.2 with h0 | ⟨g, cap, cur, rfl, hg, hh, hnc, hcm, hcs, htake⟩
    · exact ⟨ho.1, .inl h0⟩
    · refine ⟨ho.1, .inr ⟨g, cap, cur, rfl, hg, ?_, hnc, hcm, hcs, htake⟩⟩
      exact (hc.2 g (Array.getElem?_eq_some_iff.1 hh).1 (hn g rfl)).trans hh
  · intro k hk hno
    rcases hno with h | ⟨h1, h2⟩
    · exact hn k hk h
    · have := (ho.lt k hk).2; omega
  · have h1 := hc.1
    have h2 : Below w0.heap.size w w' := belowRaise h1 (fun k hk => hc.2 k (by have := hb0.size; omega) (hO2 k hk))
    exact hb0.trans h2
theorem HamB.grown {w0 w w' : World} {L base : Nat} {O : Nat → Prop} {l : List Int} {row : Option Nat} (h : HamB w0 w L base O l) (hg : w.grownBy w' row) (hr : ∀ r, row = some r → ∃ o : Obj, w.heap[r]? = some o ∧ o.isCells = false) (hr0 : ∀ r, row = some r → w0.heap.size ≤ r) : HamB w0 w' L base O l := by
  obtain ⟨⟨v, hv, ho, hn⟩, hb0⟩ := h
  refine ⟨⟨v, (hg.block L (Array.getElem?_eq_some_iff.1 hv).1 (fun e => ?_)).trans hv, ho.kept hg ?_, hn⟩, hb0.grown hg hb0.size (fun j hj => hr0 j hj)⟩
  · obtain ⟨o, h1, h2⟩ := hr L e.symm
    rw [hv] at h1
    cases h1
    cases h2
  · cases hb : v.ownBlock with
    | none => exact .inl rfl
    | some g =>
      refine .inr (fun e => ?_)
      obtain ⟨o, h1, h2⟩ := hr g e.symm
      rcases ho.2 with ⟨rfl, -⟩ | ⟨g2, cap, cur, rfl, hg2, hh, -⟩
      · simp [Value.ownBlock] at hb
      · simp [Value.ownBlock] at hb
        subst hb
        rw [hh] at h1
        cases h1
        cases h2
theorem own_put {w : World} {base L sz n : Nat} {t : TypeId} {v x : Value} {q : List Value} (h : w.ownsRow base t sz v n q) (hL : L < base) : (w.setCell ⟨L, 0, none⟩ x).ownsRow base t sz v n q := by
  rcases h.2 with h0 | ⟨g, cap, cur, rfl, hg, hh, hr⟩
  · exact ⟨h.1, .inl h0⟩
  · exact ⟨h.1, .inr ⟨g, cap, cur, rfl, hg, (heap_setCell_ne _ (by omega)).trans hh, hr⟩⟩
/-- One more hammer. -/
theorem ham_put {w0 W w3 : World} {L base g n cap : Nat} {O K : Nat → Prop} {q : List Int} {v : Value} {c : Int} {o : Obj} (hb0 : Below w0.heap.size w0 W) (hv : W.heap[L]? = some (.cells #[v] 33 (0, 0))) (hown : W.ownsRow base 3 1 v q.length (q.map (.int .i64))) (hn : ∀ k, v.ownBlock = some k → ¬ O k)
    (hL : L < base) (hL0 : w0.heap.size ≤ L) (hbase : base ≤ W.heap.size) (hO : ∀ k, O k → base ≤ k ∧ k < W.heap.size) (hK : ∀ k, K k → k < base ∧ k ≠ L)
    (hown3 : w3.ownsRow base 3 1 (.slice (some ⟨g, 0, none⟩) n cap) (q.length + 1) (q.map (.int .i64) ++ [.int .i64 c])) (hg : (W.alloc o).grownBy w3 v.ownBlock)
    (hat : (Value.slice (some ⟨g, 0, none⟩) n cap).ownBlock = v.ownBlock ∨ (Value.slice (some ⟨g, 0, none⟩) n cap).ownBlock = some (W.alloc o).heap.size) :
    KeepsOthers W (w3.setCell ⟨L, 0, none⟩ (.slice (some ⟨g, 0, none⟩) n cap)) ∧ (∀ k, O k ∨ K k → (w3.setCell ⟨L, 0, none⟩ (.slice (some ⟨g, 0, none⟩) n cap)).heap[k]? = W.heap[k]?) ∧ HamB w0 (w3.setCell ⟨L, 0, none⟩ (.slice (some ⟨g, 0, none⟩) n cap)) L base O (q ++ [c]) := by
  obtain ⟨l1, -, -⟩ := lfact hv hown hL hg
  have hgb : base ≤ g := (hown3.lt g (by simp [Value.ownBlock])).1
  have hblk : ∀ k, k < W.heap.size → v.ownBlock ≠ some k → w3.heap[k]? = W.heap[k]? := fun k hk hne => (hg.block k (by simp; omega) (fun e => hne e.symm)).trans (heap_alloc_old W o k hk)
  refine ⟨((KeepsOthers.alloc W o).trans (KeepsOthers.of_grownBy hg ?_)).trans (KeepsOthers.setCell _ _ _), ?_, ⟨_, heap_setCell_same _ L 0 _ 33 _ l1, ?_, ?_⟩, ?_⟩
  · intro j o2 hj ho2
    rcases hown.2 with ⟨rfl, -⟩ | ⟨g2, cap2, cur, rfl, -, hh, -⟩
    · simp [Value.ownBlock] at hj
    · simp [Value.ownBlock] at hj
      subst hj
      rw [heap_alloc_old W o _ (Array.getElem?_eq_some_iff.1 hh).1, hh] at ho2
      cases ho2
      rfl
  · intro k hk
    have hkL : k ≠ L := by
      rcases hk with h | h
      · have := (hO k h).1; omega
      · exact (hK k h).2
    rw [heap_setCell_ne _ (fun e => hkL e.symm)]
    refine hblk k ?_ ?_
    · rcases hk with h | h
      · exact (hO k h).2
      · have := (hK k h).1; omega
    · intro e
      rcases hk with h | h
      · exact hn k e h
      · have := (hK k h).1
        have := (hown.lt k e).1
        omega
  · simpa using own_put hown3 hL
  · intro k hk hok
    rcases hat with h | h
    · exact hn k (h.symm.trans hk) hok
    · rw [h] at hk
      have := (hO k hok).2
      simp at hk
      omega
  · exact ((hb0.alloc hb0.size o).grown hg (by simp; have := hb0.size; omega) (fun j hj => by have := (hown.lt j hj).1; omega)).setCell (p := ⟨L, 0, none⟩) hL0 _
set_option maxRecDepth 100000 in
set_option maxHeartbeats 2000000 in
theorem hammers_any (m : MatchD) (first : Int) (card : List LineD) (v : Value) (w : World) (hcard : SlL w v card) :
    Calls Tryd.prog 13 #[m.val, .int .i64 first, v] w (HamPost (hamsR m first card) w) := by
  have HCARD := hid hcard
  obtain ⟨i0, hinf, hz0, hz1', hz2'⟩ := info_parts info3
  obtain ⟨ac, cc, rfl, hll, -⟩ := hcard.open
  have HMV := hid (show m.val = .agg #[.int .i64 m.ends, .int .i64 m.most, .int .i64 m.early, .bool m.change, .bool m.power] from rfl)
  have HST := hid (fun W h => states_any m first card (.slice ac card.length cc) W h)
  have HRA := hid (fun W (h : SlL W (.slice ac card.length cc) card) => replay_any m first card (.slice ac card.length cc) (-1) W h)
  rw [HMV.out] at HRA HST
  rw [HMV.out]
  have HR := hid (hamsR.eq_1 m first card)
  obtain ⟨r, hr⟩ : ∃ r, replayR m first card (-1) = r := ⟨_, rfl⟩
  obtain ⟨s, k1, code⟩ := r
  rw [hr] at HR HRA
  have HRR := hid hr
  clear hcard hr
  refine (callsIn_wide (n := 10)).1 ?_
  refine callsIn_of_wp_marks Tryd.func13 rfl trivial ?_ rfl
  simp only [Tryd.ntmps13, List.size_toArray, List.length_cons, List.length_nil, Nat.reduceAdd, Nat.reduceSub, Array.replicate_succ, Array.replicate_zero, List.push_toArray, List.append_toArray, List.nil_append, List.cons_append]
  gi_wp2_with fail
  refine ⟨trivial, ?_⟩
  have hb4 := (Below.refl w.heap.size w).alloc (Nat.le_refl _) (.cells #[.int .i64 m.ends, .int .i64 m.most, .int .i64 m.early, .bool m.change, .bool m.power] 23)
  have hm4 := heap_alloc_new w (.cells #[.int .i64 m.ends, .int .i64 m.most, .int .i64 m.early, .bool m.change, .bool m.power] 23)
  generalize w.alloc (.cells #[.int .i64 m.ends, .int .i64 m.most, .int .i64 m.early, .bool m.change, .bool m.power] 23) = W4 at *
  have HB4 := hid hb4
  have HM4 := hid (show W4.heap[w.heap.size]? = some (.cells m.arr 23 (0, 0)) from hm4)
  clear hb4 hm4
  refine (callsIn_wide.2 (HRA.out W4 (HCARD.out.below HB4.out))).mono ?_
  rintro e W5 ⟨rfl, hb5⟩
  dsimp only
  unfold StD.val StD.arr
  have HB5 := hid (HB4.out.trans (hb5.mono HB4.out.size))
  have HM5 := hid ((hb5.block _ (Array.getElem?_eq_some_iff.1 HM4.out).1).trans HM4.out)
  obtain ⟨m0, m1, m2, m3, m4⟩ := cells5 HM5.out
  have hz1 : w.heap.size < W5.heap.size := (Array.getElem?_eq_some_iff.1 HM5.out).1
  have hz2 : w.heap.size < W5.heap.size + 1 := by omega
  clear hb5
  by_cases hc : code = 0
  · have hcb : (code != 0) = false := by simp [hc]
    rw [if_pos hc] at HR
    have HC0 := hid hc
    clear hc
    gi_wp2_with fail
    refine ⟨trivial, ?_⟩
    obtain ⟨X5, hX5⟩ : ∃ X5, (W5.alloc (.cells #[.int .i64 s.p0, .int .i64 s.p1, .int .i64 s.ends, .int .i64 s.ham, .int .i64 s.win, .bool s.over, .bool s.extra, .bool s.w0, .bool s.w1] 29)).alloc (.cells #[.slice none 0 0] 33) = X5 := ⟨_, rfl⟩
    have hz5 : X5.heap.size = W5.heap.size + 2 := by rw [← hX5]; simp
    have hb5 : Below W5.heap.size W5 X5 := by rw [← hX5]; exact ((Below.refl _ _).alloc (Nat.le_refl _) _).alloc (by simp) _
    have hl5 : X5.heap[W5.heap.size + 1]? = some (.cells #[.slice none 0 0] 33 (0, 0)) := by rw [← hX5]; exact heap_alloc2_new W5 _ _
    have HBX := hid (HB5.out.trans (hb5.mono HB5.out.size))
    have HL5 := hid hl5
    rw [hX5]
    clear hX5 hl5 m0 m1 m2 m3 m4 hz1 hz2
    refine (callsIn_wide.2 (HST.out X5 (HCARD.out.below HBX.out))).mono ?_
    rintro e W6 ⟨rfl, hcap6, hz6, hb6⟩
    rw [hz5] at hcap6 hz6 hb6
    obtain ⟨hz1, hz2, hz3, hz4⟩ := replayR_zero m first card (by rw [HRR.out]; exact HC0.out)
    obtain ⟨hm8, hf01⟩ : m.most ≤ 8 ∧ (first = 0 ∨ first = 1) := by
      unfold MatchD.asked at hz1
      simp only [Bool.and_eq_true] at hz1
      exact ⟨ok_most hz1.1.1, in01 hz1.1.2⟩
    have HASK := hid (show m.most ≤ 8 ∧ (first = 0 ∨ first = 1) ∧ card.length ≤ 40 from ⟨hm8, hf01, hz2⟩)
    have HBAD := hid hz3
    have HB6 := hid (HBX.out.trans ((show Below X5.heap.size X5 W6 by rw [hz5]; exact hb6).mono HBX.out.size))
    have HZ6 := hid (show W6.heap.size = W5.heap.size + 5 by omega)
    have HL6 := hid ((hb6.block (W5.heap.size + 1) (by omega)).trans HL5.out)
    have HCAP6 := hid hcap6
    have HZW := hid HB5.out.size
    clear hz1 hz2 hz3 hz4 hm8 hf01 hcap6 hz6 hb6 hb5
    rw [hz5]
    clear hz5
    gi_wp2_with fail
    have HKS := hid (show ∀ k, KS (W5.heap.size + 2) (W5.heap.size + 2 + 1) (W5.heap.size + 2 + 1 + 1) (.slice ac card.length cc) k → k < W6.heap.size ∧ k ≠ W5.heap.size + 1 by
      have h6 := HZ6.out
      have hw := HZW.out
      rintro k (h | h | h | h)
      · omega
      · omega
      · omega
      · have := HCARD.out.blk h; omega)
    obtain ⟨hok1, hok2, hok3⟩ := HASK.out
    refine wpIn_rangeO rfl (by omega) (gf := 60) (lb := #[.pointer (some ⟨W5.heap.size + 2, 0, none⟩), .pointer (some ⟨W5.heap.size + 2 + 1, 0, none⟩), .pointer (some ⟨W5.heap.size + 2 + 1 + 1, 0, none⟩)]) rfl trivial (enters_of Tryd.func60 (by kernel_rfl) rfl)
      (states_seq 9 (by omega) (W5.heap.size + 2) (W5.heap.size + 2 + 1) (W5.heap.size + 2 + 1 + 1) m first card (.slice ac card.length cc) W6 hok1 hok2 (by omega) HCAP6.out ((HCARD.out.below HB6.out)) (fun k hk => (HKS.out k hk).1))
      (Below.refl _ _) (fun _ => rfl) (fun k hk => (HKS.out k hk).1)
      (fun O pre W => HamB w W (W5.heap.size + 1) (W6.heap.size + 2) O (hamP m first card pre))
      (fun O pre x a' W => HamB w W (W5.heap.size + 1) (W6.heap.size + 2) O (hamP m first card pre) ∧ ∃ T V, W.heap[T]? = some (.cells (stAt m first card x).arr 29 (0, 0)) ∧ a' = { tmps := #[.agg #[.int .i64 m.ends, .int .i64 m.most, .int .i64 m.early, .bool m.change, .bool m.power], .int .i64 first, .slice ac card.length cc, .pointer (some ⟨w.heap.size, 0, none⟩), undef, undef, .slice none 0 0, .int .i64 0, .pointer (some ⟨W5.heap.size, 0, none⟩), .int .i64 k1, .int .i64 code, .pointer (some ⟨W5.heap.size + 1, 0, none⟩), undef, .pointer (some ⟨T, 0, none⟩), .tuple #[.agg #[.int .i64 s.p0, .int .i64 s.p1, .int .i64 s.ends, .int .i64 s.ham, .int .i64 s.win, .bool s.over, .bool s.extra, .bool s.w0, .bool s.w1], .int .i64 k1, .int .i64 code], .agg #[.int .i64 m.ends, .int .i64 m.most, .int .i64 m.early, .bool m.change, .bool m.power], .int .i64 first, .slice ac card.length cc, .tuple #[.agg #[.int .i64 s.p0, .int .i64 s.p1, .int .i64 s.ends, .int .i64 s.ham, .int .i64 s.win, .bool s.over, .bool s.extra, .bool s.w0, .bool s.w1], .int .i64 k1, .int .i64 code], .agg #[.int .i64 s.p0, .int .i64 s.p1, .int .i64 s.ends, .int .i64 s.ham, .int .i64 s.win, .bool s.over, .bool s.extra, .bool s.w0, .bool s.w1], .int .i64 k1, .int .i64 code, .int .i64 code, .bool false, undef, .agg #[.int .i64 m.ends, .int .i64 m.most, .int .i64 m.early, .bool m.change, .bool m.power], .int .i64 first, .slice ac card.length cc, .func (.func 60) #[] #[.pointer (some ⟨W5.heap.size + 2, 0, none⟩), .pointer (some ⟨W5.heap.size + 2 + 1, 0, none⟩), .pointer (some ⟨W5.heap.size + 2 + 1 + 1, 0, none⟩)], .int .i64 x, V, undef, undef, undef, undef, undef, undef, undef, undef, undef], defers := [] })
      ?hI ?hIs ?hIas ?h0 ?assign ?body ?done
    case hI =>
      intro O pre X Y hi hO hz hc
      exact hi.ch hc (fun h => by have := hO _ h; have := HZ6.out; omega) (fun j hj h => by have := hO _ h; have := HZ6.out; have := HZW.out; omega)
    case hIs =>
      intro O pre X Y row hi hg hr
      exact hi.grown hg (fun r e => (hr r e).2) (fun r e => by have := (hr r e).1; have := HZ6.out; have := HZW.out; omega)
    case hIas =>
      rintro O pre x a' X Y row ⟨hi, T, V, hT, ha⟩ hg hr
      refine ⟨hi.grown hg (fun r e => (hr r e).2) (fun r e => by have := (hr r e).1; have := HZ6.out; have := HZW.out; omega), T, V, (hg.block T (Array.getElem?_eq_some_iff.1 hT).1 (fun e => ?_)).trans hT, ha⟩
      obtain ⟨o, ho, hcl⟩ := (hr T e.symm).2
      rw [hT] at ho
      cases ho
      cases hcl
    case h0 => exact ⟨⟨.slice none 0 0, HL6.out, World.ownsRow_nil _ _ _ _, fun k hk => by simp [Value.ownBlock] at hk⟩, HB6.out⟩
    case assign =>
      intro l O pre x W hx hi hO hz
      have HI := hid hi
      have HO := hid hO
      have HZ := hid hz
      clear hi hO hz hx
      dsimp only [encS, StD.val, StD.arr]
      obtain ⟨x2, hs⟩ : ∃ s, stAt m first card x = s := ⟨_, rfl⟩
      rw [hs]
      have HS := hid hs
      clear hs
      gi_wp2_with fail
      have h1 := heap_alloc_new W (.cells #[.int .i64 x2.p0, .int .i64 x2.p1, .int .i64 x2.ends, .int .i64 x2.ham, .int .i64 x2.win, .bool x2.over, .bool x2.extra, .bool x2.w0, .bool x2.w1] 29)
      have hb := (Below.refl W.heap.size W).alloc (Nat.le_refl _) (.cells #[.int .i64 x2.p0, .int .i64 x2.p1, .int .i64 x2.ends, .int .i64 x2.ham, .int .i64 x2.win, .bool x2.over, .bool x2.extra, .bool x2.w0, .bool x2.w1] 29)
      have hk := (KeepsOthers.alloc W (.cells #[.int .i64 x2.p0, .int .i64 x2.p1, .int .i64 x2.ends, .int .i64 x2.ham, .int .i64 x2.win, .bool x2.over, .bool x2.extra, .bool x2.w0, .bool x2.w1] 29)).from W6.heap.size
      have hr := HI.out.below hb
      refine ⟨?_, ?_, ?_⟩
      · with_reducible exact hk
      · intro k hk
        refine hb.block k ?_
        rcases hk with h | h
        · exact (HO.out k h).2
        · have := (HKS.out k h).1
          have := HZ.out
          omega
      · refine ⟨hr, W.heap.size, _, ?_, rfl⟩
        exact h1
    case body =>
      rintro l O pre x a' W hx ⟨hi, T, V, hT, rfl⟩ hO hz
      have hlen := hamP_len m first card pre
      have hpl : pre.length ≤ 40 := by
        obtain ⟨rest, hr⟩ := hx
        have h1 := congrArg List.length hr
        have h2 := HBAD.out
        have h3 := HASK.out.2.2
        simp at h1
        omega
      obtain ⟨s2, hs⟩ : ∃ s, stAt m first card x = s := ⟨_, rfl⟩
      have hsn := hamP_snoc m first card pre x
      rw [hs] at hT hsn
      obtain ⟨q, hq⟩ : ∃ q, hamP m first card pre = q := ⟨_, rfl⟩
      rw [hq] at hi hlen hsn
      have HI := hid hi
      have HO := hid hO
      have HZ := hid hz
      have HSN := hid hsn
      obtain ⟨⟨v, hv, hown, hn⟩, hb0⟩ := hi
      obtain ⟨av, nv, cv, rfl⟩ : ∃ a n c, v = .slice a n c := by
        rcases hown.2 with ⟨rfl, -⟩ | ⟨g, cap, cur, rfl, -⟩
        · exact ⟨_, _, _, rfl⟩
        · exact ⟨_, _, _, rfl⟩
      obtain ⟨e0, e1, e2, e3, e4, e5, e6, e7, e8, -⟩ := cells9 hT
      have d1 : W.cell? ⟨W5.heap.size + 1, 0, none⟩ = some (.slice av nv cv) := cellB hv 0
      have f1 : W.frozen? ⟨W5.heap.size + 1, 0, none⟩ = false := by simp [World.frozen?, hv]
      have hLW : W5.heap.size + 1 < W.heap.size := (Array.getElem?_eq_some_iff.1 hv).1
      have hTW : T < W.heap.size := (Array.getElem?_eq_some_iff.1 hT).1
      have HV := hid hv
      have HN := hid hn
      have HB0 := hid hb0
      clear hT hO hz hsn hs hx hq hv hn hb0
      cases hov : s2.over with
      | true =>
        have HOV := hid hov
        rw [hov] at e5
        clear hov
        gi_wp2_with fail
        refine ⟨(KeepsOthers.refl W).from _, fun _ _ => rfl, ?_⟩
        show HamB w W (W5.heap.size + 1) (W6.heap.size + 2) O (hamP m first card (pre ++ [x]))
        rw [HSN.out, HOV.out]
        simpa using HI.out
      | false =>
        have HOV := hid hov
        rw [hov] at e5
        clear hov
        gi_wp2_with (gi_at_builtin; refine wpListIn_append_own_at _ rfl _ _ 33 rfl (W6.heap.size + 2) 3 i0 (.int .i64 0) 1 8 Tryd.underlying33 hinf hz0 hz1' hz2' rfl (by decide) _ _ _ rfl (hown.alloc _) ⟨W.heap.size, 0, none⟩ 1 1 [.int .i64 s2.ham] rfl rfl (cell_one_new _ _ _) (ones _ rfl) (by unfold maxLen; omega) (by omega) (by simp; have := HZ.out; omega) ?_; intro v' w3 hown3 hgrow3 _ hat3; obtain ⟨g, cap, rfl, hg3, hg4⟩ := hown3.form (by omega); obtain ⟨l1, l2, l3⟩ := lfact HV.out hown (by have := HZ6.out; omega) hgrow3)
        have hput := ham_put (K := KS (W5.heap.size + 2) (W5.heap.size + 2 + 1) (W5.heap.size + 2 + 1 + 1) (.slice ac card.length cc)) HB0.out HV.out hown HN.out (by have := HZ6.out; omega) (by have := HZW.out; omega) HZ.out HO.out (fun k hk => by have := HKS.out k hk; omega) hown3 hgrow3 hat3
        refine ⟨hput.1.from _, hput.2.1, ?_⟩
        show HamB w _ (W5.heap.size + 1) (W6.heap.size + 2) O (hamP m first card (pre ++ [x]))
        rw [HSN.out, HOV.out]
        exact hput.2.2
    case done =>
      intro O D W hD hi hdef
      have hi2 : HamB w W (W5.heap.size + 1) (W6.heap.size + 2) O (hamL m first card (card.length + 1)) := by rw [← HBAD.out]; exact hi
      obtain ⟨q, hq⟩ : ∃ q, hamL m first card (card.length + 1) = q := ⟨_, rfl⟩
      have hql : q.length ≤ 41 := by
        have h1 := hamP_len m first card (List.range (card.length + 1))
        rw [← hq]
        have h3 := HASK.out.2.2
        unfold hamP at h1
        unfold hamL
        simp at h1 ⊢
        omega
      rw [hq] at hi2 HR
      have hi3 := hi2.grown (grownBy_putObj' W D (.deferred none)) (fun r e => by cases e; exact ⟨_, hdef, rfl⟩) (fun r e => by cases e; have := HB6.out.size; omega)
      have HDF := hid hdef
      clear hdef
      obtain ⟨⟨v, hv, hown, hn⟩, hb0⟩ := hi2
      obtain ⟨av, nv, cv, rfl⟩ : ∃ a n c, v = .slice a n c := by
        rcases hown.2 with ⟨rfl, -⟩ | ⟨g, cap, cur, rfl, -⟩
        · exact ⟨_, _, _, rfl⟩
        · exact ⟨_, _, _, rfl⟩
      have d1 : W.cell? ⟨W5.heap.size + 1, 0, none⟩ = some (.slice av nv cv) := cellB hv 0
      have HS := hid (show SlI (W.putObj D (.deferred none)) (.slice av nv cv) q ∧ Below w.heap.size w (W.putObj D (.deferred none)) from by
        obtain ⟨⟨v3, hv3, hown3, -⟩, hb3⟩ := hi3
        have hne : D ≠ W5.heap.size + 1 := by have := HZ6.out; omega
        rw [World.putObj_heap_other (by omega), hv] at hv3
        cases hv3
        exact ⟨own_SlI hown3 (by omega), hb3⟩)
      clear hi hi3 hq hv hown hn hb0
      gi_wp2_with fail
      refine ⟨by simp, .inl ⟨_, _, rfl, run_takeDeferred HDF.out, ?_⟩⟩
      refine ⟨.tuple #[.slice av nv cv, .int .i64 0], by simp [results, Tryd.results13, go_sem], ?_⟩
      exact ⟨⟨_, by rw [HR.out], by rw [HR.out]; exact HS.out.1⟩, HS.out.2⟩
  · have hcb : (code != 0) = true := by simp [hc]
    rw [if_neg hc] at HR
    clear hc
    gi_wp2_with fail
    refine ⟨.tuple #[.slice none 0 0, .int .i64 code], by simp [results, Tryd.results13, go_sem], ?_⟩
    exact ⟨⟨_, by rw [HR.out], by rw [HR.out]; exact nil_SlI _⟩, HB5.out.alloc HB5.out.size _⟩
end Go.Proofs.YtdbfnonpndlejaaDoor
