/- The iterator of game.states walked. -/
import Derived.Test.YtolnhicngepnnaaGreatGR1
import Derived.Test.YtolnhicngepnnaaGreatGM2
namespace Go.Proofs.YtolnhicngepnnaaGreat
open Go.RowKit Go.Shelf
attribute [local go_sem] Oper.semAt_some

def SlL (w : World) (v : Value) (l : List LineD) : Prop := SlV w v l.length (l.flatMap LineD.cells)
theorem SlL.below {w w' : World} {v : Value} {l : List LineD} (h : SlL w v l) (hb : Below w.heap.size w w') : SlL w' v l := SlV.below h hb
/-- The block of a slice that is not empty. -/
def blkOf (v : Value) (k : Nat) : Prop := v.ownBlock = some k ∧ ∀ a cap, v ≠ .slice a 0 cap
/-- A card in a later world that kept its block. -/
theorem SlL.same {w w' : World} {v : Value} {l : List LineD} (h : SlL w v l) (hz : w.heap.size ≤ w'.heap.size) (hs : ∀ k, blkOf v k → k < w.heap.size → w'.heap[k]? = w.heap[k]?) : SlL w' v l := by
  obtain ⟨a, cap, rfl, hn, hc⟩ := h
  by_cases h0 : l.length = 0
  · exact ⟨a, cap, rfl, hn, .inl h0⟩
  refine ⟨a, cap, rfl, hn, hc.imp id ?_⟩
  rintro ⟨b, off, rfl, hlt, hc⟩
  refine ⟨b, off, rfl, Nat.lt_of_lt_of_le hlt hz, fun i hi => ?_⟩
  exact (World.cell?_of_block (a := ⟨b, off + i, none⟩) (hs b ⟨rfl, fun a c e => by injection e; exact h0 (by assumption)⟩ hlt)).trans (hc i hi)
theorem SlL.blk {w : World} {v : Value} {l : List LineD} {k : Nat} (h : SlL w v l) (hk : blkOf v k) : k < w.heap.size := by
  obtain ⟨a, cap, rfl, hn, hc⟩ := h
  rcases hc with h0 | ⟨b, off, rfl, hlt, -⟩
  · exact absurd (by rw [h0]) (hk.2 a cap)
  · have := hk.1
    simp [Value.ownBlock] at this
    omega
theorem SlL.open {w : World} {v : Value} {l : List LineD} (h : SlL w v l) :
    ∃ a cap, v = .slice a l.length cap ∧ l.length ≤ 140737488351232 ∧ ∀ k, k < l.length → ∃ b off, a = some ⟨b, off, none⟩ ∧ b < w.heap.size ∧
      ∀ j (h : j < l.length), w.cell? ⟨b, off + j * 3, none⟩ = some (.int .i64 l[j].team) ∧ w.cell? ⟨b, off + j * 3 + 1, none⟩ = some (.int .i64 l[j].pts) ∧ w.cell? ⟨b, off + j * 3 + 2, none⟩ = some (.bool l[j].pow) := by
  obtain ⟨a, cap, rfl, hn, hc⟩ := SlV.elems (s := 3) (fun _ => rfl) h
  refine ⟨a, cap, rfl, hn, fun k hk => ?_⟩
  obtain ⟨b, off, rfl, hlt, hc⟩ := hc k hk
  refine ⟨b, off, rfl, hlt, fun j hj => ⟨hc j hj 0 (by omega), ?_, ?_⟩⟩
  · exact hc j hj 1 (by omega)
  · exact hc j hj 2 (by omega)
def encS (m : MatchD) (first : Int) (card : List LineD) (k : Nat) : Array Value := #[.int .i64 k, (stAt m first card k).val]
/-- What the iterator has captured: the boxes of the match, of the first team, of the card. -/
def Cap (w : World) (bM bF bC : Nat) (m : MatchD) (first : Int) (v : Value) : Prop :=
  (w.cell? ⟨bM, 0, none⟩ = some (.int .i64 m.ends) ∧ w.cell? ⟨bM, 1, none⟩ = some (.int .i64 m.most) ∧ w.cell? ⟨bM, 2, none⟩ = some (.int .i64 m.early) ∧ w.cell? ⟨bM, 3, none⟩ = some (.bool m.change) ∧ w.cell? ⟨bM, 4, none⟩ = some (.bool m.power)) ∧
  w.cell? ⟨bF, 0, none⟩ = some (.int .i64 first) ∧ w.cell? ⟨bC, 0, none⟩ = some v
def KS (bM bF bC : Nat) (v : Value) (k : Nat) : Prop := k = bM ∨ k = bF ∨ k = bC ∨ blkOf v k
theorem Cap.same {w w' : World} {bM bF bC : Nat} {m : MatchD} {first : Int} {v : Value} (h : Cap w bM bF bC m first v) (hs : ∀ k, KS bM bF bC v k → w'.heap[k]? = w.heap[k]?) : Cap w' bM bF bC m first v := by
  obtain ⟨⟨h0, h1, h2, h3, h4⟩, h5, h6⟩ := h
  have e1 := hs bM (.inl rfl)
  have e2 := hs bF (.inr (.inl rfl))
  have e3 := hs bC (.inr (.inr (.inl rfl)))
  exact ⟨⟨(World.cell?_of_block (a := ⟨bM, 0, none⟩) e1).trans h0, (World.cell?_of_block (a := ⟨bM, 1, none⟩) e1).trans h1, (World.cell?_of_block (a := ⟨bM, 2, none⟩) e1).trans h2, (World.cell?_of_block (a := ⟨bM, 3, none⟩) e1).trans h3, (World.cell?_of_block (a := ⟨bM, 4, none⟩) e1).trans h4⟩, (World.cell?_of_block (a := ⟨bF, 0, none⟩) e2).trans h5, (World.cell?_of_block (a := ⟨bC, 0, none⟩) e3).trans h6⟩
theorem Cap.below {w w' : World} {bM bF bC : Nat} {m : MatchD} {first : Int} {v : Value} (h : Cap w bM bF bC m first v) (hb : Below w.heap.size w w') : Cap w' bM bF bC m first v :=
  ⟨⟨bcs hb h.1.1, bcs hb h.1.2.1, bcs hb h.1.2.2.1, bcs hb h.1.2.2.2.1, bcs hb h.1.2.2.2.2⟩, bcs hb h.2.1, bcs hb h.2.2⟩
theorem range_mid {n k : Nat} (h : k < n) : ∃ rest, List.range n = List.range k ++ k :: rest := by
  refine ⟨(List.range n).drop (k + 1), ?_⟩
  have h1 : (List.range n).take k = List.range k := by rw [List.take_range]; congr 1; omega
  have h2 : (List.range n).drop k = k :: (List.range n).drop (k + 1) := by
    rw [List.drop_eq_getElem_cons (by simpa using h)]; simp
  rw [← h1, ← h2, List.take_append_drop]
/-- The iterator's state between two rounds. -/
def ItS (J : (Nat → Prop) → List Nat → World → Prop) (W : World) (bM bF bC : Nat) (m : MatchD) (first : Int) (card : List LineD) (v : Value) (S k : Nat) (wr : World) : Prop :=
  ∃ O, J O (List.range k) wr ∧ O S ∧ SObj wr S m (stAt m first card k) ∧ W.heap.size ≤ wr.heap.size ∧ W.heap.size ≤ S ∧ (∀ j, KS bM bF bC v j → wr.heap[j]? = W.heap[j]?)
set_option maxRecDepth 100000 in
set_option maxHeartbeats 2000000 in
theorem states1_in (n : Nat) (hn : 1 ≤ n) (l bM bF bC : Nat) (m : MatchD) (first : Int) (card : List LineD) (v : Value) (J : (Nat → Prop) → List Nat → World → Prop) (W : World)
    (hm : m.most ≤ 8) (hf : first = 0 ∨ first = 1) (hl : card.length ≤ 1000) (hcap : Cap W bM bF bC m first v) (hcard : SlL W v card)
    (hKB : ∀ k, KS bM bF bC v k → k < W.heap.size)
    (hJ : ∀ O pre W1 W2, J O pre W1 → Ch O W1 W2 → J (NewO O W1 W2) pre W2)
    (hY : ∀ O pre x W1, J O pre W1 → (∃ rest, List.range (badN m (begun first) card + 1) = pre ++ x :: rest) → YieldAt Fence.wide (n - 1) Tryz.prog l (encS m first card x) W1 fun e W' =>
      e = .returned (.bool true) ∧ J O (pre ++ [x]) W' ∧ W1.heap.size ≤ W'.heap.size ∧ ∀ k, O k ∨ KS bM bF bC v k → W'.heap[k]? = W1.heap[k]?)
    (h0 : J (fun _ => False) [] W) :
    CallsIn Fence.wide n Tryz.prog 66 #[.func (.yield l) #[] #[], .pointer (some ⟨bM, 0, none⟩), .pointer (some ⟨bF, 0, none⟩), .pointer (some ⟨bC, 0, none⟩)] W fun e W' => (∃ v, e = .returned v) ∧ ∃ O, J O (List.range (badN m (begun first) card + 1)) W' := by
  have HCAP := hid hcap
  have HCARD := hid hcard
  have HJ := hid hJ
  have HY := hid hY
  have HKB := hid hKB
  have HF := hid hf
  obtain ⟨ac, cc, rfl, hll, -⟩ := hcard.open
  have HB1 := hid (fun W1 => begin_any m first W1)
  rw [show m.val = .agg #[.int .i64 m.ends, .int .i64 m.most, .int .i64 m.early, .bool m.change, .bool m.power] from rfl] at HB1
  obtain ⟨⟨m0, m1, m2, m3, m4⟩, f0, k0⟩ := hcap
  clear hcard hJ hY hf hKB
  refine callsIn_of_wp Tryz.func66 rfl trivial ?_ rfl
  simp only [Tryz.ntmps66, List.size_toArray, List.length_cons, List.length_nil, Nat.reduceAdd, Nat.reduceSub, Array.replicate_succ, Array.replicate_zero, List.push_toArray, List.append_toArray, List.nil_append, List.cons_append]
  gi_wp2_with fail
  refine ⟨trivial, ?_⟩
  refine (callsIn_wide.2 (HB1.out _)).mono ?_
  rintro e W1 ⟨S, hS, rfl, hs1, hb1⟩
  have HS0 := hid (show ItS J W bM bF bC m first card (.slice ac card.length cc) S 0 W1 from ⟨NewO (fun _ => False) W W1, HJ.out _ _ _ _ h0 (Ch.of_below hb1), .inr ⟨hS, hs1.lt⟩, hs1, hb1.size, hS, fun j hj => hb1.block j (HKB.out j hj)⟩)
  have k1 := bcs hb1 k0
  clear h0 hs1 hb1 m0 m1 m2 m3 m4 f0 k0
  gi_wp2_with fail
  clear k1
  gi_loopw [13] (fun i wr => ∃ k : Nat, k ≤ badN m (begun first) card ∧ i = .int .i64 k ∧ ItS J W bM bF bC m first card (.slice ac card.length cc) S k wr) (fun i _ => card.length - (intOf i).toNat)
  case atStart => exact ⟨0, Nat.zero_le _, rfl, HS0.out⟩
  case round =>
    obtain ⟨k, hk, rfl, hit⟩ := hrel
    obtain ⟨wo, rfl⟩ : ∃ wo, wo = wr := ⟨_, rfl⟩
    obtain ⟨O, hJo, hOS, hso, hzo, hSW, hsame⟩ := hit
    have hbl := badN_le m card (begun first)
    obtain ⟨hfit1, hfit2, hfit3⟩ := badN_fits m first card k hk
    have HST := hid (stAt_ok hm HF.out card k hk)
    have HSUC := hid (stAt_succ m first card k)
    have HSO := hid hso
    have HJO := hid hJo
    have HOS := hid hOS
    have HSAME := hid hsame
    have HCO := hid (HCARD.out.same hzo (fun j hj _ => hsame j (.inr (.inr (.inr hj)))))
    have HF2 := hid hfit2
    have HF3 := hid hfit3
    have HK0 := hid (HCAP.out.same hsame)
    clear hJo hOS hso hsame hfit1 hfit2 hfit3
    generalize hsk : stAt m first card k = s at *
    have HSK := hid hsk
    clear hsk
    by_cases hkl : k < card.length
    · obtain ⟨al2, cl2, ee, -, hxx⟩ := HCO.out.open
      obtain ⟨bb, off, rfl, hbb, hx⟩ := hxx k hkl
      obtain ⟨e1, -, -⟩ := Value.slice.inj ee
      subst e1
      obtain ⟨x0, x1, x2⟩ := hx k hkl
      have hgd : card.getD k ⟨0, 0, false⟩ = card[k] := by rw [List.getD_eq_getElem?_getD, List.getElem?_eq_getElem hkl]; rfl
      rw [hgd] at HSUC HF2 HF3
      generalize card[k] = x at *
      have HG := hid hgd
      clear hxx hx ee hgd
      have hb2 : Below wo.heap.size wo (wo.alloc (.cells #[.int .i64 x.team, .int .i64 x.pts, .bool x.pow] 54)) := (Below.refl _ _).alloc (Nat.le_refl _) _
      have HT2 := hid (heap_alloc_new wo (.cells #[.int .i64 x.team, .int .i64 x.pts, .bool x.pow] 54))
      have HZ2 := hid (show (wo.alloc (.cells #[.int .i64 x.team, .int .i64 x.pts, .bool x.pow] 54)).heap.size = wo.heap.size + 1 by simp)
      have hJ2 := HJ.out O (List.range k) wo (wo.alloc (.cells #[.int .i64 x.team, .int .i64 x.pts, .bool x.pow] 54)) HJO.out (Ch.of_below hb2)
      obtain ⟨fn, tmps, assign, body, hy, hR⟩ := HY.out (NewO O wo _) (List.range k) k (wo.alloc (.cells #[.int .i64 x.team, .int .i64 x.pts, .bool x.pow] 54)) hJ2 (range_mid (by omega))
      dsimp only [encS] at hy
      rw [HSK.out] at hy
      dsimp only [StD.val, StD.arr] at hy
      have HR := hid hR
      have HB2 := hid hb2
      have HS2 := hid (HSO.out.below hb2)
      obtain ⟨c0, c1, c2, c3, c4, c5, c6, c7, c8, c9, c10, c11, c12, c13, cf⟩ := cells14 HSO.out
      have hSlt := HSO.out.lt
      clear hR hb2 hJ2
      gi_wp2_with fail
      refine HR.out.mono ?_
      rintro e W3 ⟨rfl, hJ3, hz3, hs3⟩
      have hS3 : SObj W3 S m s := (hs3 S (.inl (.inl HOS.out))).trans HS2.out
      have hT3 : W3.heap[wo.heap.size]? = some (.cells #[.int .i64 x.team, .int .i64 x.pts, .bool x.pow] 54) := (hs3 _ (.inl (.inr ⟨Nat.le_refl _, by rw [HZ2.out]; omega⟩))).trans HT2.out
      have hK3 : ∀ j, KS bM bF bC (.slice (some ⟨bb, off, none⟩) card.length cc) j → W3.heap[j]? = W.heap[j]? := fun j hj => by
        rw [hs3 j (.inr hj), HB2.out.block j (by have := HKB.out j hj; omega), HSAME.out j hj]
      have HS3 := hid hS3
      have HX3 := hid (show BoxL W3 wo.heap.size x from ⟨cellB hT3 0, cellB hT3 1, cellB hT3 2⟩)
      have HJ3 := hid hJ3
      have HK3 := hid hK3
      have hzz : wo.heap.size + 1 ≤ W3.heap.size := by have := HZ2.out; omega
      clear hJ3 hz3 hs3 hS3 hT3 hK3 c0 c1 c2 c3 c4 c5 c6 c7 c8 c9 c10 c11 c12 c13 cf hy HR x0 x1 x2
      gi_wp2_with fail
      refine ⟨trivial, ?_⟩
      refine (callsIn_wide.2 (wrongs_any S W3)).mono ?_
      rintro e W4 ⟨V, P, rfl, hV4, hb4⟩
      have HB4 := hid hb4
      have HC := hid (contains_wr V wo.heap.size P S m s x W4 (HX3.out.below hb4) hV4 (HS3.out.below hb4) HST.out.ham)
      clear hb4 hV4
      gi_wp2_with fail
      refine ⟨trivial, ?_⟩
      refine (callsIn_wide.2 HC.out).mono ?_
      rintro e W5 ⟨rfl, hb5⟩
      have HB5 := hid (HB4.out.trans (hb5.mono HB4.out.size))
      have HX5 := hid (HX3.out.below HB5.out)
      have HS5 := hid (HS3.out.below HB5.out)
      clear hb5 HC
      obtain ⟨x0, x1, x2⟩ := HX5.out
      cases hfx : fits m s x with
      | true =>
        have hkb : k < badN m (begun first) card := by
          by_cases h : k < badN m (begun first) card
          · exact h
          · have := HF3.out (by omega) hkl
            rw [hfx] at this; cases this
        obtain ⟨hno, hln⟩ := fits_line hfx
        have hen := HST.out.ends
        have hp0 := HST.out.p0
        have hp1 := HST.out.p1
        have HPL := hid (play_any S m s x W5 HS5.out (HST.out.ham hno) (by omega) (by omega) (by omega) (by omega) (by omega))
        rw [show x.val = .agg #[.int .i64 x.team, .int .i64 x.pts, .bool x.pow] from rfl] at HPL
        clear hfx hno hln hen hp0 hp1
        gi_wp2_with fail
        refine ⟨trivial, ?_⟩
        refine (callsIn_wide.2 HPL.out).mono ?_
        rintro e W6 ⟨⟨v6, rfl⟩, hs6, ho6⟩
        have HS6 := hid hs6
        have HO6 := hid ho6
        clear hs6 ho6 x0 x1 x2
        gi_wp2_with fail
        refine ⟨⟨k + 1, by omega, by go_num, ?_⟩, by simp [intOf]; omega⟩
        have hch : Ch (NewO O wo (wo.alloc (.cells #[.int .i64 x.team, .int .i64 x.pts, .bool x.pow] 54))) W3 W6 := (Ch.of_below HB5.out).trans (Ch.of_only HO6.out (.inl HOS.out))
        refine ⟨NewO (NewO O wo (wo.alloc (.cells #[.int .i64 x.team, .int .i64 x.pts, .bool x.pow] 54))) W3 W6, ?_, .inl (.inl HOS.out), ?_, ?_, hSW, ?_⟩
        · have h := HJ.out _ _ _ _ HJ3.out hch
          rw [← List.range_succ] at h
          exact h
        · rw [HSUC.out]; exact HS6.out
        · have := hch.1.size; omega
        · intro j hj
          have h1 := HKB.out j hj
          have h2 := HK3.out j hj
          rw [HO6.out.bel.block j (by omega), HB5.out.block j (by omega), h2]
      | false =>
        have hkb : k = badN m (begun first) card := by
          by_cases h : k < badN m (begun first) card
          · have := HF2.out h
            rw [hfx] at this; cases this
          · omega
        have HKB2 := hid hkb
        clear hfx hkb x0 x1 x2
        gi_wp2_with fail
        refine bodyPost_ret (results_none rfl _ _ _) rfl ?_
        have h := HJ.out _ _ _ _ HJ3.out (Ch.of_below HB5.out)
        refine ⟨⟨_, rfl⟩, NewO (NewO O wo (wo.alloc (.cells #[.int .i64 x.team, .int .i64 x.pts, .bool x.pow] 54))) W3 W5, ?_⟩
        rw [← HKB2.out, List.range_succ]
        exact h
    · have hkl2 : k = card.length := by omega
      have hbk : badN m (begun first) card = k := by omega
      have HBK := hid hbk
      have hcb := HCAP.out.same HSAME.out
      have k0 := hcb.2.2
      have hJ2 := HJ.out O (List.range k) wo wo.drew HJO.out (Ch.of_below (Below.refl _ _).drew)
      obtain ⟨fn, tmps, assign, body, hy, hR⟩ := HY.out (NewO O wo wo.drew) (List.range k) k wo.drew hJ2 (range_mid (by omega))
      dsimp only [encS] at hy
      rw [HSK.out] at hy
      dsimp only [StD.val, StD.arr] at hy
      have HR := hid hR
      have HKL := hid hkl2
      obtain ⟨c0, c1, c2, c3, c4, c5, c6, c7, c8, c9, c10, c11, c12, c13, cf⟩ := cells14 HSO.out
      rw [hkl2] at hy
      clear hR hcb hbk hkl2 hJ2
      have hmx : Tryz.prog.follows .mixedOrders = true := by kernel_rfl
      gi_wp2_with fail
      gi_region_with_o (refine HR.out.mono ?_; rintro e W3 ⟨rfl, hJ3, hz3, hs3⟩)
      all_goals
        go_end0
        refine ⟨⟨_, rfl⟩, NewO O wo wo.drew, ?_⟩
        rw [HBK.out, List.range_succ]
        exact hJ3
theorem states_seq (n : Nat) (hn : 1 ≤ n) (bM bF bC : Nat) (m : MatchD) (first : Int) (card : List LineD) (v : Value) (w : World)
    (hm : m.most ≤ 8) (hf : first = 0 ∨ first = 1) (hl : card.length ≤ 1000) (hcap : Cap w bM bF bC m first v) (hcard : SlL w v card) (hKB : ∀ k, KS bM bF bC v k → k < w.heap.size) :
    SeqO Fence.wide n Tryz.prog 66 #[.pointer (some ⟨bM, 0, none⟩), .pointer (some ⟨bF, 0, none⟩), .pointer (some ⟨bC, 0, none⟩)] (encS m first card) (KS bM bF bC v) (List.range (badN m (begun first) card + 1)) w := by
  intro l J W hW hJ hY h0
  exact states1_in n hn l bM bF bC m first card v J W hm hf hl (hcap.below hW) (hcard.below hW) (fun k hk => Nat.lt_of_lt_of_le (hKB k hk) hW.size) hJ hY h0
theorem states_any (m : MatchD) (first : Int) (card : List LineD) (v : Value) (w : World) (hcard : SlL w v card) :
    Calls Tryz.prog 31 #[m.val, .int .i64 first, v] w fun e w' => e = .returned (.func (.func 66) #[] #[.pointer (some ⟨w.heap.size, 0, none⟩), .pointer (some ⟨w.heap.size + 1, 0, none⟩), .pointer (some ⟨w.heap.size + 1 + 1, 0, none⟩)]) ∧ Cap w' w.heap.size (w.heap.size + 1) (w.heap.size + 1 + 1) m first v ∧ w'.heap.size = w.heap.size + 3 ∧ Below w.heap.size w w' := by
  obtain ⟨ac, cc, rfl, hll, -⟩ := hcard.open
  rw [show m.val = .agg #[.int .i64 m.ends, .int .i64 m.most, .int .i64 m.early, .bool m.change, .bool m.power] from rfl]
  clear hcard
  go_enter Tryz.func31, Tryz.ntmps31
  go_wp2
  go_ret
  refine ⟨rfl, ?_, by simp, (((Below.refl _ _).alloc (Nat.le_refl _) _).alloc (by simp) _).alloc (by simp; omega) _⟩
  obtain ⟨A, hA⟩ : ∃ A, A = Obj.cells #[.int .i64 m.ends, .int .i64 m.most, .int .i64 m.early, .bool m.change, .bool m.power] 44 := ⟨_, rfl⟩
  obtain ⟨B, hB⟩ : ∃ B, B = Obj.cells #[.int .i64 first] 3 := ⟨_, rfl⟩
  obtain ⟨C, hC⟩ : ∃ C, C = Obj.cells #[.slice ac card.length cc] 45 := ⟨_, rfl⟩
  rw [← hA, ← hB, ← hC]
  have hA3 : (((w.alloc A).alloc B).alloc C).heap[w.heap.size]? = some A := (heap_alloc_old _ _ _ (by simp; omega)).trans (heap_alloc2_old w A B)
  have hB3 : (((w.alloc A).alloc B).alloc C).heap[w.heap.size + 1]? = some B := (heap_alloc_old _ _ _ (by simp)).trans (heap_alloc2_new w A B)
  have hC3 : (((w.alloc A).alloc B).alloc C).heap[w.heap.size + 1 + 1]? = some C := by
    have h := heap_alloc_new ((w.alloc A).alloc B) C
    rw [World.size_alloc, World.size_alloc] at h
    exact h
  subst hA hB hC
  exact ⟨⟨cellB hA3 0, cellB hA3 1, cellB hA3 2, cellB hA3 3, cellB hA3 4⟩, cellB hB3 0, cellB hC3 0⟩
end Go.Proofs.YtolnhicngepnnaaGreat
