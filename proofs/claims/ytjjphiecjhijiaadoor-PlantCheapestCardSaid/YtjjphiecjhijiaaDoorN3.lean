import Derived.Test.YtjjphiecjhijiaaDoorN2
import Derived.Test.YtjjphiecjhijiaaDoorJ9
import Derived.Laws.EntriesVeiled
namespace Go.Proofs.YtjjphiecjhijiaaDoor
open Go.RowKit Go.Maps
attribute [local go_sem] alloc_drewN setCell_drewN

theorem foldB_with (lm : List (Int × Int)) (n a : Nat) (rest pre : List Nat) : pre ≠ [] → (∀ b ∈ pre, 0 ≤ (mB lm n (rest.erase b)).1 + difM lm a b) → (foldB lm n a rest pre).2 ∈ pre ∧ 0 ≤ (foldB lm n a rest pre).1 := by
  refine snocI (Q := fun pre => pre ≠ [] → (∀ b ∈ pre, 0 ≤ (mB lm n (rest.erase b)).1 + difM lm a b) → (foldB lm n a rest pre).2 ∈ pre ∧ 0 ≤ (foldB lm n a rest pre).1) (by simp) ?_ pre
  intro pre b ih _ hn
  rw [foldB_snoc]
  have hb := hn b (by simp)
  unfold stepB
  by_cases hp : pre = []
  · subst hp
    rw [if_pos (.inl (by simp [foldB]))]
    exact ⟨by simp, hb⟩
  · obtain ⟨h1, h2⟩ := ih hp (fun x hx => hn x (by simp [hx]))
    split
    · exact ⟨by simp, hb⟩
    · exact ⟨by simp [h1], h2⟩
theorem mB_with {lm : List (Int × Int)} (hm : mOk lm) (n a : Nat) (rest : List Nat) (hl : (a :: rest).length = 2 * (n + 1)) : (mB lm (n + 1) (a :: rest)).2 ∈ rest := by
  have h1 : rest.length = 2 * n + 1 := by simp at hl; omega
  have := foldB_with lm n a rest rest (by intro e; rw [e] at h1; simp at h1) (fun b hb => by
    have h2 := mB_bd hm n (rest.erase b) (by rw [List.length_erase_of_mem hb]; omega)
    have h3 := dif_bd hm a b
    omega)
  exact this.1
/-- The pairs with the least sum. -/
def pairsL (lm : List (Int × Int)) : Nat → List Nat → List (Int × Int)
  | 0, _ => []
  | _ + 1, [] => []
  | n + 1, a :: rest => ((a : Int), ((mB lm (n + 1) (a :: rest)).2 : Int)) :: pairsL lm n (rest.erase (mB lm (n + 1) (a :: rest)).2)
theorem pairsL_length (lm : List (Int × Int)) (n : Nat) : ∀ l, (pairsL lm n l).length ≤ n := by
  induction n with
  | zero => intro l; simp [pairsL]
  | succ n ih =>
    intro l
    cases l with
    | nil => simp [pairsL]
    | cons a rest => simp [pairsL]; exact ih _
def marksB (lm : List (Int × Int)) : Bool := decide (lm.length % 2 = 0) && (decide (lm.length ≤ 16) && !lm.any badK)
def matchR (lm : List (Int × Int)) : List (Int × Int) × Int × Int :=
  if marksB lm then (pairsL lm (lm.length / 2) (List.range lm.length), (mB lm (lm.length / 2) (List.range lm.length)).1, 0) else ([], 0, 2)
def MatchPost (lm : List (Int × Int)) (w : World) (e : Ending) (w' : World) : Prop :=
  (∃ r, e = .returned (.tuple #[r, .int .i64 (matchR lm).2.1, .int .i64 (matchR lm).2.2]) ∧ SlK w' r (matchR lm).1) ∧ Below w.heap.size w w'
theorem mOk_of {lm : List (Int × Int)} (h : lm.any badK = false) : mOk lm := by
  intro i
  unfold mark
  by_cases hi : i < lm.length
  · rw [List.getD_eq_getElem?_getD, List.getElem?_eq_getElem hi]
    have := List.any_eq_false.1 h lm[i] (List.getElem_mem _)
    simp [badK, fewB, badN, okN, inB] at this
    simp only [Option.getD_some]
    omega
  · simp [List.getD_eq_getElem?_getD, hi]
theorem own_SlK {w : World} {B n : Nat} {t : TypeId} {v : Value} {l : List (Int × Int)} (h : w.ownsRow B t 2 v n (l.flatMap cells2)) (hn : l.length ≤ 140737488351232) : SlK w v l := by
  have hlen : n = l.length := by have := h.1; rw [cells2_length] at this; omega
  subst hlen
  rcases h.2 with ⟨rfl, h0⟩ | ⟨g, cap, cur, rfl, hg, hh, hnc, hcm, hcs, htake⟩
  · exact ⟨none, 0, by rw [h0], hn, .inl h0⟩
  · refine ⟨_, cap, rfl, hn, .inr ⟨g, 0, rfl, (Array.getElem?_eq_some_iff.1 hh).1, fun i hi => ?_⟩⟩
    rw [cells2_length] at hi
    rw [Nat.zero_add, h.cellAt i hi]
    exact List.getElem?_eq_getElem (by rw [cells2_length]; exact hi)
theorem info33 : (Tryd.prog.info? 33).map (fun i => (i.zero, i.size, i.bytes)) = some (some (.agg #[.int .i64 0, .int .i64 0]), 2, 16) := by kernel_rfl

theorem memo_made (lm : List (Int × Int)) (w : World) : ∃ w', (Instr.mapUpdate 95 (.map (some w.heap.size)) (.int .u64 0) (.agg #[.int .i64 0, .int .i64 0])).run Tryd.prog (w.alloc (.map #[] 0)) = .ok () w' ∧ MemoB lm w' w.heap.size (fun s => s = 0) ∧ (w.alloc (.map #[] 0)).grownBy w' (some w.heap.size) := by
  obtain ⟨w', hr', hm, hg, hs⟩ := MapF.update (P := Tryd.prog) keyU91 Tryd.underlying95 (MapF.made (enc := encU) w) 0 (pairV (0, 0))
  refine ⟨w', hr', ⟨_, hm, ?_, ?_, rfl, fun s h1 h2 => absurd h1 h2⟩, hg⟩
  · intro s; by_cases e : s = 0 <;> simp [e]
  · intro s v hv
    by_cases e : s = 0
    · rw [if_pos e] at hv
      obtain rfl := Option.some.inj hv
      rw [e, elems_zero]; rfl
    · rw [if_neg e] at hv; cases hv
set_option maxRecDepth 100000 in
set_option maxHeartbeats 1000000 in
/-- plant.Match -/
theorem match_any (v : Value) (lm : List (Int × Int)) (w : World) (hs : SlK w v lm) (hT : TabW w) : Calls Tryd.prog 19 #[v] w (MatchPost lm w) := by
  have HS := hid hs
  have HT := hid hT
  obtain ⟨a, cap, rfl, hll, hc⟩ := hs.open
  have HC := hid (fun w' (h : SlK w' (.slice a lm.length cap) lm) => contains_mark badK _ lm w' h (fun x _ w1 _ => match1_any x w1))
  have HR := hid (show matchR lm = if marksB lm then (pairsL lm (lm.length / 2) (List.range lm.length), (mB lm (lm.length / 2) (List.range lm.length)).1, 0) else ([], 0, 2) from rfl)
  have HMB := hid (show marksB lm = (decide (lm.length % 2 = 0) && (decide (lm.length ≤ 16) && !lm.any badK)) from rfl)
  have HOK := hid (fun h => mOk_of (lm := lm) h)
  generalize hab : lm.any badK = bad at *
  clear hs hc hT hab
  by_cases h1 : lm.length % 2 = 0
  · have h1I : ((lm.length : Int) % 2 != 0) = false := by simp; omega
    by_cases h2 : lm.length ≤ 16
    · have h2I : decide ((lm.length : Int) > 16) = false := by simp; omega
      have hmk := @run_makeMap Tryd.prog
      go_enter Tryd.func19, Tryd.ntmps19
      go_upto_region 1 with fail
      obtain ⟨W0, e0, hz0', hb0, hc0, hf0⟩ := box_new w #[.slice a lm.length cap] 42
      rw [e0]
      clear e0
      have x0 : W0.cell? ⟨w.heap.size, 0, none⟩ = some (.slice a lm.length cap) := hc0 0
      have HB0 := hid hb0
      clear hc0 hf0
      go_wp2_with fail
      refine (HC.out W0 (HS.out.below hb0)).mono ?_
      rintro e w1 ⟨rfl, hb1⟩
      have x1 := bcs hb1 x0
      have HB1 := hid (HB0.out.trans (hb1.mono HB0.out.size))
      have hz1 : w.heap.size < w1.heap.size := by have := hb1.size; omega
      clear x0 hz0' hb0 hb1
      cases bad with
      | true =>
        go_wp2_with fail
        go_ret3
        have hr : matchR lm = ([], 0, 2) := by rw [HR.out, HMB.out]; simp
        exact ⟨⟨_, by rw [hr]; rfl, by rw [hr]; exact ⟨none, 0, rfl, by simp, .inl rfl⟩⟩, HB1.out⟩
      | false =>
        obtain ⟨w2, hup, hmem2, hg2⟩ := memo_made lm w1
        have HM2 := hid hmem2
        have hb2 : Below w1.heap.size w1 w2 := ((Below.refl _ _).alloc (Nat.le_refl _) _).grown hg2 (by simp) (fun k hk => by cases hk; exact Nat.le_refl _)
        have HB2 := hid (HB1.out.trans (hb2.mono HB1.out.size))
        have x2 := bcs hb2 x1
        have hz2 : w1.heap.size < w2.heap.size := hmem2.lt
        clear x1 hmem2 hg2 hb2
        go_upto_region 5 with fail
        obtain ⟨W3, hW3⟩ : ∃ W3, (w2.alloc (.cells #[.map (some w1.heap.size)] 95)).alloc (.cells #[.nilFunc] 96) = W3 := ⟨_, rfl⟩
        rw [hW3]
        have hb3 : Below w2.heap.size w2 W3 := by rw [← hW3]; exact ((Below.refl _ _).alloc (Nat.le_refl _) _).alloc (by simp) _
        have y0 : W3.cell? ⟨w2.heap.size, 0, none⟩ = some (.map (some w1.heap.size)) := by rw [← hW3]; exact cell_old (cell_new w2 _ _ 0 _ rfl)
        have y1 : W3.cell? ⟨w2.heap.size + 1, 0, none⟩ = some .nilFunc := by
          rw [← hW3]; have := cell_new (w2.alloc (.cells #[.map (some w1.heap.size)] 95)) #[.nilFunc] 96 0 _ rfl
          rw [World.size_alloc] at this; exact this
        have yf : W3.frozen? ⟨w2.heap.size + 1, 0, none⟩ = false := by
          rw [← hW3]; have := World.frozen?_alloc_new (w2.alloc (.cells #[.map (some w1.heap.size)] 95)) #[.nilFunc] 96 0
          rw [World.size_alloc] at this; exact this
        have hz3 : w2.heap.size + 2 ≤ W3.heap.size := by rw [← hW3]; simp
        have x3 := bcs hb3 x2
        have HM3 := hid (HM2.out.below hb3)
        have HB3 := hid (HB2.out.trans (hb3.mono HB2.out.size))
        clear hW3 hb3 x2
        go_upto_region 6 with fail
        obtain ⟨W4, hW4⟩ : ∃ W4, W3.setCell ⟨w2.heap.size + 1, 0, none⟩ (.func (.func 49) #[] #[.pointer (some ⟨w2.heap.size, 0, none⟩), .pointer (some ⟨w2.heap.size + 1, 0, none⟩), .pointer (some ⟨w.heap.size, 0, none⟩)]) = W4 := ⟨_, rfl⟩
        rw [hW4]
        have hwl : w.heap.size < w2.heap.size := by omega
        have u0 : W4.cell? ⟨w2.heap.size, 0, none⟩ = some (.map (some w1.heap.size)) := by rw [← hW4, World.cell?_setCell_other _ _ _ _ (by simp)]; exact y0
        have u1 : W4.cell? ⟨w2.heap.size + 1, 0, none⟩ = some (.func (.func 49) #[] #[.pointer (some ⟨w2.heap.size, 0, none⟩), .pointer (some ⟨w2.heap.size + 1, 0, none⟩), .pointer (some ⟨w.heap.size, 0, none⟩)]) := by rw [← hW4]; exact World.cell?_setCell_same _ _ _ y1
        have u2 : W4.cell? ⟨w.heap.size, 0, none⟩ = some (.slice a lm.length cap) := by rw [← hW4, World.cell?_setCell_other _ _ _ _ (by intro e; injection e; omega)]; exact x3
        have hb4 : Below w.heap.size w W4 := by rw [← hW4]; exact HB3.out.setCell (p := ⟨w2.heap.size + 1, 0, none⟩) (by simp only; omega) _
        have hm4 : MemoB lm W4 w1.heap.size (fun s => s = 0) := by rw [← hW4]; exact HM3.out.grown (setCell_grown _ _ _ _) (by omega)
        have hbw : BestW lm W4 w2.heap.size (w2.heap.size + 1) w.heap.size w1.heap.size (.slice a lm.length cap) := ⟨u0, u1, u2, HS.out.below hb4, HT.out.below' hb4⟩
        have HBW := hid hbw
        have HM4 := hid hm4
        have HB4 := hid hb4
        have hz4 : w2.heap.size + 2 ≤ W4.heap.size := by rw [← hW4]; simpa using hz3
        clear hW4 y0 y1 yf x3 hz3 hm4 hb4 hbw u0
        have hmk2 := HOK.out trivial
        have hwp : IntKind.u64.wrap ((2 : Int) ^ lm.length) = ((2 ^ lm.length : Nat) : Int) := wrap_pow (by omega)
        have hq1 : 1 ≤ 2 ^ lm.length := Nat.one_le_two_pow
        have hq2 : 2 ^ lm.length ≤ 2 ^ 16 := Nat.pow_le_pow_right (by decide) h2
        have hel := elems_full lm.length (by omega)
        obtain ⟨q, hqe⟩ : ∃ q, q = 2 ^ lm.length - 1 := ⟨_, rfl⟩
        rw [← hqe] at hel
        have hqI : ((2 ^ lm.length : Nat) : Int) - 1 = (q : Int) := by omega
        have hwq : IntKind.u64.wrap (((2 ^ lm.length : Nat) : Int) - 1) = (q : Int) := by rw [hqI, IntKind.wrap_u64]; omega
        have hql : q < 65536 := by omega
        have HBEST := hid (best_any lm hmk2 _ _ _ _ _ (lm.length / 2) q (fun s => s = 0) W4 (by omega) hql (by rw [hel, List.length_range]; omega) (fun i hi => by rw [hel] at hi; simpa using hi) HBW.out HM4.out)
        rw [hel] at HBEST
        have HEL := hid hel
        have HQ := hid (And.intro hqI hwq)
        have HMK := hid hmk2
        clear hel hqe hmk2 hqI
        generalize hqq : 2 ^ lm.length = qq at *
        clear hqq
        go_wp2_with fail
        refine HBEST.out.mono ?_
        rintro e w5 ⟨rfl, ⟨D, hm5, _, hDq⟩, hg5⟩
        have hbw5 := HBW.out.kept hg5 HM4.out.row
        have HM5 := hid hm5
        have HBW5 := hid hbw5
        have HB5 := hid (HB4.out.grown hg5 HB4.out.size (fun k hk => by cases hk; omega))
        have hz5 : w2.heap.size + 2 ≤ w5.heap.size := by have := hg5.size; omega
        have hDq' := hid hDq
        have HRR := hid (show matchR lm = (pairsL lm (lm.length / 2) (List.range lm.length), (mB lm (lm.length / 2) (List.range lm.length)).1, 0) by rw [HR.out, HMB.out]; simp [h1, h2])
        have HPL := hid (pairsL_length lm (lm.length / 2) (List.range lm.length))
        clear hm5 hbw5 hg5 hDq HBEST u1 u2 hwp hmk HR HMB HOK HC
        generalize hms : (mB lm (lm.length / 2) (List.range lm.length)).1 = ms at *
        generalize hps : pairsL lm (lm.length / 2) (List.range lm.length) = ps at *
        have HPS := hid hps
        clear hms hps
        obtain ⟨i0, hi, hz0, hz1, hz2⟩ := info_parts info33
        go_wp2_with fail
        go_loopw [7, 2] (fun t v wr => ∃ (x k : Nat) (pre : List (Int × Int)), t = .int .u64 x ∧ x ≤ q ∧ k ≤ 8 ∧ (elems x).length = 2 * k ∧ ps = pre ++ pairsL lm k (elems x) ∧ (∀ i ∈ elems x, i < lm.length) ∧ D x ∧ wr.ownsRow w5.heap.size 33 2 v pre.length (pre.flatMap cells2) ∧ Below w5.heap.size w5 wr) (fun t _ _ => (intOf t).toNat)
        case atStart => exact ⟨q, lm.length / 2, [], rfl, Nat.le_refl _, by omega, by rw [HEL.out, List.length_range]; omega, by rw [HEL.out, HPS.out]; rfl, by rw [HEL.out]; intro i hi; simpa using hi, hDq'.out, World.ownsRow_nil _ _ _ _, Below.refl _ _⟩
        case round =>
          obtain ⟨x, k, pre, rfl, hxq, hk8, hxl, hpp, hxi, hDx, hown, hb⟩ := hrel
          obtain ⟨w6, rfl⟩ : ∃ w6 : World, w6 = wr := ⟨_, rfl⟩
          have HPP := hid hpp
          have HXI := hid hxi
          have HOWN := hid hown
          have HB6 := hid hb
          by_cases hx0 : x = 0
          · subst hx0
            have hfin : ps = pre := by
              have := HPP.out
              rw [elems_zero] at this
              cases k with
              | zero => simpa [pairsL] using this
              | succ k => rw [elems_zero] at hxl; simp at hxl
            have HFIN := hid hfin
            clear hfin hpp hxi hown hb
            go_wp2_with fail
            go_ret3
            refine ⟨⟨_, by rw [HRR.out]; rfl, ?_⟩, HB5.out.trans (HB6.out.mono HB5.out.size)⟩
            rw [HRR.out]
            show SlK w6 _ ps
            rw [HFIN.out]
            refine own_SlK HOWN.out ?_
            have := HPL.out
            rw [HFIN.out] at this
            omega
          · have hx64 : x < 18446744073709551616 := by omega
            have hne : ((x : Int) != 0) = true := by simp; omega
            obtain ⟨k, rfl⟩ : ∃ k', k = k' + 1 := by
              cases k with
              | zero => exact absurd (List.length_eq_zero_iff.1 hxl) (elems_ne hx0 hx64)
              | succ k => exact ⟨k, rfl⟩
            have hel := elems_low hx0 hx64
            have hal := low_lt x hx0 hx64
            have hmem6 := HM5.out.below hb
            obtain ⟨X, Y, o, hlk1, hlk2, hof, hoD, hox⟩ := hmem6.look x
            obtain rfl : o = true := hoD.2 hDx
            obtain ⟨hX, hY⟩ := hox rfl
            rw [show (elems x).length / 2 = k + 1 by omega] at hX hY
            have hwith := mB_with HMK.out k (low x) (elems (clr x (low x))) (by rw [← hel]; exact hxl)
            rw [← hel] at hwith
            have hclo : D (clr (clr x (low x)) (mB lm (k + 1) (elems x)).2) := by
              obtain ⟨M, _, _, _, _, h⟩ := HM5.out
              exact h x hDx hx0 _ hwith
            have hpl : pairsL lm (k + 1) (elems x) = ((low x : Int), ((mB lm (k + 1) (elems x)).2 : Int)) :: pairsL lm k ((elems (clr x (low x))).erase (mB lm (k + 1) (elems x)).2) := by rw [hel]; rfl
            have hf := fun n => first_s x hx0 hx64 (w6.drewN n) (HBW5.out.below hb).tab
            have hw1 := fun w' => without_s x (low x) w' hx64 hal
            have hb64 : (mB lm (k + 1) (elems x)).2 < 64 := by
              have := (elems_mem (s := clr x (low x)) (by have := clr_le x (low x); omega)).1 hwith
              have h3 := elems_lt (n := 64) (by have := clr_le x (low x); omega) (by omega) hwith
              exact h3
            have hw2 := fun w' => without_s (clr x (low x)) (mB lm (k + 1) (elems x)).2 w' (by have := clr_le x (low x); omega) hb64
            have hez := elems_erase (s := clr x (low x)) (i := (mB lm (k + 1) (elems x)).2) hb64 (by have := clr_le x (low x); omega)
            have hc1 := clr_le (clr x (low x)) (mB lm (k + 1) (elems x)).2
            have hc2 := low_clr_lt x hx0 hx64
            have hlen2 : ((elems (clr x (low x))).erase (mB lm (k + 1) (elems x)).2).length = 2 * k := by
              rw [List.length_erase_of_mem hwith]; rw [hel] at hxl; simp at hxl; omega
            have hlkn := fun n => hlk2 (w6.drewN n) (drewNB (Below.refl _ _) n)
            have hkn := (HBW5.out.below hb).known
            subst hX hY
            generalize (mB lm (k + 1) (elems x)).1 = mx at *
            generalize hbb : (mB lm (k + 1) (elems x)).2 = b at *
            generalize haa : low x = a2 at *
            generalize hyy : clr x a2 = y at *
            generalize hzz : clr y b = z at *
            rw [hpl] at HPP
            have HEZ := hid (And.intro hel hez)
            have HF := hid hf
            have HW1 := hid hw1
            have HW2 := hid hw2
            have hxi2 : ∀ i ∈ elems z, i < lm.length := fun i hi => HXI.out i (by rw [hel]; rw [hez] at hi; exact List.mem_cons_of_mem _ (List.mem_of_mem_erase hi))
            have HXI2 := hid hxi2
            have HLEN := hid hlen2
            have HCLO := hid hclo
            have hprel : pre.length ≤ 8 := by have := HPL.out; rw [HPP.out] at this; simp at this; omega
            have hlk0 := hlkn 0
            rw [show w6.drewN 0 = w6 from rfl] at hlk0
            have HLKN := hid hlkn
            clear hpl hel hez hf hw1 hw2 hxi hxi2 hwith hclo hlen2 hpp hbb haa hyy hzz hown hb hlk1 hlk2 hof hoD hox hmem6 hxl
            have hfld : ∀ (p q : Int) (w : World), (Instr.field 94 (.agg #[.int .i64 p, .int .i64 q]) 1).run Tryd.prog w = .ok (.int .i64 q) w := fun _ _ _ => by kernel_rfl
            go_upto_region 9 with fail
            go_cut [8, 9] (fun t u wx => t = .int .i64 (a2 : Int) ∧ u = .int .i64 (b : Int) ∧ ∃ n, wx = w6.drewN n)
            case first =>
              have hl1 := hlkn 1
              have hc1 : (w6.drewN 1).cell? ⟨w2.heap.size, 0, none⟩ = some (.map (some w1.heap.size)) := hkn
              go_region_held3 (fun w' => w'.cell? ⟨w2.heap.size, 0, none⟩ = some (.map (some w1.heap.size)) ∧ (Instr.lookup 95 (.map (some w1.heap.size)) (.int .u64 (x : Int)) false).run Tryd.prog w' = .ok (.agg #[.int .i64 mx, .int .i64 (b : Int)]) w')
                (first | assumption | (exact ⟨hc1, hl1⟩))
                ((go_at_call 50; refine (HF.out _).mono ?_; rintro e w' ⟨rfl, rfl⟩))
              all_goals
                go_wp2_with fail
                go_meet
                exact ⟨rfl, rfl, 1, rfl⟩
            case rest =>
            obtain ⟨rfl, rfl, nq, rfl⟩ := hcut
            clear hlkn
            obtain ⟨w7, hw7⟩ : ∃ w7, w6.drewN nq = w7 := ⟨_, rfl⟩
            have hown7 : w7.ownsRow w5.heap.size 33 2 u2 pre.length (pre.flatMap cells2) := by rw [← hw7]; exact HOWN.out
            have hb7 : Below w5.heap.size w5 w7 := by rw [← hw7]; exact drewNB HB6.out nq
            rw [hw7]
            have HB7 := hid hb7
            clear hw7
            go_upto_region 11 with (at_builtin; refine wpList_append_lies _ rfl _ _ 43 rfl w5.heap.size 33 i0 (.agg #[.int .i64 0, .int .i64 0]) 2 16 Tryd.underlying43 hi hz0 hz1 hz2 rfl (by omega) u2 pre.length _ rfl (hown7.alloc _) ⟨w7.heap.size, 0, none⟩ 1 1 [.int .i64 (a2 : Int), .int .i64 (b : Int)] rfl rfl (by intro j u hj; match j, hj with | 0, hj => simp at hj; subst hj; simp [Addr.add, go_sem] | 1, hj => simp at hj; subst hj; simp [Addr.add, go_sem]) (by intro u hu; simp at hu; rcases hu with rfl | rfl <;> rfl) (by omega) (by unfold maxLen; omega) (by omega) (by have := HB7.out.size; simp; omega) (w7.heap.size + 1) (by simp) ?_; intro g cap3 w8 hown8 hgrow8 hat8 hlt8)
            have hG8 : Below w5.heap.size w5 w8 := (hb7.alloc hb7.size _).grown hgrow8 (by have := HB7.out.size; simp; omega) (fun j hj => (hown7.lt j hj).1)
            have H8 := hid (And.intro hown8 hG8)
            clear hown8 hgrow8 hat8 hown7 hb7 hG8
            go_wp2_with fail
            refine (HW1.out _).mono ?_
            rintro e w' ⟨rfl, rfl⟩
            go_wp2_with fail
            refine (HW2.out _).mono ?_
            rintro e w' ⟨rfl, rfl⟩
            go_wp2_with fail
            refine ⟨⟨z, k, pre ++ [((a2 : Int), (b : Int))], rfl, by omega, by omega, by rw [HEZ.out.2]; exact HLEN.out, ?_, HXI2.out, HCLO.out, ?_, H8.out.2⟩, by simp [intOf]; omega⟩
            · rw [HPP.out, HEZ.out.2]; simp
            · have := H8.out.1
              rw [List.length_append, List.flatMap_append]
              exact this
    · have h2I : decide ((lm.length : Int) > 16) = true := by simp; omega
      go_enter Tryd.func19, Tryd.ntmps19
      go_upto_region 1 with fail
      obtain ⟨W0, e0, hz0', hb0, hc0, hf0⟩ := box_new w #[.slice a lm.length cap] 42
      rw [e0]
      clear e0
      have x0 : W0.cell? ⟨w.heap.size, 0, none⟩ = some (.slice a lm.length cap) := hc0 0
      have HB0 := hid hb0
      clear hc0 hf0 hb0
      go_wp2_with fail
      go_ret3
      have hr : matchR lm = ([], 0, 2) := by rw [HR.out, HMB.out]; simp [h2]
      exact ⟨⟨_, by rw [hr]; rfl, by rw [hr]; exact ⟨none, 0, rfl, by simp, .inl rfl⟩⟩, HB0.out⟩
  · have h1I : ((lm.length : Int) % 2 != 0) = true := by simp; omega
    go_enter Tryd.func19, Tryd.ntmps19
    go_upto_region 1 with fail
    obtain ⟨W0, e0, hz0', hb0, hc0, hf0⟩ := box_new w #[.slice a lm.length cap] 42
    rw [e0]
    clear e0
    have x0 : W0.cell? ⟨w.heap.size, 0, none⟩ = some (.slice a lm.length cap) := hc0 0
    have HB0 := hid hb0
    clear hc0 hf0 hb0
    go_wp2_with fail
    go_ret3
    have hr : matchR lm = ([], 0, 2) := by rw [HR.out, HMB.out]; simp [h1]
    exact ⟨⟨_, by rw [hr]; rfl, by rw [hr]; exact ⟨none, 0, rfl, by simp, .inl rfl⟩⟩, HB0.out⟩
end Go.Proofs.YtjjphiecjhijiaaDoor
