import Derived.Test.YtjjphiecjhijiaaDoorC1
import Derived.Deep.DeepCutAuto
import Derived.Deep.Draws
namespace Go.Proofs.YtjjphiecjhijiaaDoor
open Go.RowKit Go.Maps

theorem alloc_drewN (w : World) (n : Nat) (o : Obj) : (w.drewN n).alloc o = (w.alloc o).drewN n := rfl
theorem setCell_drewN (w : World) (n : Nat) (a : Addr) (v : Value) : (w.drewN n).setCell a v = (w.setCell a v).drewN n := rfl
attribute [local go_sem] alloc_drewN setCell_drewN
theorem info77 : (Tryd.prog.info? 77).map (fun i => (i.zero, i.size, i.bytes)) = some (some (.map none), 1, 8) := by kernel_rfl
/-- A row of maps, some of them made. -/
def arrV (c : Nat → Option Nat) (n : Nat) : List Value := (List.range n).map fun i => .map (c i)
theorem make77 (w : World) (n : Nat) (hn : n ≤ 1000) : ∃ w', (Instr.makeSlice 70 (.int .i64 (n : Int)) (.int .i64 (n : Int))).run Tryd.prog w = .ok (.slice (some ⟨w.heap.size, 0, none⟩) n n) w' ∧
    w'.ownsRow w.heap.size 77 1 (.slice (some ⟨w.heap.size, 0, none⟩) n n) n (arrV (fun _ => none) n) ∧ w.grownBy w' none := by
  obtain ⟨i0, hi, hz0, hz1, hz2⟩ := info_parts info77
  obtain ⟨w', h1, h2, h3⟩ := run_makeSlice_full (P := Tryd.prog) (w := w) w.heap.size 70 77 i0 (.map none) 1 Tryd.underlying70 hi hz0 hz1 .i64 .i64 n (by omega) (by rw [hz2]; omega) (by unfold maxLen; omega) (Nat.le_refl _)
  refine ⟨w', h1, ?_, h3⟩
  have : (madeCells (Value.cells (.map none)) (n * 1)).toList = arrV (fun _ => none) n := by
    simp [madeCells, arrV, Value.cells, Nat.mod_one]
  rw [← this]; exact h2
theorem arrV_set (c : Nat → Option Nat) (n j b : Nat) : (arrV c n).set j (.map (some b)) = arrV (fun i => if i = j then some b else c i) n := by
  unfold arrV
  apply List.ext_getElem
  · simp
  · intro i h1 h2
    rw [List.getElem_set]
    by_cases e : j = i
    · subst e; simp
    · simp [e, Ne.symm e]
theorem far {w w' : World} {X B o : Nat} {v : Value} (hg : w.grownBy w' (some X)) (hc : w.cell? ⟨B, o, none⟩ = some v) (hne : B ≠ X) : w'.cell? ⟨B, o, none⟩ = some v :=
  (World.cell?_of_block (a := ⟨B, o, none⟩) (hg.block _ (cell_lt hc) (fun h => hne (Option.some.inj h)))).trans hc
theorem arrV_get (c : Nat → Option Nat) (n j : Nat) (h : j < n) : (arrV c n)[j]? = some (.map (c j)) := by simp [arrV, h]
theorem own_low {w w' : World} {base B sz n cap g : Nat} {t : TypeId} {xs : List Value} (h : w.ownsRow base t sz (.slice (some ⟨g, 0, none⟩) n cap) n xs) (hg : g < B) (hb : Below B w w') : w'.ownsRow base t sz (.slice (some ⟨g, 0, none⟩) n cap) n xs := by
  refine ⟨h.1, ?_⟩
  rcases h.2 with h0 | ⟨g', cap', cur, h', hgb, hh, hnc, hcm, hcs, htake⟩
  · exact .inl h0
  · simp only [Value.slice.injEq, Option.some.injEq, Addr.mk.injEq, and_true, true_and] at h'
    obtain ⟨rfl, rfl⟩ := h'
    exact .inr ⟨g, cap, cur, rfl, hgb, by rw [hb.block g hg]; exact hh, hnc, hcm, hcs, htake⟩
theorem arr_store {w : World} {base n cap g j b : Nat} {c : Nat → Option Nat} (h : w.ownsRow base 77 1 (.slice (some ⟨g, 0, none⟩) n cap) n (arrV c n)) : (w.setCell ⟨g, j, none⟩ (.map (some b))).ownsRow base 77 1 (.slice (some ⟨g, 0, none⟩) n cap) n (arrV (fun i => if i = j then some b else c i) n) := by
  have := (World.ownsRow.stored h j (.map (some b))).1
  rwa [arrV_set] at this
theorem ch_store {w : World} {base n cap g b : Nat} {xs : List Value} {f : Int × Int → Option (Int × Nat)} (h : ChF w b f) (ho : w.ownsRow base 77 1 (.slice (some ⟨g, 0, none⟩) (n + 1) cap) (n + 1) xs) (j : Nat) (u : Value) : ChF (w.setCell ⟨g, j, none⟩ u) b f := by
  refine MapF.block h (heap_setCell_other w ⟨g, j, none⟩ b u ?_)
  have := map_ne_row h ho
  intro e
  exact this (by rw [e]; rfl)
/-- The choices of an hour: of those states that were gone through. -/
def PlantD.part (p : PlantD) (h : Nat) (left : List (Int × Int)) (f : Int × Int → Option (Int × Nat)) : Prop :=
  (∀ s, p.reach h s → s ∉ left → f s = p.bst (p.loads.length - h) s) ∧ ∀ s, (¬ p.reach h s ∨ s ∈ left) → f s = none
def ChoicesPost (p : PlantD) (w : World) (e : Ending) (w' : World) : Prop :=
  ∃ v cs, e = .returned v ∧ SlV w' v (p.loads.length + 1) (mapsV cs (p.loads.length + 1)) ∧ (∀ h, h ≤ p.loads.length → ∃ f, ChF w' (cs h) f ∧ p.part h [] f) ∧ Below w.heap.size w w'

set_option maxRecDepth 100000 in
set_option maxHeartbeats 1000000 in
/-- plant.choices -/
theorem choices_any (b : Nat) (p : PlantD) (w : World) (hp : PObj w b p) (hT : TabW w) (ho : p.Ok) :
    Calls Tryd.prog 37 #[.pointer (some ⟨b, 0, none⟩)] w (ChoicesPost p w) := by
  have HP := hid hp
  have hblt := hp.lt
  have hpw := pow_small (m := p.m) ho.few
  have hday := ho.day
  have hmm := @run_makeMap Tryd.prog
  go_enter Tryd.func37, Tryd.ntmps37
  go_wp2_with fail
  refine (reached_any b p w hp ho).mono ?_
  rintro e w1 ⟨vr, bs, rfl, hSl, hsets, hb1⟩
  obtain ⟨ar, cr, rfl, hlr, h0 | ⟨g, og, rfl, hglt, hcr⟩⟩ := hSl
  · omega
  have HSETS := hid hsets
  have HCR := hid hcr
  have HP1 := hid (hp.below hb1)
  clear hp hsets hcr
  obtain ⟨W2, hmk, hown2, hg2⟩ := make77 w1 (p.loads.length + 1) (by omega)
  have hb2 : Below w1.heap.size w1 W2 := (Below.refl _ _).grown hg2 (Nat.le_refl _) (fun k hk => by cases hk)
  have HP2 := hid (HP1.out.below hb2)
  obtain ⟨vl, vp, vm, vc, vw, e0, e1, e2, e3, e4, e5, e6, e7, hl, hpp, hm, hc, hw⟩ := HP1.out
  obtain ⟨al, cl, rfl, hll, hlc⟩ := hl.open
  obtain ⟨ac, cc, rfl, hll2, hlc2⟩ := hc.open
  rw [coldL_length] at e6 hll2
  obtain ⟨q, hqe⟩ : ∃ q, 2 ^ p.m = q := ⟨_, rfl⟩
  have HQ := hid hqe
  rw [hqe] at hpw e6 hll2
  clear hqe hlc2
  have HLC := hid hlc
  have HOWN2 := hid hown2
  have hX := hown2.lt _ rfl
  have hXc := hown2.cellAt p.loads.length (by omega)
  have hXf := hown2.frozenAt p.loads.length
  have hXu : (arrV (fun _ => none) (p.loads.length + 1))[p.loads.length]? = some (.map none) := by simp [arrV]
  rw [hXu] at hXc
  have g3 := bcs hb2 e3
  clear hlc hl hpp hm hc hw hown2 hg2 e0 e1 e2 e4 e5 e7 hXu
  rw [show ((p.loads.length + 1 : Nat) : Int) = (p.loads.length : Int) + 1 from rfl] at hmk
  go_upto_region 4 with fail
  obtain ⟨W3, hW3⟩ : ∃ W3, (W2.setCell ⟨w1.heap.size, p.loads.length, none⟩ (.map (some W2.heap.size))).alloc (.map #[] 0) = W3 := ⟨_, rfl⟩
  rw [hW3]
  have hz3 : W3.heap.size = W2.heap.size + 1 := by rw [← hW3]; simp
  have hA3 : W3.ownsRow w1.heap.size 77 1 (.slice (some ⟨w1.heap.size, 0, none⟩) (p.loads.length + 1) (p.loads.length + 1)) (p.loads.length + 1) (arrV (fun i => if i = p.loads.length then some W2.heap.size else none) (p.loads.length + 1)) := by
    rw [← hW3]; exact (arr_store HOWN2.out).alloc _
  have hC3 : ChF W3 W2.heap.size (fun _ => none) := by
    have := ChF.made (W2.setCell ⟨w1.heap.size, p.loads.length, none⟩ (.map (some W2.heap.size)))
    rw [hW3] at this
    simpa using this
  have hb3 : Below w1.heap.size w1 W3 := by
    rw [← hW3]; exact (hb2.setCell (Nat.le_refl _) _).alloc (by simp; omega) _
  have hbW : b < W2.heap.size := by have := hb1.size; omega
  have hi0 : (0 : Int) ≤ (p.loads.length : Int) := by omega
  have hi1 : (p.loads.length : Int) < (p.loads.length : Int) + 1 := by omega
  have HA3 := hid hA3
  have HC3 := hid hC3
  obtain ⟨M, hMF, hMi, hMt⟩ := HSETS.out p.loads.length (by omega)
  have hMF3 : MapF enc2 W3 (bs p.loads.length) M := hMF.below hb3 hMF.lt
  have hbl := hMF.lt
  obtain ⟨clock, left0, hrg, hit0, hnd0, hmem0⟩ := hMF3.range (P := Tryd.prog) Tryd.underlying134
  have HIT := hid (And.intro hit0 hmem0)
  have HM := hid (And.intro hMi hMt)
  rw [hz3] at hrg
  have hbI : Below W2.heap.size W3 (W3.alloc (.mapIter (some (bs p.loads.length)) clock #[] clock)) := (Below.refl _ _).alloc (by omega) _
  have hgc := bcs hb3 (HCR.out p.loads.length (by simp [mapsV]))
  simp only [mapsV, List.getElem_map, List.getElem_range] at hgc
  have k3 := bcs hb3 e3
  have HG := hid (And.intro g3 hb2)
  have HXF := hid (And.intro hXc hXf)
  clear hmk hA3 hC3 hMF hMi hMt hMF3 hit0 hmem0 hnd0 g3 hXc hXf hb2
  go_wp2_with fail
  go_loopw [] (fun wr => ∃ left f, IterF enc2 wr (W2.heap.size + 1) (bs p.loads.length) M left ∧ ChF wr W2.heap.size f ∧ p.part p.loads.length left f ∧ Below W2.heap.size W3 wr) (fun wr => leftN wr (W2.heap.size + 1) (bs p.loads.length))
  case atStart =>
    refine ⟨left0, _, by have := HIT.out.1; rwa [hz3] at this, HC3.out.below ((Below.refl _ _).alloc (Nat.le_refl _) _), ⟨?_, fun _ _ => rfl⟩, hbI⟩
    intro s hs hl
    exact absurd ((HIT.out.2 s).2 ((HM.out.1 s).2 hs)) hl
  case round =>
    obtain ⟨left, f, hit, hch, hpart, hbr⟩ := hrel
    obtain ⟨w4, rfl⟩ : ∃ w4 : World, w4 = wr := ⟨_, rfl⟩
    have hne1 := iter_ne_map hit hch
    rcases hit.next' (P := Tryd.prog) with ⟨rfl, hnx⟩ | ⟨s, v, w5, hs, hv, hnx, hit5, hat, hg5, hs5⟩
    · have k3' := rdB hbr hbW k3
      have hA4 := own_low HA3.out hX.2 hbr
      have hb4 : Below w1.heap.size w1 w4 := hb3.trans (hbr.mono (Nat.le_of_lt hX.2))
      have hszb := hb4.size
      have HA4 := hid hA4
      have HP0 := hid (And.intro hch hpart)
      have HB4 := hid hb4
      clear hit hch hpart hbr k3 hgc hbI hrg hne1 hA4 hb4 hb3
      go_wp2_with fail
      go_loopw [6] (fun h wr => ∃ (j : Nat) (cs : Nat → Nat), j ≤ p.loads.length ∧ h = .int .i64 ((j : Int) - 1) ∧ wr.ownsRow w1.heap.size 77 1 (.slice (some ⟨w1.heap.size, 0, none⟩) (p.loads.length + 1) (p.loads.length + 1)) (p.loads.length + 1) (arrV (fun i => if j ≤ i then some (cs i) else none) (p.loads.length + 1)) ∧ (∀ h, j ≤ h → h ≤ p.loads.length → ∃ f, ChF wr (cs h) f ∧ p.part h [] f) ∧ Below w1.heap.size w1 wr) (fun h _ => (intOf h + 1).toNat)
      case atStart =>
        refine ⟨p.loads.length, fun _ => W2.heap.size, Nat.le_refl _, by go_num, ?_, ?_, HB4.out⟩
        · have := HA4.out
          have e : arrV (fun i => if i = p.loads.length then some W2.heap.size else none) (p.loads.length + 1) = arrV (fun i => if p.loads.length ≤ i then some W2.heap.size else none) (p.loads.length + 1) := by
            unfold arrV
            apply List.map_congr_left
            intro i hi
            have : i < p.loads.length + 1 := by simpa using hi
            by_cases e : i = p.loads.length
            · simp [e]
            · simp [e, show ¬ p.loads.length ≤ i by omega]
          rw [← e]; exact this
        · intro h h1 h2
          obtain rfl : h = p.loads.length := by omega
          exact ⟨f, HP0.out⟩
      case round =>
        obtain ⟨j, cs, hj, rfl, hown, hcs, hb⟩ := hrel
        obtain ⟨wo, rfl⟩ : ∃ wo : World, wo = wr := ⟨_, rfl⟩
        have HOWN := hid hown
        have HCS := hid hcs
        clear hown hcs k3'
        by_cases hj0 : j = 0
        · subst hj0
          have hn1 : decide ((((0 : Nat) : Int) - 1) ≥ 0) = false := by decide
          go_wp2_with fail
          go_ret
          refine ⟨_, cs, rfl, ?_, fun h hh => HCS.out h (Nat.zero_le _) hh, hb1.trans (hb.mono hb1.size)⟩
          have hown := HOWN.out
          refine ⟨_, _, rfl, hlr, .inr ⟨w1.heap.size, 0, rfl, (hown.lt _ rfl).2, ?_⟩⟩
          intro i hi
          have hi' : i < p.loads.length + 1 := by simpa [mapsV] using hi
          rw [Nat.zero_add, hown.cellAt i (by omega), arrV_get _ _ i hi', if_pos (Nat.zero_le _)]
          simp [mapsV]
        · obtain ⟨k, rfl⟩ : ∃ k, j = k + 1 := ⟨j - 1, by omega⟩
          rw [show ((k + 1 : Nat) : Int) - 1 = (k : Int) by omega]
          have hXk := HOWN.out.cellAt k (by omega)
          rw [arrV_get _ _ k (by omega), if_neg (by omega)] at hXk
          have hXkf := HOWN.out.frozenAt k
          have hXlt : w1.heap.size < wo.heap.size := cell_lt hXk
          have hXne : ¬ wo.heap.size = w1.heap.size := by omega
          have hk0 : (0 : Int) ≤ (k : Int) := by omega
          have hk1 : (k : Int) < (p.loads.length : Int) + 1 := by omega
          go_upto_region 12 with fail
          obtain ⟨W8, hW8⟩ : ∃ W8, (wo.setCell ⟨w1.heap.size, k, none⟩ (.map (some wo.heap.size))).alloc (.map #[] 0) = W8 := ⟨_, rfl⟩
          rw [hW8]
          have hz8 : W8.heap.size = wo.heap.size + 1 := by rw [← hW8]; simp
          have hA8 : W8.ownsRow w1.heap.size 77 1 (.slice (some ⟨w1.heap.size, 0, none⟩) (p.loads.length + 1) (p.loads.length + 1)) (p.loads.length + 1) (arrV (fun i => if i = k then some wo.heap.size else if k + 1 ≤ i then some (cs i) else none) (p.loads.length + 1)) := by
            rw [← hW8]; exact (arr_store HOWN.out).alloc _
          have hC8 : ChF W8 wo.heap.size (fun _ => none) := by
            have := ChF.made (wo.setCell ⟨w1.heap.size, k, none⟩ (.map (some wo.heap.size)))
            rw [hW8] at this
            simpa using this
          have hO8 : ∀ i f, ChF wo i f → ChF W8 i f := by
            intro i f h
            rw [← hW8]
            exact (ch_store h HOWN.out k _).below ((Below.refl _ _).alloc (Nat.le_refl _) _)
          have hb8 : Below w1.heap.size w1 W8 := by
            rw [← hW8]; exact (hb.setCell (Nat.le_refl _) _).alloc (by simp; omega) _
          obtain ⟨f1, hf1, hp1⟩ := HCS.out (k + 1) (Nat.le_refl _) (by omega)
          have hf1lt := hf1.lt
          have HF1 := hid (And.intro (hO8 _ _ hf1) hp1)
          have HO8 := hid hO8
          have HA8 := hid hA8
          have HC8 := hid hC8
          have HB8 := hid hb8
          have HP8 := hid (HP1.out.below hb8)
          have HT8 := hid ((hT.below hb1 hT.lt).below hb8 (Nat.lt_of_lt_of_le hT.lt hb1.size))
          obtain ⟨M, hMF, hMi, hMt⟩ := HSETS.out k (by omega)
          have hMF8 : MapF enc2 W8 (bs k) M := hMF.below hb8 hMF.lt
          have hbl := hMF.lt
          obtain ⟨clock, left0, hrg, hit0, hnd0, hmem0⟩ := hMF8.range (P := Tryd.prog) Tryd.underlying134
          have HIT := hid (And.intro hit0 hmem0)
          have HM := hid (And.intro hMi hMt)
          rw [hz8] at hrg
          have hbI : Below wo.heap.size W8 (W8.alloc (.mapIter (some (bs k)) clock #[] clock)) := (Below.refl _ _).alloc (by omega) _
          have HBI := hid hbI
          have hgc := bcs hb8 (HCR.out k (by simp [mapsV]; omega))
          simp only [mapsV, List.getElem_map, List.getElem_range] at hgc
          clear hXk hXkf hW8 hA8 hC8 hO8 hb8 hf1 hp1 hMF hMi hMt hMF8 hit0 hmem0 hnd0 hbI
          go_wp2_with fail
          go_loopw [] (fun wr => ∃ left f, IterF enc2 wr (wo.heap.size + 1) (bs k) M left ∧ ChF wr wo.heap.size f ∧ p.part k left f ∧ Below wo.heap.size W8 wr) (fun wr => leftN wr (wo.heap.size + 1) (bs k))
          case atStart =>
            refine ⟨left0, _, by have := HIT.out.1; rwa [hz8] at this, HC8.out.below ((Below.refl _ _).alloc (Nat.le_refl _) _), ⟨?_, fun _ _ => rfl⟩, HBI.out⟩
            intro s hs hl
            exact absurd ((HIT.out.2 s).2 ((HM.out.1 s).2 hs)) hl
          case round =>
            obtain ⟨left, f, hit, hch, hpart, hbr⟩ := hrel
            obtain ⟨w4, rfl⟩ : ∃ w4 : World, w4 = wr := ⟨_, rfl⟩
            have hne1 := iter_ne_map hit hch
            rcases hit.next' (P := Tryd.prog) with ⟨rfl, hnx⟩ | ⟨s, v, w5, hs, hv, hnx, hit5, hat, hg5, hs5⟩
            · have H4 := hid (And.intro hch (And.intro hpart hbr))
              clear hit hch hpart hbr
              go_wp2_with fail
              go_roundw
              case rel =>
                have hbr := H4.out.2.2
                refine ⟨k, fun i => if i = k then wo.heap.size else cs i, by omega, by go_num, ?_, ?_, HB8.out.trans (hbr.mono (by have := hb.size; omega))⟩
                · have e : arrV (fun i => if i = k then some wo.heap.size else if k + 1 ≤ i then some (cs i) else none) (p.loads.length + 1) = arrV (fun i => if k ≤ i then some (if i = k then wo.heap.size else cs i) else none) (p.loads.length + 1) := by
                    unfold arrV
                    apply List.map_congr_left
                    intro i _
                    by_cases e : i = k
                    · simp [e]
                    · by_cases e2 : k + 1 ≤ i
                      · simp [e, e2, show k ≤ i by omega]
                      · simp [e, e2, show ¬ k ≤ i by omega]
                  rw [← e]
                  exact own_low HA8.out (show w1.heap.size < wo.heap.size by omega) hbr
                · intro h h1 h2
                  by_cases e : h = k
                  · subst e
                    simp only [if_true]
                    exact ⟨f, H4.out.1, H4.out.2.1⟩
                  · simp only [if_neg e]
                    obtain ⟨g, hg1, hg2⟩ := HCS.out h (by omega) h2
                    exact ⟨g, MapF.below (HO8.out _ _ hg1) hbr hg1.lt, hg2⟩
              case measure => simp [intOf]
            · have hch5 := hch.grown hg5 (fun h => hne1 (Option.some.inj h).symm)
              have hbr5 : Below wo.heap.size W8 w5 := hbr.grown hg5 (by have := hbr.size; omega) (fun k hk => by cases hk; omega)
              have hent := hat.entry (P := Tryd.prog)
              have HL := hid hit.left_eq
              simp only [enc2] at hnx hent
              have HIT5 := hid hit5
              have HCH5 := hid hch5
              have HBR5 := hid hbr5
              have HPT := hid hpart
              have HS := hid hs
              have hrs : p.reach k s := (HM.out.1 s).1 (by rw [hv]; rfl)
              have hrbd := reach_bd ho k s hrs
              have HRS := hid hrs
              clear hit hch hit5 hat hg5 hch5 hbr5 hbr hs hv hne1 hpart hrs
              go_upto_region 15 with fail
              obtain ⟨W6, e6', hz6, hb6, hc6, hf6⟩ := box_new w5 #[.int .i64 s.1, .int .i64 s.2] 73
              rw [e6']; clear e6'
              rw [hs5] at hc6
              obtain ⟨sh, s2⟩ := s
              obtain ⟨hh1, hh2, sn, hsn, hsn2⟩ := hrbd
              simp only at hsn hh1 hh2 hnx hc6
              subst hsn
              rw [HQ.out] at hsn2
              have hx0 := hc6 0
              have hx1 := hc6 1
              simp only [List.getElem?_toArray, List.getElem?_cons_zero, List.getElem?_cons_succ] at hx0 hx1
              have hb6' : Below wo.heap.size W8 W6 := HBR5.out.trans (hb6.mono (Nat.le_trans (by omega) HBR5.out.size))
              have HB6 := hid hb6'
              have hw4 : wo.heap.size + 1 < w4.heap.size := by have := HIT5.out.lt.2; omega
              have k6 := rdB hb6' (by have := hb.size; have := hb1.size; omega) (bcs HB8.out e6)
              have HI6 := hid (HIT5.out.below hb6)
              have HC6 := hid (HCH5.out.below hb6)
              clear hc6 hf6 hb6 hz6 hent
              go_wp2_with fail
              go_loopw [82] (fun h wr => ∃ (n : Nat) (f' : Int × Int → Option (Int × Nat)), n ≤ q ∧ h = .int .i64 n ∧ IterF enc2 wr (wo.heap.size + 1) (bs k) M (left.filter (fun k' => decide (k' ≠ (sh, (sn : Int))))) ∧ ChF wr wo.heap.size f' ∧ (∀ s', s' ≠ (sh, (sn : Int)) → f' s' = f s') ∧ f' (sh, (sn : Int)) = p.step k (p.bst (p.loads.length - (k + 1))) (sh, (sn : Int)) n ∧ Below wo.heap.size W8 wr ∧ wr.cell? ⟨w4.heap.size, 0, none⟩ = some (.int .i64 sh) ∧ wr.cell? ⟨w4.heap.size, 1, none⟩ = some (.int .i64 sn)) (fun h _ => q - (intOf h).toNat)
              case atStart =>
                exact ⟨0, f, Nat.zero_le _, rfl, HI6.out, HC6.out, fun _ _ => rfl, HPT.out.2 _ (.inr HS.out), HB6.out, hx0, hx1⟩
              case round =>
                obtain ⟨n, f', hn, rfl, hit, hch, hfo, hfs, hbr, hx0, hx1⟩ := hrel
                obtain ⟨w7, rfl⟩ : ∃ w7 : World, w7 = wr := ⟨_, rfl⟩
                by_cases hnl : n < q
                · have hb7 : Below w1.heap.size w1 w7 := HB8.out.trans (hbr.mono (by have := hb.size; omega))
                  have hA7 := own_low HA8.out (show w1.heap.size < wo.heap.size by omega) hbr
                  have hX1 := hA7.cellAt (k + 1) (by omega)
                  rw [arrV_get _ _ (k + 1) (by omega), if_neg (by omega), if_pos (by omega)] at hX1
                  have hX0 := hA7.cellAt k (by omega)
                  rw [arrV_get _ _ k (by omega), if_pos rfl] at hX0
                  have hF7 : ChF w7 (cs (k + 1)) f1 := MapF.below HF1.out.1 hbr hf1lt
                  have HP7 := hid (HP1.out.below hb7)
                  have HT7 := hid ((hT.below hb1 hT.lt).below hb7 (Nat.lt_of_lt_of_le hT.lt hb1.size))
                  have HNQ := hid (show n < 2 ^ p.m by rw [HQ.out]; exact hnl)
                  have hget := hF7.get (p.next k sh n, (n : Int))
                  have hcb : ∀ c, f1 (p.next k sh n, (n : Int)) = some c → 0 ≤ c.1 ∧ c.1 ≤ 48 * 4000004000000 := by
                    intro c hc
                    by_cases hre : p.reach (k + 1) (p.next k sh n, (n : Int))
                    · rw [HF1.out.2.1 _ hre (by simp)] at hc
                      have := bst_bd ho _ _ _ hc
                      omega
                    · rw [HF1.out.2.2 _ (.inl hre)] at hc; cases hc
                  have hce : f1 (p.next k sh n, (n : Int)) = if p.next k sh n ≤ p.high then p.bst (p.loads.length - (k + 1)) (p.next k sh n, (n : Int)) else none := by
                    split
                    · rename_i hle
                      exact HF1.out.2.1 _ ⟨_, HRS.out, n, HNQ.out, hle, rfl⟩ (by simp)
                    · rename_i hle
                      refine HF1.out.2.2 _ (.inl ?_)
                      rintro ⟨s0, _, n0, _, h1, h2⟩
                      have e1 := congrArg Prod.fst h2
                      simp only at e1
                      omega
                  have hstep : p.step k (p.bst (p.loads.length - (k + 1))) (sh, (sn : Int)) (n + 1) = match f1 (p.next k sh n, (n : Int)) with | none => f' (sh, (sn : Int)) | some c => match f' (sh, (sn : Int)) with | none => some (c.1 + p.hcost k sn n, n) | some a => if c.1 + p.hcost k sn n < a.1 then some (c.1 + p.hcost k sn n, n) else some a := by
                    rw [hce, hfs]; rfl
                  have HSTEP := hid hstep
                  have HCB := hid hcb
                  clear hcb hce hstep
                  generalize hfc : f1 (p.next k sh n, (n : Int)) = fc at *
                  have HFC := hid hfc
                  clear hfc
                  have HK : ∀ w', Below w7.heap.size w7 w' → (w'.cell? ⟨w1.heap.size, k + 1, none⟩ = some (.map (some (cs (k + 1)))) ∧ w'.cell? ⟨w4.heap.size, 0, none⟩ = some (.int .i64 sh) ∧ (Instr.lookup 77 (.map (some (cs (k + 1)))) (.agg #[.int .i64 (p.next k sh n), .int .i64 n]) true).run Tryd.prog w' = .ok (.tuple #[.agg #[.int .i64 (fc.getD (0, 0)).1, .int .i64 ((fc.getD (0, 0)).2 : Int)], .bool fc.isSome]) w') := by
                    intro w' h
                    refine ⟨bcs h hX1, bcs h hx0, ?_⟩
                    have := (hF7.below h).get (p.next k sh n, (n : Int))
                    rwa [HFC.out] at this
                  have HKK := hid HK
                  have HPW := hid (fun w' (h : Below w7.heap.size w7 w') => HP7.out.below h)
                  have HH := hid (And.intro hit (And.intro hch (And.intro hfo (And.intro hfs hbr))))
                  have hw1 : IntKind.i64.wrap ((k : Int) + 1) = (k : Int) + 1 := IntWalk.i64_in _ (by omega)
                  have hi2 : (0 : Int) ≤ (k : Int) + 1 := by omega
                  have hi3 : (k : Int) + 1 < (p.loads.length : Int) + 1 := by omega
                  have hX7 : w1.heap.size < w7.heap.size := cell_lt hX1
                  have hB7 : w4.heap.size < w7.heap.size := cell_lt hx0
                  have hnn0 : ¬ w7.heap.size = w1.heap.size := by omega
                  have hnn1 : ¬ w7.heap.size = w4.heap.size := by omega
                  clear hit hch hfo hfs hbr hF7 HK hA7 hb7 hget
                  generalize hxx : p.next k sh n = x at *
                  have HXX := hid hxx
                  clear hxx
                  go_upto_region 18 with fail
                  go_cut [9, 10] (fun p9 b10 wx => ∃ B9, p9 = .pointer (some ⟨B9, 0, none⟩) ∧ b10 = .bool fc.isSome ∧ wx.cell? ⟨B9, 0, none⟩ = some (.int .i64 (fc.getD (0, 0)).1) ∧ Below w7.heap.size w7 wx)
                  case first =>
                    --F<
                    have hh := HKK.out w7 (Below.refl _ _)
                    obtain ⟨hh1, hh2, hh3⟩ := hh
                    go_region_held3 (fun w' => w'.cell? ⟨w1.heap.size, k + 1, none⟩ = some (.map (some (cs (k + 1)))) ∧ w'.cell? ⟨w4.heap.size, 0, none⟩ = some (.int .i64 sh) ∧ (Instr.lookup 77 (.map (some (cs (k + 1)))) (.agg #[.int .i64 x, .int .i64 n]) true).run Tryd.prog w' = .ok (.tuple #[.agg #[.int .i64 (fc.getD (0, 0)).1, .int .i64 ((fc.getD (0, 0)).2 : Int)], .bool fc.isSome]) w')
                      (first | (refine HKK.out _ ?_; repeat' (first | exact Below.refl _ _ | apply drewNB | apply Below.drew | (refine Below.alloc ?_ (by simp) _) | (refine Below.setCell ?_ (by simp) _))) | go_keep)
                      (first | (go_at_call 38; refine (heat_any b p k n sh _ (HPW.out _ ?_) ho (by omega) HNQ.out (by omega) (by omega)).mono ?_ ; (repeat' (first | exact Below.refl _ _ | apply drewNB | apply Below.drew | (refine Below.alloc ?_ (by simp) _) | (refine Below.setCell ?_ (by simp) _))); (rintro e w' ⟨rfl, kd, rfl⟩; rw [HXX.out])))
                    all_goals
                      go_wp2_with fail
                      go_meet
                      refine ⟨_, rfl, rfl, ?_, ?_⟩
                      · first | (simp; done) | (simp [World.cell?_alloc_new]; done) | exact World.cell?_alloc_new _ _ _ _
                      · repeat' (first | exact Below.refl _ _ | apply drewNB | apply Below.drew | (refine Below.alloc ?_ (by simp) _) | (refine Below.setCell ?_ (by simp) _))
                    --F>
                  case rest =>
                    obtain ⟨B9, rfl, rfl, hc9, hb9⟩ := hcut
                    obtain ⟨w9, rfl⟩ : ∃ w9 : World, w9 = wc := ⟨_, rfl⟩
                    have hb9' := hid hb9
                    cases fc with
                    | none =>
                      have HST : p.step k (p.bst (p.loads.length - (k + 1))) (sh, (sn : Int)) (n + 1) = f' (sh, (sn : Int)) := HSTEP.out
                      clear hc9 hb9
                      simp only [Option.isSome_none]
                      go_wp2_with fail
                      have hsz : wo.heap.size ≤ w7.heap.size := by have := HH.out.2.2.2.2.size; omega
                      exact ⟨⟨n + 1, f', by omega, by go_num, HH.out.1.below hb9'.out, HH.out.2.1.below hb9'.out, HH.out.2.2.1, by rw [HST], HH.out.2.2.2.2.trans (hb9'.out.mono hsz), bcs hb9'.out hx0, bcs hb9'.out hx1⟩, by simp [intOf]; omega⟩
                    | some c =>
                      simp only [Option.isSome_some, Option.getD_some] at hc9 ⊢
                      have hcb := HCB.out c rfl
                      have hhb := Ok_hcost ho k sn n
                      have HP9 := hid (fun w' (h : Below w9.heap.size w9 w') => HP1.out.below ((HB8.out.trans (HH.out.2.2.2.2.mono (by have := hb.size; omega))).trans ((hb9'.out.trans (h.mono hb9'.out.size)).mono (by omega))))
                      have HT9 := hid (fun w' (h : Below w9.heap.size w9 w') => (HT7.out.below hb9'.out (Nat.lt_of_lt_of_le hT.lt (by have := hb1.size; omega))).below h (Nat.lt_of_lt_of_le hT.lt (by have := hb1.size; have := hb9'.out.size; omega)))
                      have g0 := bcs hb9'.out hx0
                      have g1 := bcs hb9'.out hx1
                      generalize hhc : p.hcost k sn n = hc at *
                      have HHC := hid hhc
                      clear hhc hb9
                      have hB9 : B9 < w9.heap.size := cell_lt hc9
                      have hB79 : w4.heap.size < w9.heap.size := cell_lt g0
                      have hnn2 : ¬ w9.heap.size = B9 := by omega
                      have hnn3 : ¬ w9.heap.size = w4.heap.size := by omega
                      have hw2 : IntKind.i64.wrap (c.1 + hc) = c.1 + hc := IntWalk.i64_in _ (by omega)
                      go_upto_region 20 with fail
                      go_cut [11] (fun p11 wx => ∃ B11, p11 = .pointer (some ⟨B11, 0, none⟩) ∧ wx.cell? ⟨B11, 0, none⟩ = some (.int .i64 (c.1 + hc)) ∧ wx.cell? ⟨B11, 1, none⟩ = some (.int .i64 n) ∧ w9.heap.size ≤ B11 ∧ Below w9.heap.size w9 wx)
                      case first =>
                        --F<
                        go_region_held3 (fun w' => w'.cell? ⟨B9, 0, none⟩ = some (.int .i64 c.1) ∧ w'.cell? ⟨w4.heap.size, 1, none⟩ = some (.int .i64 sn)) (go_keep)
                          (first | (go_at_call 65; refine (cost_any b p k sn n _ (HP9.out _ ?_) (HT9.out _ ?_) ho (by omega) HNQ.out (by omega)).mono ?_ ; (repeat' (first | exact Below.refl _ _ | apply drewNB | apply Below.drew | (refine Below.alloc ?_ (by simp) _) | (refine Below.setCell ?_ (by simp) _))); (rintro e w' ⟨rfl, kd, rfl⟩; rw [HHC.out])))
                        all_goals
                          go_wp2_with fail
                          go_meet
                          refine ⟨_, rfl, ?_, ?_, Nat.le_refl _, ?_⟩
                          · first | (simp; done) | (simp [World.cell?_alloc_new]; done) | exact World.cell?_alloc_new _ _ _ _
                          · first | (simp; done) | (simp [World.cell?_alloc_new]; done) | exact World.cell?_alloc_new _ _ _ _
                          · repeat' (first | exact Below.refl _ _ | apply drewNB | apply Below.drew | (refine Below.alloc ?_ (by simp) _) | (refine Below.setCell ?_ (by simp) _))
                        --F>
                      case rest =>
                        obtain ⟨B11, rfl, hc11, hd11, hge11, hb11⟩ := hcut
                        obtain ⟨w11, rfl⟩ : ∃ w11 : World, w11 = wc := ⟨_, rfl⟩
                        have H11 := hid hb11
                        have hH2 := HH.out.2.1
                        have hch9 := (HH.out.2.1.below hb9'.out).below hb11
                        have hA9 := own_low HA8.out (show w1.heap.size < wo.heap.size by omega) (HH.out.2.2.2.2.trans ((hb9'.out.trans (hb11.mono hb9'.out.size)).mono (by have := HH.out.2.2.2.2.size; omega)))
                        have hX0 := hA9.cellAt k (by omega)
                        rw [arrV_get _ _ k (by omega), if_pos rfl] at hX0
                        have hgt0 := (hch9.below (Below.refl _ _)).get (sh, (sn : Int))
                        have gg0 := bcs hb11 g0
                        have gg1 := bcs hb11 g1
                        have hii0 : (0 : Int) ≤ (k : Int) := by omega
                        have hii1 : (k : Int) < (p.loads.length : Int) + 1 := by omega
                        have hB11 : B11 < w11.heap.size := cell_lt hc11
                        have hX11 : w1.heap.size < w11.heap.size := cell_lt hX0
                        have hB711 : w4.heap.size < w11.heap.size := cell_lt gg0
                        have hmm0 : ¬ w11.heap.size = B11 := by omega
                        have hmm1 : ¬ w11.heap.size = w1.heap.size := by omega
                        have hmm2 : ¬ w11.heap.size = w4.heap.size := by omega
                        generalize hfa : f' (sh, (sn : Int)) = fa at *
                        have HFA := hid hfa
                        have HKL : ∀ w', Below w11.heap.size w11 w' → (w'.cell? ⟨w1.heap.size, k, none⟩ = some (.map (some wo.heap.size)) ∧ w'.cell? ⟨w4.heap.size, 0, none⟩ = some (.int .i64 sh) ∧ w'.cell? ⟨w4.heap.size, 1, none⟩ = some (.int .i64 sn) ∧ (Instr.lookup 77 (.map (some wo.heap.size)) (.agg #[.int .i64 sh, .int .i64 sn]) true).run Tryd.prog w' = .ok (.tuple #[.agg #[.int .i64 (fa.getD (0, 0)).1, .int .i64 ((fa.getD (0, 0)).2 : Int)], .bool fa.isSome]) w') := by
                          intro w' h
                          refine ⟨bcs h hX0, bcs h gg0, bcs h gg1, ?_⟩
                          have := (hch9.below h).get (sh, (sn : Int))
                          rwa [HFA.out] at this
                        have HKL2 := hid HKL
                        clear hfa HKL hgt0 hch9 hA9 hH2 hb11
                        go_upto_region 21 with fail
                        go_cut [12, 13] (fun p12 b13 wx => ∃ B12, p12 = .pointer (some ⟨B12, 0, none⟩) ∧ b13 = .bool fa.isSome ∧ wx.cell? ⟨B12, 0, none⟩ = some (.int .i64 (fa.getD (0, 0)).1) ∧ Below w11.heap.size w11 wx)
                        case first =>
                          --F<
                          have hh := HKL2.out w11 (Below.refl _ _)
                          obtain ⟨hh1, hh2, hh3, hh4⟩ := hh
                          go_region_held3 (fun w' => w'.cell? ⟨w1.heap.size, k, none⟩ = some (.map (some wo.heap.size)) ∧ w'.cell? ⟨w4.heap.size, 0, none⟩ = some (.int .i64 sh) ∧ w'.cell? ⟨w4.heap.size, 1, none⟩ = some (.int .i64 sn) ∧ (Instr.lookup 77 (.map (some wo.heap.size)) (.agg #[.int .i64 sh, .int .i64 sn]) true).run Tryd.prog w' = .ok (.tuple #[.agg #[.int .i64 (fa.getD (0, 0)).1, .int .i64 ((fa.getD (0, 0)).2 : Int)], .bool fa.isSome]) w')
                            (first | (refine HKL2.out _ ?_; repeat' (first | exact Below.refl _ _ | apply drewNB | apply Below.drew | (refine Below.alloc ?_ (by simp) _) | (refine Below.setCell ?_ (by simp) _))) | go_keep)
                            (fail)
                          all_goals
                            go_wp2_with fail
                            go_meet
                            refine ⟨_, rfl, rfl, ?_, ?_⟩
                            · first | (simp; done) | (simp [World.cell?_alloc_new]; done) | exact World.cell?_alloc_new _ _ _ _
                            · repeat' (first | exact Below.refl _ _ | apply drewNB | apply Below.drew | (refine Below.alloc ?_ (by simp) _) | (refine Below.setCell ?_ (by simp) _))
                          --F>
                        case rest =>
                          obtain ⟨B12, rfl, rfl, hc12, hb12⟩ := hcut
                          obtain ⟨w12, rfl⟩ : ∃ w12 : World, w12 = wc := ⟨_, rfl⟩
                          have hsz : wo.heap.size ≤ w7.heap.size := by have := HH.out.2.2.2.2.size; omega
                          have hb712 : Below w7.heap.size w7 w12 := hb9'.out.trans ((H11.out.trans (hb12.mono H11.out.size)).mono hb9'.out.size)
                          have q0 := bcs hb12 hX0
                          have q1 := bcs hb12 gg0
                          have q2 := bcs hb12 gg1
                          have q3 := bcs hb12 hc11
                          have q4 := bcs hb12 hd11
                          have hge12 : w7.heap.size ≤ w9.heap.size := hb9'.out.size
                          have hw78 : wo.heap.size < w7.heap.size := by have := HH.out.2.2.2.2.size; omega
                          have hchw := HH.out.2.1.below hb712
                          have HB712 := hid hb712
                          obtain ⟨w13, hup, hch13, hg13, hs13⟩ := (hchw.below ((Below.refl _ _).drew)).add (sh, (sn : Int)) (c.1 + hc, n)
                          have p0 := far hg13 (o := k) q0 (by omega)
                          have p1 := far hg13 (o := 0) q1 (by omega)
                          have p2 := far hg13 (o := 1) q2 (by omega)
                          have p3 := far hg13 (o := 0) q3 (by omega)
                          have p4 := far hg13 (o := 1) q4 (by omega)
                          have hbk1 : bs k ≠ wo.heap.size := by omega
                          have hit12 := HH.out.1.below hb712
                          have hit13 := (hit12.below ((Below.refl _ _).drew)).grown hg13 (by intro h; exact hbk1 (Option.some.inj h)) (by intro h; have : wo.heap.size + 1 = wo.heap.size := Option.some.inj h; omega)
                          have hwo12 : Below wo.heap.size W8 w12 := HH.out.2.2.2.2.trans (hb712.mono hsz)
                          have hwo13 : Below wo.heap.size W8 w13 := hwo12.drew.grown hg13 (by have := hb712.size; show wo.heap.size ≤ w12.heap.size; omega) (fun k hk => by have := Option.some.inj hk; omega)
                          have HU := hid (And.intro hch13 (And.intro hit13 hwo13))
                          have HN := hid (And.intro hchw (And.intro hit12 hwo12))
                          have HP1 := hid (And.intro p1 p2)
                          have HQ1 := hid (And.intro q1 q2)
                          clear hchw hch13 hg13 hs13 hit12 hit13 hwo12 hwo13 hb712 hb12
                          cases fa with
                          | none =>
                            have HST : p.step k (p.bst (p.loads.length - (k + 1))) (sh, (sn : Int)) (n + 1) = some (c.1 + hc, n) := HSTEP.out
                            simp only [Option.isSome_none]
                            go_upto_region 23 with fail
                            go_region_held3 (fun w' => w'.cell? ⟨w1.heap.size, k, none⟩ = some (.map (some wo.heap.size)) ∧ w'.cell? ⟨w4.heap.size, 0, none⟩ = some (.int .i64 sh) ∧ w'.cell? ⟨w4.heap.size, 1, none⟩ = some (.int .i64 sn) ∧ w'.cell? ⟨B11, 0, none⟩ = some (.int .i64 (c.1 + hc)) ∧ w'.cell? ⟨B11, 1, none⟩ = some (.int .i64 n)) (first | go_keep | (exact ⟨p0, p1, p2, p3, p4⟩)) (fail)
                            go_wp2_with fail
                            exact ⟨⟨n + 1, _, by omega, by go_num, HU.out.2.1, HU.out.1, fun s' hs' => by simp only [if_neg hs']; exact HH.out.2.2.1 s' hs', by rw [HST]; simp, HU.out.2.2, HP1.out.1, HP1.out.2⟩, by simp [intOf]; omega⟩
                          | some a =>
                            simp only [Option.isSome_some, Option.getD_some] at hc12 ⊢
                            by_cases hlt2 : c.1 + hc < a.1
                            · have hltb : decide (c.1 + hc < a.1) = true := by simp [hlt2]
                              have HST : p.step k (p.bst (p.loads.length - (k + 1))) (sh, (sn : Int)) (n + 1) = some (c.1 + hc, n) := by rw [HSTEP.out]; simp only; rw [if_pos hlt2]
                              go_upto_region 23 with fail
                              go_region_held3 (fun w' => w'.cell? ⟨w1.heap.size, k, none⟩ = some (.map (some wo.heap.size)) ∧ w'.cell? ⟨w4.heap.size, 0, none⟩ = some (.int .i64 sh) ∧ w'.cell? ⟨w4.heap.size, 1, none⟩ = some (.int .i64 sn) ∧ w'.cell? ⟨B11, 0, none⟩ = some (.int .i64 (c.1 + hc)) ∧ w'.cell? ⟨B11, 1, none⟩ = some (.int .i64 n)) (first | go_keep | (exact ⟨p0, p1, p2, p3, p4⟩)) (fail)
                              go_wp2_with fail
                              exact ⟨⟨n + 1, _, by omega, by go_num, HU.out.2.1, HU.out.1, fun s' hs' => by simp only [if_neg hs']; exact HH.out.2.2.1 s' hs', by rw [HST]; simp, HU.out.2.2, HP1.out.1, HP1.out.2⟩, by simp [intOf]; omega⟩
                            · have hltb : decide (c.1 + hc < a.1) = false := by simp [hlt2]
                              have HST : p.step k (p.bst (p.loads.length - (k + 1))) (sh, (sn : Int)) (n + 1) = some a := by rw [HSTEP.out]; simp only; rw [if_neg hlt2]
                              go_wp2_with fail
                              exact ⟨⟨n + 1, f', by omega, by go_num, HN.out.2.1, HN.out.1, HH.out.2.2.1, by rw [HST]; exact HFA.out, HN.out.2.2, HQ1.out.1, HQ1.out.2⟩, by simp [intOf]; omega⟩
                · have H8 := hid (And.intro hit (And.intro hch (And.intro hfo (And.intro hfs hbr))))
                  clear hit hch hfo hfs hbr
                  go_wp2_with fail
                  obtain rfl : n = q := by omega
                  refine ⟨⟨_, f', H8.out.1, H8.out.2.1, ⟨?_, ?_⟩, H8.out.2.2.2.2⟩, ?_⟩
                  · intro s' h1 h2
                    by_cases e : s' = (sh, (sn : Int))
                    · rw [e, H8.out.2.2.2.1, show p.loads.length - k = (p.loads.length - (k + 1)) + 1 by omega]
                      unfold PlantD.bst
                      rw [show p.loads.length - (p.loads.length - (k + 1) + 1) = k by omega, HQ.out]
                    · rw [H8.out.2.2.1 s' e]
                      exact HPT.out.1 s' h1 (fun hm => h2 (List.mem_filter.2 ⟨hm, by simp [e]⟩))
                  · intro s' h1
                    have e : s' ≠ (sh, (sn : Int)) := by
                      rintro rfl
                      rcases h1 with h1 | h1
                      · exact h1 HRS.out
                      · exact absurd (List.mem_filter.1 h1).2 (by simp)
                    rw [H8.out.2.2.1 s' e]
                    exact HPT.out.2 s' (h1.imp id (fun h => (List.mem_filter.1 h).1))
                  · rw [H8.out.1.left_eq, HL.out]
                    exact filter_lt HS.out
    · skip
      --F<
      have hch5 := hch.grown hg5 (fun h => hne1 (Option.some.inj h).symm)
      have hbr5 : Below W2.heap.size W3 w5 := hbr.grown hg5 (by have := hbr.size; omega) (fun k hk => by cases hk; omega)
      have hent := hat.entry (P := Tryd.prog)
      have HL := hid hit.left_eq
      simp only [enc2] at hnx hent
      have HIT5 := hid hit5
      have HCH5 := hid hch5
      have HBR5 := hid hbr5
      have HPT := hid hpart
      have HS := hid hs
      have HV := hid hv
      clear hit hch hit5 hat hg5 hch5 hbr5 hbr hs hv hne1 hpart
      go_upto_region 7 with fail
      obtain ⟨W6, e6', hz6, hb6, hc6, hf6⟩ := box_new w5 #[.int .i64 s.1, .int .i64 s.2] 73
      rw [e6']; clear e6'
      rw [hs5] at hc6
      have hx0 := hc6 0
      have hx1 := hc6 1
      simp only [List.getElem?_toArray, List.getElem?_cons_zero, List.getElem?_cons_succ] at hx0 hx1
      have hb6' : Below W2.heap.size W3 W6 := HBR5.out.trans (hb6.mono (Nat.le_trans (by omega) HBR5.out.size))
      have k3' := rdB hb6' hbW k3
      have hA6 := own_low HA3.out hX.2 hb6'
      have hXL := hA6.cellAt p.loads.length (by omega)
      rw [show (arrV (fun i => if i = p.loads.length then some W2.heap.size else none) (p.loads.length + 1))[p.loads.length]? = some (.map (some W2.heap.size)) by simp [arrV]] at hXL
      obtain ⟨w7, hup, hch7, hg7, hs7⟩ := ((HCH5.out.below hb6).below ((Below.refl _ _).drew)).add s (0, 0)
      have hup : (Instr.mapUpdate 77 (.map (some W2.heap.size)) (.agg #[.int .i64 s.1, .int .i64 s.2]) (.agg #[.int .i64 0, .int .i64 0])).run Tryd.prog W6.drew = .ok () w7 := hup
      have H7 := hid (And.intro hch7 (And.intro hg7 hs7))
      have H6 := hid (And.intro hb6' (And.intro hb6 hz6))
      have q0 := far (o := 3) hg7 k3' (by omega)
      have q1 := far (o := p.loads.length) hg7 hXL (by omega)
      have q2 := far (o := 0) hg7 hx0 (by have := HBR5.out.size; omega)
      have q3 := far (o := 1) hg7 hx1 (by have := HBR5.out.size; omega)
      clear hc6 hf6 hb6' hb6 hz6 hA6 hch7 hg7 hs7 hent
      go_region_held3 (fun w' => w'.cell? ⟨b, 3, none⟩ = some (.slice al p.loads.length cl) ∧ w'.cell? ⟨w1.heap.size, p.loads.length, none⟩ = some (.map (some W2.heap.size)) ∧ w'.cell? ⟨w4.heap.size, 0, none⟩ = some (.int .i64 s.1) ∧ w'.cell? ⟨w4.heap.size, 1, none⟩ = some (.int .i64 s.2)) (first | go_keep | (exact ⟨q0, q1, q2, q3⟩)) (fail)
      go_wp2_with fail
      go_roundw
      case rel =>
        have hg7 := H7.out.2.1
        refine ⟨_, _, (HIT5.out.below H6.out.2.1.drew).grown hg7 (by intro h; have : bs p.loads.length = W2.heap.size := Option.some.inj h; omega) (by intro h; have : W2.heap.size + 1 = W2.heap.size := Option.some.inj h; omega), H7.out.1, ⟨?_, ?_⟩, H6.out.1.drew.grown hg7 (Nat.le_trans (by omega) H6.out.1.size) (fun k hk => by have := Option.some.inj hk; omega)⟩
        · intro s' h1 h2
          by_cases e : s' = s
          · subst e; simp [PlantD.bst]
          · simp only [if_neg e]
            exact HPT.out.1 s' h1 (fun hm => h2 (List.mem_filter.2 ⟨hm, by simp [e]⟩))
        · intro s' h1
          have e : s' ≠ s := by
            rintro rfl
            rcases h1 with h1 | h1
            · exact h1 ((HM.out.1 s').1 (by rw [HV.out]; rfl))
            · simp at h1
          simp only [if_neg e]
          refine HPT.out.2 s' (h1.imp id (fun h => (List.mem_filter.1 h).1))
      case measure =>
        have hg7 := H7.out.2.1
        have hit7 := (HIT5.out.below H6.out.2.1.drew).grown hg7 (by intro h; have : bs p.loads.length = W2.heap.size := Option.some.inj h; omega) (by intro h; have : W2.heap.size + 1 = W2.heap.size := Option.some.inj h; omega)
        rw [hit7.left_eq, HL.out]
        exact filter_lt HS.out
      --F>
end Go.Proofs.YtjjphiecjhijiaaDoor
