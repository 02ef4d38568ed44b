import Derived.Test.YtjjphiecjhijiaaJ5
namespace Go.Proofs.Ytjjphiecjhijiaa
open Go.RowKit Go.Maps
attribute [local go_sem] alloc_drewN setCell_drewN

/-- The first n jobs that begin at a slot. -/
def gF (l : List Mach) (n : Nat) (k : Int) : List Nat := (List.range n).filter fun i => (l.getD i ⟨0, 0, 0⟩).power == k
theorem gF_succ (l : List Mach) (n : Nat) (k : Int) : gF l (n + 1) k = if k = (l.getD n ⟨0, 0, 0⟩).power then gF l n k ++ [n] else gF l n k := by
  unfold gF
  rw [List.range_succ, List.filter_append]
  by_cases h : (l.getD n ⟨0, 0, 0⟩).power = k
  · rw [if_pos h.symm, List.filter_cons_of_pos (by simp only [beq_iff_eq]; exact h)]; simp
  · rw [if_neg (Ne.symm h), List.filter_cons_of_neg (by simp only [beq_iff_eq]; exact h)]; simp
theorem gF_length (l : List Mach) (n : Nat) (k : Int) : (gF l n k).length ≤ n := by
  have := List.length_filter_le (fun i => (l.getD i ⟨0, 0, 0⟩).power == k) (List.range n)
  simpa [gF] using this
theorem gF_mem {l : List Mach} {n : Nat} {k : Int} {i : Nat} (h : i ∈ gF l n k) : i < n ∧ (l.getD i ⟨0, 0, 0⟩).power = k := by
  unfold gF at h
  have := List.mem_filter.1 h
  exact ⟨by simpa using this.1, by simpa using this.2⟩

/-- A map of rows: each key's list has a row of its own. -/
def GrpO (w : World) (base bm : Nat) (G : Int → List Nat) : Prop :=
  ∃ M, MapF encI w bm M ∧ bm < base ∧ (∀ k, (M k = none ∧ G k = []) ∨ ∃ g cap, M k = some (.slice (some ⟨g, 0, none⟩) (G k).length cap) ∧ w.ownsRow base 3 1 (.slice (some ⟨g, 0, none⟩) (G k).length cap) (G k).length (natsV (G k))) ∧
    ∀ k k' v v', k ≠ k' → M k = some v → M k' = some v' → v.ownBlock ≠ v'.ownBlock
theorem natsV_length (a : List Nat) : (natsV a).length = a.length := by simp [natsV]
theorem natsV_snoc (a : List Nat) (x : Nat) : natsV (a ++ [x]) = natsV a ++ [.int .i64 (x : Int)] := by simp [natsV]
theorem GrpO.made (w : World) (base : Nat) (hb : w.heap.size < base) : GrpO (w.alloc (.map #[] 0)) base w.heap.size (fun _ => []) :=
  ⟨_, MapF.made w, hb, fun _ => .inl ⟨rfl, rfl⟩, fun _ _ _ _ _ h => by cases h⟩
theorem GrpO.below {w w' : World} {base bm : Nat} {G : Int → List Nat} (h : GrpO w base bm G) (hb : Below w.heap.size w w') : GrpO w' base bm G := by
  obtain ⟨M, h1, h2, h3, h4⟩ := h
  refine ⟨M, h1.below' hb, h2, fun k => ?_, h4⟩
  rcases h3 k with h | ⟨g, cap, e, ho⟩
  · exact .inl h
  · exact .inr ⟨g, cap, e, own_below ho hb⟩
theorem GrpO.lt {w : World} {base bm : Nat} {G : Int → List Nat} (h : GrpO w base bm G) : bm < w.heap.size := by obtain ⟨M, h1, _⟩ := h; exact h1.lt
/-- The look-up, and the way back behind an append. -/
theorem GrpO.look {w : World} {base bm : Nat} {G : Int → List Nat} (h : GrpO w base bm G) (k : Int) :
    ∃ v, (∀ w', Below w.heap.size w w' → (Instr.lookup 76 (.map (some bm)) (.int .i64 k) false).run Try.prog w' = .ok v w') ∧ w.ownsRow base 3 1 v (G k).length (natsV (G k)) ∧
      ∀ (wa w1 : World) (x g cap : Nat) (r : Option Nat), Below w.heap.size w wa → r = v.ownBlock → wa.grownBy w1 r → w1.ownsRow base 3 1 (.slice (some ⟨g, 0, none⟩) ((G k).length + 1) cap) ((G k).length + 1) (natsV (G k) ++ [.int .i64 (x : Int)]) → (r = some g ∨ w.heap.size ≤ g) →
        ∃ w2, (Instr.mapUpdate 76 (.map (some bm)) (.int .i64 k) (.slice (some ⟨g, 0, none⟩) ((G k).length + 1) cap)).run Try.prog w1 = .ok () w2 ∧ GrpO w2 base bm (fun k' => if k' = k then G k ++ [x] else G k') ∧ w1.grownBy w2 (some bm) := by
  obtain ⟨M, h1, h2, h3, h4⟩ := h
  have hz : ∀ w' : World, (zeroValue 32).run Try.prog w' = .ok (.slice none 0 0) w' := fun w' => by kernel_rfl
  obtain ⟨v, hv⟩ : ∃ v, v = (M k).getD (.slice none 0 0) := ⟨_, rfl⟩
  have hown : w.ownsRow base 3 1 v (G k).length (natsV (G k)) := by
    rcases h3 k with ⟨e, e2⟩ | ⟨g, cap, e, ho⟩
    · rw [hv, e, e2]; exact World.ownsRow_nil _ _ _ _
    · rw [hv, e]; exact ho
  refine ⟨v, fun w' hb => ?_, hown, ?_⟩
  · rw [hv]; exact MapF.lookup keyI3 Try.underlying76 (h1.below' hb) (hz w') k
  · intro wa w1 x g cap r hba hr hg ho hloc
    subst hr
    have hbm : some bm ≠ v.ownBlock := own_ne hown h2
    have hM1 : MapF encI w1 bm M := (h1.below' hba).grown hg hbm
    obtain ⟨w2, hr, hm2, hg2, hs2⟩ := hM1.update keyI3 Try.underlying76 k (.slice (some ⟨g, 0, none⟩) ((G k).length + 1) cap)
    -- what another key's row is: apart from this one's
    have hap : ∀ k' v', k' ≠ k → M k' = some v' → v'.ownBlock ≠ v.ownBlock ∧ v'.ownBlock ≠ some g ∧ v'.ownBlock ≠ none ∧ ∃ g' cap', v' = .slice (some ⟨g', 0, none⟩) (G k').length cap' ∧ w.ownsRow base 3 1 v' (G k').length (natsV (G k')) := by
      intro k' v' hk hv'
      rcases h3 k' with ⟨e, _⟩ | ⟨g', cap', e, ho'⟩
      · rw [e] at hv'; cases hv'
      · rw [e] at hv'
        obtain rfl := Option.some.inj hv'
        have hne : (Value.slice (some ⟨g', 0, none⟩) (G k').length cap').ownBlock ≠ v.ownBlock := by
          rcases h3 k with ⟨e0, _⟩ | ⟨g0, cap0, e0, _⟩
          · rw [hv, e0]; simp [Value.ownBlock]
          · rw [hv, e0]; exact h4 k' k _ _ hk e e0
        refine ⟨hne, ?_, by simp [Value.ownBlock], g', cap', rfl, ho'⟩
        rcases hloc with h | h
        · rw [← h]; exact hne
        · intro e1
          have := (ho'.lt g e1).2
          omega
    refine ⟨w2, hr, ⟨_, hm2, h2, fun k' => ?_, ?_⟩, hg2⟩
    · by_cases hk : k' = k
      · subst hk
        simp only [if_true]
        refine .inr ⟨g, cap, by simp, ?_⟩
        have h5 := ho.kept hg2 (.inr (fun e => by have := (ho.lt g rfl).1; have e := Option.some.inj e; simp only at e; omega))
        rw [natsV_snoc]
        simpa using h5
      · simp only [if_neg hk]
        rcases h3 k' with h | ⟨g', cap', e, ho'⟩
        · exact .inl h
        · obtain ⟨a1, a2, a3, _⟩ := hap k' _ hk e
          refine .inr ⟨g', cap', e, ?_⟩
          exact ((own_below ho' hba).kept hg (.inr a1)).kept hg2 (.inr (fun e => by have := (ho'.lt g' rfl).1; have e := Option.some.inj e; simp only at e; omega))
    · intro k1 k2 v1 v2 hne e1 e2
      by_cases hk1 : k1 = k
      · rw [if_pos hk1] at e1
        obtain rfl := Option.some.inj e1
        have hk2 : k2 ≠ k := fun h => hne (hk1.trans h.symm)
        rw [if_neg hk2] at e2
        exact (hap k2 v2 hk2 e2).2.1.symm
      · rw [if_neg hk1] at e1
        by_cases hk2 : k2 = k
        · rw [if_pos hk2] at e2
          obtain rfl := Option.some.inj e2
          exact (hap k1 v1 hk1 e1).2.1
        · rw [if_neg hk2] at e2
          exact h4 k1 k2 v1 v2 hne e1 e2

/-- A map of rows that is only read: its blocks lie from lo on and below hi. -/
def GrpR (w : World) (lo hi bm : Nat) (G : Int → List Nat) (V : Int → Value) : Prop :=
  lo ≤ bm ∧ bm < hi ∧ hi ≤ w.heap.size ∧ (∀ w', w'.heap[bm]? = w.heap[bm]? → ∀ k, (Instr.lookup 76 (.map (some bm)) (.int .i64 k) false).run Try.prog w' = .ok (V k) w') ∧
    ∀ k, (V k = .slice none 0 0 ∧ G k = []) ∨ ∃ g cap, V k = .slice (some ⟨g, 0, none⟩) (G k).length cap ∧ lo ≤ g ∧ g < hi ∧ CellsAt w g 0 (natsV (G k))
theorem GrpO.read {w : World} {base bm lo : Nat} {G : Int → List Nat} (h : GrpO w base bm G) (h1 : lo ≤ bm) (_h2 : lo ≤ base) : ∃ V, GrpR w lo w.heap.size bm G V := by
  obtain ⟨M, m1, m2, m3, m4⟩ := h
  have hz : ∀ w' : World, (zeroValue 32).run Try.prog w' = .ok (.slice none 0 0) w' := fun w' => by kernel_rfl
  refine ⟨fun k => (M k).getD (.slice none 0 0), h1, m1.lt, Nat.le_refl _, fun w' hb k => MapF.lookup keyI3 Try.underlying76 (m1.block hb) (hz w') k, fun k => ?_⟩
  rcases m3 k with ⟨e, e2⟩ | ⟨g, cap, e, ho⟩
  · exact .inl ⟨by simp only [e]; rfl, e2⟩
  · have hl := ho.lt g rfl
    refine .inr ⟨g, cap, by simp only [e]; rfl, by omega, hl.2, fun i hi => ?_⟩
    rw [natsV_length] at hi
    have := ho.cellAt i (by omega)
    rw [Nat.zero_add, this]
    simp [natsV, hi]
theorem GrpR.kept {w w' : World} {lo hi bm : Nat} {G : Int → List Nat} {V : Int → Value} (h : GrpR w lo hi bm G V) (hs : hi ≤ w'.heap.size) (hk : ∀ k, lo ≤ k → k < hi → w'.heap[k]? = w.heap[k]?) : GrpR w' lo hi bm G V := by
  obtain ⟨h1, h2, h3, h4, h5⟩ := h
  refine ⟨h1, h2, hs, fun w2 e => h4 w2 (e.trans (hk bm h1 h2)), fun k => ?_⟩
  rcases h5 k with h | ⟨g, cap, e, g1, g2, g3⟩
  · exact .inl h
  · exact .inr ⟨g, cap, e, g1, g2, fun i hi => (World.cell?_of_block (a := ⟨g, 0 + i, none⟩) (hk g g1 g2)).trans (g3 i hi)⟩

/-- What plant.slots leaves: the iterator's box, the map of rows. -/
def SlotsPost (l : List Mach) (w : World) (e : Ending) (w' : World) : Prop :=
  e = .returned (.func (.func 34) #[] #[.pointer (some ⟨w.heap.size + 1, 0, none⟩)]) ∧ w'.cell? ⟨w.heap.size + 1, 0, none⟩ = some (.map (some w.heap.size)) ∧
    (∃ V, GrpR w' w.heap.size w'.heap.size w.heap.size (gF l l.length) V) ∧ w.heap.size + 1 < w'.heap.size ∧ Below w.heap.size w w'

set_option maxRecDepth 100000 in
set_option maxHeartbeats 1000000 in
/-- plant.slots -/
theorem slots_any (v : Value) (l : List Mach) (w : World) (hs : SlM w v l) (hll : l.length ≤ 1000) : Calls Try.prog 20 #[v] w (SlotsPost l w) := by
  obtain ⟨a, cap, rfl, _, hc⟩ := hs.open
  have hmm := @run_makeMap Try.prog
  obtain ⟨i0, hi, hz0, hz1, hz2⟩ := info_parts info3
  have HC := hid hc
  clear hs hc
  go_enter Try.func20, Try.ntmps20
  go_wp2_with fail
  go_loopw [9] (fun i wr => ∃ k : Nat, k ≤ l.length ∧ i = .int .i64 k ∧ GrpO wr (w.heap.size + 2) w.heap.size (gF l k) ∧ wr.cell? ⟨w.heap.size + 1, 0, none⟩ = some (.map (some w.heap.size)) ∧ Below w.heap.size w wr ∧ w.heap.size + 2 ≤ wr.heap.size) (fun i _ => l.length - (intOf i).toNat)
  case atStart =>
    refine ⟨0, Nat.zero_le _, rfl, (GrpO.made w (w.heap.size + 2) (by omega)).below ((Below.refl _ _).alloc (Nat.le_refl _) _), ?_, ((Below.refl _ _).alloc (Nat.le_refl _) _).alloc (by simp) _, by simp⟩
    have := World.cell?_alloc_new (w.alloc (.map #[] 0)) #[.map (some w.heap.size)] 76 0
    simp
  case round =>
    obtain ⟨k, hk, rfl, hg, hbx, hb, hsz⟩ := hrel
    obtain ⟨wo, rfl⟩ : ∃ wo : World, wo = wr := ⟨_, rfl⟩
    have HG := hid hg
    have HB := hid hb
    clear hg
    by_cases hlt : k < l.length
    · obtain ⟨b, off, rfl, hbl, hc⟩ := HC.out k hlt
      have hx0 := (hb.cell (p := ⟨b, off + k * 3, none⟩) hbl).trans (hc k hlt).1
      have hx1 := (hb.cell (p := ⟨b, off + k * 3 + 1, none⟩) hbl).trans (hc k hlt).2.1
      have hx2 := (hb.cell (p := ⟨b, off + k * 3 + 2, none⟩) hbl).trans (hc k hlt).2.2
      have HGS := hid (fun key => gF_succ l k key)
      have HPW := hid (show (l.getD k ⟨0, 0, 0⟩) = l[k] by simp [hlt])
      clear hc hb
      generalize hxe : l[k] = x at *
      clear hxe
      go_upto_region 5 with fail
      obtain ⟨W0, e0, hz0', hb0, hc0, hf0⟩ := box_new wo #[.int .i64 x.cold, .int .i64 x.power, .int .i64 x.start] 30
      rw [e0]
      clear e0
      have y1 : W0.cell? ⟨wo.heap.size, 1, none⟩ = some (.int .i64 x.power) := hc0 1
      have y0 : W0.cell? ⟨w.heap.size + 1, 0, none⟩ = some (.map (some w.heap.size)) := bcs hb0 hbx
      have hB0 : Below w.heap.size w W0 := HB.out.trans (hb0.mono HB.out.size)
      obtain ⟨v, hlook, hown, hback⟩ := HG.out.look x.power
      have hba : Below wo.heap.size wo ((W0.alloc (.cells #[.int .i64 (k : Int)] 3)).drew) := (hb0.alloc (by omega) _).drew
      have hl1 := hlook W0.drew hb0.drew
      have hl2 := hlook ((W0.alloc (.cells #[.int .i64 (k : Int)] 3)).drew) hba
      have HOWN := hid hown
      have HBACK := hid (fun w1 x g cap r => hback _ w1 x g cap r hba)
      have HOWA := hid (own_below hown hba)
      have HB0 := hid hB0
      have hgl := gF_length l k x.power
      have hsz0 : w.heap.size + 2 ≤ W0.heap.size := by omega
      have hne0 : some (w.heap.size + 1) ≠ v.ownBlock := own_ne hown (by omega)
      have hne1 : some wo.heap.size ≠ v.ownBlock := own_new hown (Nat.le_refl _)
      have ya0 : ((W0.alloc (.cells #[.int .i64 (k : Int)] 3)).drew).cell? ⟨w.heap.size + 1, 0, none⟩ = some (.map (some w.heap.size)) := bcs ((hb0.alloc (by omega) _).drew) hbx
      have ya1 : (W0.alloc (.cells #[.int .i64 (k : Int)] 3)).drew.cell? ⟨wo.heap.size, 1, none⟩ = some (.int .i64 x.power) := bcs ((Below.refl _ _).alloc (Nat.le_refl _) _).drew y1
      have HYA := hid (And.intro ya0 ya1)
      have hcn : (W0.alloc (.cells #[.int .i64 (k : Int)] 3)).cell? ⟨wo.heap.size + 1, 0, none⟩ = some (.int .i64 (k : Int)) := by
        rw [← hz0']; exact World.cell?_alloc_new _ _ _ _
      have HHB := hid hba
      clear hlook hown hback hc0 hf0 hb0 hB0 hx0 hx1 hx2 hbx ya0 ya1 hba
      generalize hgn : (gF l k x.power).length = gn at *
      go_region_held3 (fun w' => w'.cell? ⟨w.heap.size + 1, 0, none⟩ = some (.map (some w.heap.size)) ∧ w'.cell? ⟨wo.heap.size, 1, none⟩ = some (.int .i64 x.power)) (first | (exact ⟨q0, q1⟩) | (exact ⟨k0, k1⟩) | go_keep)
        ((refine step_append_lies _ rfl (.tmp 20) (.tmp 22) 32 rfl (w.heap.size + 2) 3 i0 (.int .i64 0) 1 8 Try.underlying32 hi hz0 hz1 hz2 rfl (by decide) v gn _ rfl HOWA.out _ 1 1 [.int .i64 (k : Int)] rfl rfl (by intro j u hj; match j, hj with | 0, hj => simp at hj; subst hj; simp [Addr.add, go_sem]; exact hcn) (ones _ rfl) (by decide) (by unfold maxLen; omega) (by omega) (by first | omega | (simp; omega)) _ rfl ?_; intro g cap3 w3 hown3 hgrow3 hat3 hlt3; obtain ⟨w4, hup, hgrp4, hg4⟩ := HBACK.out w3 k g cap3 _ rfl hgrow3 hown3 (by rcases hat3 with h | h; exact .inl h; exact .inr (by simp at h; omega)); have k0 := hgrow3.cell (a := ⟨w.heap.size + 1, 0, none⟩) HYA.out.1 hne0; have k1 := hgrow3.cell (a := ⟨wo.heap.size, 1, none⟩) HYA.out.2 hne1; have q0 := far (o := 0) hg4 k0 (by omega); have q1 := far (o := 1) hg4 k1 (by omega); have H3 := hid (And.intro hgrow3 (And.intro hgrp4 hg4)); clear hown3 hgrow3 hat3 hgrp4 hg4))
      all_goals
        go_wp2_with fail
        obtain ⟨g3, g4, g5⟩ := H3.out
        refine ⟨⟨k + 1, by omega, by go_num, ?_, q0, ?_, ?_⟩, by simp [intOf]; omega⟩
        · have e : (fun k' => if k' = x.power then gF l k x.power ++ [k] else gF l k k') = gF l (k + 1) := by
            funext key
            rw [HGS.out key, HPW.out]
            by_cases h : key = x.power
            · rw [if_pos h, if_pos h, h]
            · rw [if_neg h, if_neg h]
          rw [← e]; exact g4
        · have h1 := HB.out.trans (HHB.out.mono HB.out.size)
          have h2 := h1.grown g3 h1.size (fun j hj => by have := (HOWA.out.lt j hj).1; omega)
          exact h2.grown g5 h2.size (fun j hj => by cases hj; exact Nat.le_refl _)
        · have := HHB.out.size; have := g3.size; have := g5.size; omega
    · obtain rfl : k = l.length := by omega
      go_wp2_with fail
      go_ret
      obtain ⟨V, hV⟩ := HG.out.read (lo := w.heap.size) (Nat.le_refl _) (by omega)
      exact ⟨rfl, hbx, ⟨V, hV⟩, by omega, HB.out⟩
end Go.Proofs.Ytjjphiecjhijiaa
