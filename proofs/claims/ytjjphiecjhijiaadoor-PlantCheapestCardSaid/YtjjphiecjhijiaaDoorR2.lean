import Derived.Test.YtjjphiecjhijiaaDoorR1
namespace Go.Proofs.YtjjphiecjhijiaaDoor
open Go.RowKit Go.Maps

theorem info134 : (Tryd.prog.info? 134).map (fun i => (i.zero, i.size, i.bytes)) = some (some (.map none), 1, 8) := by kernel_rfl
/-- A row of maps. -/
def mapsV (bs : Nat → Nat) (n : Nat) : List Value := (List.range n).map fun j => .map (some (bs j))
theorem mapsV_succ (bs : Nat → Nat) (n : Nat) : mapsV bs (n + 1) = mapsV bs n ++ [.map (some (bs n))] := by simp [mapsV, List.range_succ]
theorem mapsV_congr (bs bs' : Nat → Nat) (n : Nat) (h : ∀ j, j < n → bs j = bs' j) : mapsV bs n = mapsV bs' n := by
  unfold mapsV
  apply List.map_congr_left
  intro j hj
  rw [h j (by simpa using hj)]
theorem cell_lt {w : World} {b o : Nat} {v : Value} (h : w.cell? ⟨b, o, none⟩ = some v) : b < w.heap.size := by
  unfold World.cell? at h
  cases e : w.heap[b]? with
  | none => simp [e] at h
  | some o => exact (Array.getElem?_eq_some_iff.1 e).1
def ReachedPost (p : PlantD) (w : World) (e : Ending) (w' : World) : Prop :=
  ∃ v bs, e = .returned v ∧ SlV w' v (p.loads.length + 1) (mapsV bs (p.loads.length + 1)) ∧ (∀ j, j < p.loads.length + 1 → SetF w' (bs j) (p.reach j)) ∧ Below w.heap.size w w'

set_option maxRecDepth 100000 in
set_option maxHeartbeats 1000000 in
/-- plant.reached -/
theorem reached_any (b : Nat) (p : PlantD) (w : World) (hp : PObj w b p) (ho : p.Ok) :
    Calls Tryd.prog 72 #[.pointer (some ⟨b, 0, none⟩)] w (ReachedPost p w) := by
  have HP := hid hp
  have hblt := hp.lt
  obtain ⟨vl, vp, vm, vc, vw, e0, e1, e2, e3, e4, e5, e6, e7, hl, hpp, hm, hc, hw⟩ := hp
  obtain ⟨al, cl, rfl, hll, _⟩ := hl.open
  obtain ⟨ac, cc, rfl, hlc, _⟩ := hc.open
  rw [coldL_length] at *
  have hday := ho.day
  have hpw := pow_small (m := p.m) ho.few
  obtain ⟨q, hqe⟩ : ∃ q, 2 ^ p.m = q := ⟨_, rfl⟩
  have HQ := hid hqe
  rw [hqe] at hpw e6 hlc
  clear hqe
  have hmm := @run_makeMap Tryd.prog
  obtain ⟨i0, hi, hz0, hz1, hz2⟩ := info_parts info134
  clear hl hpp hm hc hw e1 e4 e5 e7
  go_enter Tryd.func72, Tryd.ntmps72
  obtain ⟨W1, hW1⟩ : ∃ W1, w.alloc (.map #[] 0) = W1 := ⟨_, rfl⟩
  have hS0 := SetF.made w
  rw [hW1] at hS0
  have hb1 : Below w.heap.size w W1 := by rw [← hW1]; exact (Below.refl _ _).alloc (Nat.le_refl _) _
  obtain ⟨W2, hrun, hS1, hg1, hs1⟩ := hS0.add (p.heat, 0)
  have hz1' : W1.heap.size = w.heap.size + 1 := by rw [← hW1]; simp
  have hb2 : Below w.heap.size w W2 := hb1.grown hg1 (by omega) (fun k hk => by cases hk; exact Nat.le_refl _)
  rw [← hW1] at hrun
  have HW1 := hid hW1
  clear hW1
  have f3 := bcs hb2 e3
  have f6 := bcs hb2 e6
  have f2 := bcs hb2 e2
  go_wp2_with fail
  have hb3 : Below w.heap.size w (W2.alloc (.cells #[.map (some w.heap.size)] 134)) := hb2.alloc hb2.size _
  have hS2 : SetF (W2.alloc (.cells #[.map (some w.heap.size)] 134)) w.heap.size (p.reach 0) := (hS1.congr (fun k => by simp [PlantD.reach])).below ((Below.refl _ _).alloc (Nat.le_refl _) _)
  have hO2 : (W2.alloc (.cells #[.map (some w.heap.size)] 134)).ownsRow w.heap.size 134 1 (.slice (some ⟨W2.heap.size, 0, none⟩) 1 1) 1 [.map (some w.heap.size)] := World.ownsRow_lit W2 #[.map (some w.heap.size)] 1 hb2.size (by unfold maxLen; omega) rfl
  have HS2 := hid hS2
  have HO2 := hid hO2
  have hz2' : W2.heap.size = w.heap.size + 1 := by rw [hs1, hz1']
  rw [hz2'] at HO2
  clear hS0 hS1 hg1 hs1 hz1' hb1 hrun hS2 hO2 hz2'
  go_loopw [3, 24] (fun v h wr => ∃ (k : Nat) (bs : Nat → Nat), k ≤ p.loads.length ∧ h = .int .i64 k ∧ wr.ownsRow w.heap.size 134 1 v (k + 1) (mapsV bs (k + 1)) ∧ (∀ j, j < k + 1 → SetF wr (bs j) (p.reach j)) ∧ Below w.heap.size w wr) (fun _ h _ => p.loads.length - (intOf h).toNat)
  case atStart =>
    refine ⟨0, fun _ => w.heap.size, Nat.zero_le _, rfl, HO2.out, ?_, hb3⟩
    intro j hj
    obtain rfl : j = 0 := by omega
    exact HS2.out
  case round =>
    obtain ⟨k, bs, hk, rfl, hown, hsets, hb⟩ := hrel
    obtain ⟨wo, rfl⟩ : ∃ wo : World, wo = wr := ⟨_, rfl⟩
    have HOWN := hid hown
    have HSETS := hid hsets
    clear f2 f3 f6 hb3 hb2
    by_cases hlt : k < p.loads.length
    · obtain ⟨g, cap, hv, hgB, hglt, hcell⟩ : ∃ g cap, u3 = .slice (some ⟨g, 0, none⟩) (k + 1) cap ∧ w.heap.size ≤ g ∧ g < wo.heap.size ∧ wo.cell? ⟨g, k, none⟩ = some (.map (some (bs k))) := by
        rcases hown.2 with ⟨_, h0⟩ | ⟨g, cap, cur, rfl, hg, hh, hnc, hcm, hcs, htake⟩
        · omega
        · refine ⟨g, cap, rfl, hg, (Array.getElem?_eq_some_iff.1 hh).1, ?_⟩
          rw [hown.cellAt k (by omega)]
          simp [mapsV]
      subst hv
      obtain ⟨M, hMF, hMi, hMt⟩ := hsets k (by omega)
      have hbk := hMF.lt
      -- the next hour's map, and the iterator
      have hMF1 : MapF enc2 (wo.alloc (.map #[] 0)) (bs k) M := hMF.below' ((Below.refl _ _).alloc (Nat.le_refl _) _)
      obtain ⟨clock, left0, hrg, hit0, hnd0, hmem0⟩ := hMF1.range (P := Tryd.prog) Tryd.underlying134
      have hN0 : SetF ((wo.alloc (.map #[] 0)).alloc (.mapIter (some (bs k)) clock #[] clock)) wo.heap.size (fun _ => False) := (SetF.made wo).below ((Below.refl _ _).alloc (Nat.le_refl _) _)
      have hBo : Below wo.heap.size wo ((wo.alloc (.map #[] 0)).alloc (.mapIter (some (bs k)) clock #[] clock)) := ((Below.refl _ _).alloc (Nat.le_refl _) _).alloc (by simp) _
      have HM := hid (And.intro hMi hMt)
      have HIT := hid (And.intro hit0 (And.intro hmem0 hN0))
      have HP2 := hid (HP.out.below hb)
      clear hown hsets hMF hMi hMt hMF1 hit0 hnd0 hmem0 hN0
      simp only [World.size_alloc] at hrg
      go_wp2_with fail
      go_loopw [] (fun wr => ∃ left, IterF enc2 wr (wo.heap.size + 1) (bs k) M left ∧ SetF wr wo.heap.size (fun s' => ∃ s, p.reach k s ∧ s ∉ left ∧ p.succ k s s' q) ∧ Below wo.heap.size wo wr) (fun wr => leftN wr (wo.heap.size + 1) (bs k))
      case atStart =>
        obtain ⟨hit, hmem, hset⟩ := HIT.out
        refine ⟨left0, by simpa using hit, hset.congr (fun s' => ⟨fun h => h.elim, ?_⟩), hBo⟩
        rintro ⟨s, h1, h2, h3⟩
        exact absurd ((hmem s).2 ((HM.out.1 s).2 h1)) h2
      case round =>
        obtain ⟨left, hit, hset, hbr⟩ := hrel
        obtain ⟨w2, rfl⟩ : ∃ w2 : World, w2 = wr := ⟨_, rfl⟩
        have hne1 := iter_ne_map hit hset.choose_spec.1
        rcases hit.next' (P := Tryd.prog) with ⟨rfl, hnx⟩ | ⟨s, v, w3, hs, hv, hnx, hit3, hat, hg3, hs3⟩
        · have hnow := own_below HOWN.out hbr
          have HSET := hid hset
          have hszb : w.heap.size ≤ w2.heap.size := Nat.le_trans hb.size hbr.size
          clear hit hset hne1
          go_wp2_with (at_builtin; refine wpList_append_own _ rfl _ _ 132 rfl w.heap.size 134 i0 (.map none) 1 8 Tryd.underlying132 hi hz0 hz1 hz2 rfl (by decide) _ _ _ rfl (hnow.alloc _) ⟨w2.heap.size,0,none⟩ 1 1 [.map (some wo.heap.size)] rfl rfl (cell_one_new _ _ _) (ones _ rfl) (by unfold maxLen; omega) (by omega) (by simp; omega) ?_; intro v' w3 hown3 hgrow3 _)
          have hgb : Below w2.heap.size w2 (w2.alloc (.cells #[.map (some wo.heap.size)] 134)) := (Below.refl _ _).alloc (Nat.le_refl _) _
          have hb4 : Below w.heap.size w w3 := ((hb.trans (hbr.mono hb.size)).alloc hszb _).grown hgrow3 (by simp; omega) (fun j hj => (hnow.lt j hj).1)
          have H3 := hid (And.intro hown3 hgrow3)
          clear hown3 hgrow3
          go_roundw
          case rel =>
            have hsz2 : wo.heap.size ≤ w2.heap.size := hbr.size
            have hg3 := H3.out.2
            refine ⟨k + 1, fun j => if j = k + 1 then wo.heap.size else bs j, by omega, by go_num, ?_, ?_, hb4⟩
            · rw [mapsV_succ]
              simp only [if_true]
              rw [mapsV_congr _ bs (k + 1) (fun j hj => by simp; intro h; omega)]
              exact H3.out.1
            · intro j hj
              by_cases e : j = k + 1
              · subst e
                simp only [if_true]
                have hs := HSET.out
                refine ((hs.below hgb).grown hg3 ?_).congr ?_
                · exact map_ne_row (hs.below hgb).choose_spec.1 (hnow.alloc _)
                · intro s'
                  simp [PlantD.reach, HQ.out]
              · simp only [if_neg e]
                have hs := HSETS.out j (by omega)
                have hs2 := (hs.below hbr).below hgb
                exact hs2.grown hg3 (map_ne_row hs2.choose_spec.1 (hnow.alloc _))
          case measure => simp [intOf]; omega
        · have hset3 := hset.grown hg3 (fun h => hne1 (Option.some.inj h).symm)
          have hbr3 : Below wo.heap.size wo w3 := hbr.grown hg3 (by have := hbr.size; omega) (fun k hk => by cases hk; omega)
          have hent := hat.entry (P := Tryd.prog)
          have HL := hid hit.left_eq
          have HIT3 := hid hit3
          have HSET3 := hid hset3
          have HBR3 := hid hbr3
          clear hit hset hit3 hat hg3 hset3 hbr3 hbr
          simp only [enc2] at hnx hent
          have HS := hid hs
          have HV := hid hv
          have HNM := hid hne1
          have hrbd := reach_bd ho k s ((HM.out.1 s).1 (by rw [hv]; rfl))
          clear hs hv hne1
          go_upto_region 9 with fail
          obtain ⟨W0, e0', hz0', hb0', hc0', hf0'⟩ := box_new w3 #[.int .i64 s.1, .int .i64 s.2] 73
          rw [e0']; clear e0'
          have hS0 : SetF W0 wo.heap.size (fun s' => (∃ s, p.reach k s ∧ s ∉ left ∧ p.succ k s s' q) ∨ p.succ k s s' 0) := (HSET3.out.below hb0').congr (fun s' => ⟨.inl, fun h => h.elim id (fun ⟨n, h, _⟩ => absurd h (by omega))⟩)
          have hI0 := HIT3.out.below hb0'
          have hB0 : Below wo.heap.size wo W0 := HBR3.out.trans (hb0'.mono (by have := HBR3.out.size; omega))
          have hbx := hc0' 0
          simp only [List.getElem?_toArray, List.getElem?_cons_zero] at hbx
          rw [hs3] at hbx
          have hwz : wo.heap.size + 1 < w2.heap.size := by have := hI0.lt.2; have := HIT3.out.lt.2; omega
          have f3 := rdB hb hblt e3
          have f6 := rdB hb hblt e6
          have f2 := rdB hb hblt e2
          have g3 := rdB hB0 (by have := hb.size; omega) f3
          have g6 := rdB hB0 (by have := hb.size; omega) f6
          go_wp2_with fail
          go_loopw [42] (fun h wr => ∃ j : Nat, j ≤ q ∧ h = .int .i64 j ∧ IterF enc2 wr (wo.heap.size + 1) (bs k) M (left.filter (fun k' => decide (k' ≠ s))) ∧ SetF wr wo.heap.size (fun s' => (∃ s, p.reach k s ∧ s ∉ left ∧ p.succ k s s' q) ∨ p.succ k s s' j) ∧ Below wo.heap.size wo wr ∧ wr.cell? ⟨w2.heap.size, 0, none⟩ = some (.int .i64 s.1)) (fun h _ => q - (intOf h).toNat)
          case atStart => exact ⟨0, Nat.zero_le _, rfl, hI0, hS0, hB0, hbx⟩
          case round =>
            obtain ⟨j, hj, rfl, hit, hset, hbr, hcx⟩ := hrel
            by_cases hjl : j < q
            · obtain ⟨w5, rfl⟩ : ∃ w5 : World, w5 = wr := ⟨_, rfl⟩
              have HH := hid (And.intro hit hset)
              have hd2 := rdB hbr (by have := hb.size; omega) f2
              clear hit hset f2 f3 f6 g3 g6 hI0 hS0 hB0
              go_wp2_with fail
              refine (heat_any b p k j s.1 w5 (HP2.out.below hbr) ho hlt (by rw [HQ.out]; exact hjl) hrbd.1 (by omega)).mono ?_
              rintro e w' ⟨rfl, kd, rfl⟩
              have hd3 : (w5.drewN kd).cell? ⟨b, 2, none⟩ = some (.int .i64 p.high) := hd2
              have hcx2 : (w5.drewN kd).cell? ⟨w2.heap.size, 0, none⟩ = some (.int .i64 s.1) := hcx
              have hbr2 : Below wo.heap.size wo (w5.drewN kd) := drewNB hbr kd
              have hit2 : IterF enc2 (w5.drewN kd) (wo.heap.size + 1) (bs k) M (left.filter (fun k' => decide (k' ≠ s))) := HH.out.1
              have hset2 : SetF (w5.drewN kd) wo.heap.size (fun s' => (∃ s, p.reach k s ∧ s ∉ left ∧ p.succ k s s' q) ∨ p.succ k s s' j) := HH.out.2
              generalize w5.drewN kd = w6 at *
              have hsucc : ∀ s', p.succ k s s' (j + 1) ↔ (p.next k s.1 j ≤ p.high ∧ s' = (p.next k s.1 j, (j : Int))) ∨ p.succ k s s' j := by
                intro s'
                constructor
                · rintro ⟨n, h1, h2, h3⟩
                  by_cases e : n = j
                  · subst e; exact .inl ⟨h2, h3⟩
                  · exact .inr ⟨n, by omega, h2, h3⟩
                · rintro (⟨h1, h2⟩ | ⟨n, h1, h2, h3⟩)
                  · exact ⟨j, by omega, h1, h2⟩
                  · exact ⟨n, by omega, h2, h3⟩
              have HSC := hid hsucc
              clear hsucc hd2 hcx hbr
              generalize hx : p.next k s.1 j = x at *
              by_cases hle : x ≤ p.high
              · obtain ⟨w7, hup, hset7, hg7, hs7⟩ := hset2.add (x, (j : Int))
                have hcx7 := (World.cell?_of_block (a := ⟨w2.heap.size, 0, none⟩) (hg7.block _ (cell_lt hcx2) (by intro h; have : w2.heap.size = wo.heap.size := Option.some.inj h; omega))).trans hcx2
                have hbr7 : Below wo.heap.size wo w7 := hbr2.grown hg7 (by have := hbr2.size; omega) (fun k hk => by cases hk; exact Nat.le_refl _)
                have hit7 := hit2.grown hg7 (by intro h; have := Option.some.inj h; omega) (by intro h; have := Option.some.inj h; omega)
                have H7 := hid (And.intro hit7 hset7)
                clear hset2 hit2 hset7 hit7 hg7 hs7
                go_wp2_with fail
                go_roundw
                case rel =>
                  refine ⟨j + 1, by omega, by go_num, H7.out.1, H7.out.2.congr (fun s' => ?_), hbr7, hcx7⟩
                  rw [HSC.out]
                  constructor
                  · rintro (h | h | h)
                    · exact .inr (.inl ⟨hle, h⟩)
                    · exact .inl h
                    · exact .inr (.inr h)
                  · rintro (h | ⟨_, h⟩ | h)
                    · exact .inr (.inl h)
                    · exact .inl h
                    · exact .inr (.inr h)
                case measure => simp [intOf]; omega
              · have H7 := hid (And.intro hit2 hset2)
                have hlef : decide (x ≤ p.high) = false := by simp [hle]
                clear hset2 hit2
                go_wp2_with fail
                go_roundw
                case rel =>
                  refine ⟨j + 1, by omega, by go_num, H7.out.1, H7.out.2.congr (fun s' => ?_), hbr2, hcx2⟩
                  rw [HSC.out]
                  constructor
                  · rintro (h | h)
                    · exact .inl h
                    · exact .inr (.inr h)
                  · rintro (h | ⟨h, _⟩ | h)
                    · exact .inl h
                    · omega
                    · exact .inr h
                case measure => simp [intOf]; omega
            · go_wp2_with fail
              obtain rfl : j = q := by omega
              refine ⟨⟨_, hit, hset.congr (fun s' => ?_), hbr⟩, ?_⟩
              · constructor
                · rintro (⟨s0, h1, h2, h3⟩ | h)
                  · exact ⟨s0, h1, fun hm => h2 (List.mem_filter.1 hm).1, h3⟩
                  · exact ⟨s, (HM.out.1 s).1 (by rw [HV.out]; rfl), fun hm => absurd (List.mem_filter.1 hm).2 (by simp), h⟩
                · rintro ⟨s0, h1, h2, h3⟩
                  by_cases e : s0 = s
                  · subst e; exact .inr h3
                  · exact .inl ⟨s0, h1, fun hm => h2 (List.mem_filter.2 ⟨hm, by simp [e]⟩), h3⟩
              · rw [hit.left_eq, HL.out]
                exact filter_lt HS.out
    · go_wp2_with fail
      go_ret
      have hkl : k = p.loads.length := by omega
      subst hkl
      have hown := HOWN.out
      refine ⟨u3, bs, rfl, ?_, HSETS.out, hb⟩
      rcases hown.2 with ⟨_, h0⟩ | ⟨g, cap, cur, rfl, hg, hh, hnc, hcm, hcs, htake⟩
      · omega
      · refine ⟨_, cap, rfl, by omega, .inr ⟨g, 0, rfl, (Array.getElem?_eq_some_iff.1 hh).1, ?_⟩⟩
        intro i hi
        rw [Nat.zero_add, hown.cellAt i (by simpa [mapsV] using hi), List.getElem?_eq_getElem hi]
end Go.Proofs.YtjjphiecjhijiaaDoor
