import Derived.Test.YtjjphiecjhijiaaDoorL1
namespace Go.Proofs.YtjjphiecjhijiaaDoor
open Go.RowKit Go.Maps

def LeastPost (p : PlantD) (bm : Nat) (x : Int) (w : World) (e : Ending) (w' : World) : Prop := e = .returned (.int .i64 x) ∧ MemoF p w' bm ∧ w.grownBy w' (some bm)
theorem two_boxes (w : World) (cs ds : Array Value) (t u : TypeId) : ∃ W0, (w.alloc (.cells cs t)).alloc (.cells ds u) = W0 ∧ W0.heap.size = w.heap.size + 2 ∧ Below w.heap.size w W0 ∧ (∀ i, W0.cell? ⟨w.heap.size, i, none⟩ = cs[i]?) ∧ (∀ i, W0.cell? ⟨w.heap.size + 1, i, none⟩ = ds[i]?) ∧ (∀ i, W0.frozen? ⟨w.heap.size, i, none⟩ = false) ∧ (∀ i, W0.frozen? ⟨w.heap.size + 1, i, none⟩ = false) := by
  refine ⟨_, rfl, by simp, ((Below.refl _ _).alloc (Nat.le_refl _) _).alloc (by simp) _, ?_, ?_, ?_, ?_⟩
  · intro i
    rw [World.cell?_alloc_old _ _ _ (by simp)]
    exact World.cell?_alloc_new _ _ _ _
  · intro i
    have := World.cell?_alloc_new (w.alloc (.cells cs t)) ds u i
    simp
  · intro i
    rw [World.frozen?_alloc_old _ _ _ (by simp)]
    exact World.frozen?_alloc_new _ _ _ _
  · intro i
    have := World.frozen?_alloc_new (w.alloc (.cells cs t)) ds u i
    simp

set_option maxRecDepth 100000 in
set_option maxHeartbeats 1000000 in
/-- besomref12.least -/
theorem least_any (p : PlantD) (ho : p.Ok) (r : Nat) : ∀ (v : Value) (h : Nat) (heat : Int) (bf bm : Nat) (w : World), h + r = p.loads.length → PlantV w v p → MemoF p w bm → -1000000 ≤ heat → heat ≤ 1001000 → bf ≤ 16 →
    Calls Tryd.prog 39 #[v, .agg #[.int .i64 h, .int .i64 heat, .int .i64 bf], .map (some bm)] w (LeastPost p bm (p.lst r (heat, (bf : Int))) w) := by
  induction r with
  | zero =>
    intro v h heat bf bm w hr hp hm hh1 hh2 hb16
    have HP := hid hp
    have HM := hid hm
    have hml := hm.lt
    have hday := ho.day
    obtain ⟨vl, vp, vm, rfl, hL, hP, hM⟩ := hp
    obtain ⟨al, cl, rfl, hll, _⟩ := hL.open
    clear hL hP hM hm
    go_enter Tryd.func39, Tryd.ntmps39
    go_upto_region 1 with fail
    obtain ⟨W0, e0, hz0, hb0, hc0, hd0, hf0, hg0⟩ := two_boxes w #[.int .i64 p.heat, .int .i64 p.low, .int .i64 p.high, .slice al p.loads.length cl, vp, vm] #[.int .i64 h, .int .i64 heat, .int .i64 bf] 25 81
    rw [e0]; clear e0
    have x3 : W0.cell? ⟨w.heap.size, 3, none⟩ = some (.slice al p.loads.length cl) := hc0 3
    have y0 : W0.cell? ⟨w.heap.size + 1, 0, none⟩ = some (.int .i64 h) := hd0 0
    have HB := hid hb0
    have hhl : ((h : Int) == (p.loads.length : Int)) = true := by simp; omega
    clear hc0 hd0 hf0 hg0 hb0
    go_wp2_with fail
    go_ret
    exact ⟨rfl, HM.out.below HB.out, below_grown HB.out _⟩
  | succ r ih =>
    intro v h heat bf bm w hr hp hm hh1 hh2 hb16
    have HP := hid hp
    have HM := hid hm
    have IH := hid ih
    have hml := hm.lt
    have hday := ho.day
    have hpw := pow_small (m := p.m) ho.few
    have hBh := ho.high2
    have hBl := ho.low1
    have hBl2 := ho.low2
    obtain ⟨q, hqe⟩ : ∃ q, 2 ^ p.m = q := ⟨_, rfl⟩
    have HQ := hid hqe
    rw [hqe] at hpw
    obtain ⟨vl, vp, vm, rfl, hL, hP, hM⟩ := hp
    obtain ⟨al, cl, rfl, hll, _⟩ := hL.open
    clear hL hP hM hm ih hqe
    go_enter Tryd.func39, Tryd.ntmps39
    go_upto_region 1 with fail
    obtain ⟨W0, e0, hz0, hb0, hc0, hd0, hf0, hg0⟩ := two_boxes w #[.int .i64 p.heat, .int .i64 p.low, .int .i64 p.high, .slice al p.loads.length cl, vp, vm] #[.int .i64 h, .int .i64 heat, .int .i64 bf] 25 81
    rw [e0]; clear e0
    have x0 : W0.cell? ⟨w.heap.size, 0, none⟩ = some (.int .i64 p.heat) := hc0 0
    have x1 : W0.cell? ⟨w.heap.size, 1, none⟩ = some (.int .i64 p.low) := hc0 1
    have x2 : W0.cell? ⟨w.heap.size, 2, none⟩ = some (.int .i64 p.high) := hc0 2
    have x3 : W0.cell? ⟨w.heap.size, 3, none⟩ = some (.slice al p.loads.length cl) := hc0 3
    have x4 : W0.cell? ⟨w.heap.size, 4, none⟩ = some vp := hc0 4
    have x5 : W0.cell? ⟨w.heap.size, 5, none⟩ = some vm := hc0 5
    have y0 : W0.cell? ⟨w.heap.size + 1, 0, none⟩ = some (.int .i64 h) := hd0 0
    have y1 : W0.cell? ⟨w.heap.size + 1, 1, none⟩ = some (.int .i64 heat) := hd0 1
    have y2 : W0.cell? ⟨w.heap.size + 1, 2, none⟩ = some (.int .i64 bf) := hd0 2
    have HB := hid hb0
    have HP0 := hid (HP.out.below hb0)
    have HM0 := hid (HM.out.below hb0)
    have hhl : ((h : Int) == (p.loads.length : Int)) = false := by simp; omega
    obtain ⟨x, o, hlook, hox⟩ := HM0.out.look h heat bf
    have hlk := hlook W0 (Below.refl _ _)
    have HOX := hid hox
    have hrl : p.loads.length - h = r + 1 := by omega
    clear hc0 hd0 hf0 hg0 hb0 hlook hox
    cases o with
    | true =>
      go_wp2_with fail
      go_ret
      refine ⟨?_, HM0.out, below_grown HB.out _⟩
      have := HOX.out trivial
      rw [hrl] at this
      rw [this]; rfl
    | false =>
      have hne0 : w.heap.size ≠ bm := by omega
      have hne1 : w.heap.size + 1 ≠ bm := by omega
      have HX := hid (fun w' (hg : W0.grownBy w' (some bm)) => And.intro (far hg x0 hne0) (And.intro (far hg x1 hne0) (And.intro (far hg x2 hne0) (And.intro (far hg x3 hne0) (And.intro (far hg x4 hne0) (And.intro (far hg x5 hne0) (And.intro (far hg y0 hne1) (And.intro (far hg y1 hne1) (far hg y2 hne1)))))))))
      have HPX := hid (fun w' (hg : W0.grownBy w' (some bm)) => HM0.out.plant HP0.out hg)
      have hw1 : IntKind.i64.wrap ((h : Int) + 1) = (h : Int) + 1 := IntWalk.i64_in _ (by omega)
      go_wp2_with fail
      go_loopw [10, 9] (fun i b wr => ∃ n : Nat, n ≤ q ∧ i = .int .i64 n ∧ b = .int .i64 (lstO (p.step h (p.bst r) (heat, (bf : Int)) n)) ∧ MemoF p wr bm ∧ W0.grownBy wr (some bm)) (fun i _ _ => q - (intOf i).toNat)
      case atStart => exact ⟨0, Nat.zero_le _, rfl, rfl, HM0.out, below_grown (Below.refl _ _) _⟩
      case round =>
        obtain ⟨n, hn, rfl, rfl, hm, hg⟩ := hrel
        obtain ⟨w1, rfl⟩ : ∃ w1 : World, w1 = wr := ⟨_, rfl⟩
        have HM1 := hid hm
        have HG1 := hid hg
        have hsb : ∀ c, p.step h (p.bst r) (heat, (bf : Int)) n = some c → 0 ≤ c.1 ∧ c.1 ≤ 48 * 4000004000000 + 4000004000000 := by
          intro c hc
          have := step_bd ho h (p.bst r) (heat, (bf : Int)) (48 * 4000004000000) (fun s c hc => by have := bst_bd ho r s c hc; omega) n c hc
          omega
        have HSB := hid hsb
        have hse : p.step h (p.bst r) (heat, (bf : Int)) (n + 1) = match (if p.next h heat n ≤ p.high then p.bst r (p.next h heat n, (n : Int)) else none) with | none => p.step h (p.bst r) (heat, (bf : Int)) n | some c => match p.step h (p.bst r) (heat, (bf : Int)) n with | none => some (c.1 + p.hcost h bf n, n) | some a => if c.1 + p.hcost h bf n < a.1 then some (c.1 + p.hcost h bf n, n) else some a := rfl
        have HSE := hid hse
        have HST := hid (show p.step h (p.bst r) (heat, (bf : Int)) q = p.bst (r + 1) (heat, (bf : Int)) by
          unfold PlantD.bst; rw [show p.loads.length - (r + 1) = h by omega, HQ.out])
        clear hm hg hsb hse x0 x1 x2 x3 x4 x5 y0 y1 y2
        generalize hsn : p.step h (p.bst r) (heat, (bf : Int)) n = st at *
        have HSN := hid hsn
        clear hsn
        obtain ⟨a0, a1, a2, a3, a4, a5, b0, b1, b2⟩ := HX.out w1 HG1.out
        go_wp2_with fail
        refine (all_any _ p w1 (HPX.out w1 HG1.out) ho.few).mono ?_
        rw [HQ.out]
        rintro e w2 ⟨rfl, hb2⟩
        have HM2 := hid (HM1.out.below hb2)
        have HG2 := hid (HG1.out.trans (below_grown hb2 _))
        clear a0 a1 a2 a3 a4 a5 b0 b1 b2 hb2
        obtain ⟨a0, a1, a2, a3, a4, a5, b0, b1, b2⟩ := HX.out w2 HG2.out
        by_cases hnl : n < q
        · have hnl' : decide ((n : Int) < (q : Int)) = true := by simp; omega
          go_wp2_with fail
          refine (behind_any _ p h n heat w2 (HPX.out w2 HG2.out) ho (by omega) (by omega) (by omega) (by omega)).mono ?_
          rintro e w3 ⟨rfl, hb3⟩
          have HM3 := hid (HM2.out.below hb3)
          have HG3 := hid (HG2.out.trans (below_grown hb3 _))
          clear a0 a1 a2 a3 a4 a5 b0 b1 b2 hb3
          obtain ⟨a0, a1, a2, a3, a4, a5, b0, b1, b2⟩ := HX.out w3 HG3.out
          have hnb := Ok_next ho h n heat 100000000 (by omega) (by omega) (by omega)
          generalize hnx : p.next h heat n = nx at *
          have HNX := hid hnx
          clear hnx
          by_cases hle : nx ≤ p.high
          · have hle' : decide (nx > p.high) = false := by simp [hle]
            have hse2 := HSE.out
            rw [if_pos hle] at hse2
            have HSE2 := hid hse2
            clear hse2
            go_wp2_with fail
            have hk : ((h : Int) + 1) = ((h + 1 : Nat) : Int) := by omega
            rw [hk]
            clear hk
            refine (IH.out _ (h + 1) nx n bm w3 (by omega) (HPX.out w3 HG3.out) HM3.out (by omega) (by omega) (by omega)).mono ?_
            rintro e w4 ⟨rfl, hm4, hg4⟩
            have HM4 := hid hm4
            have HG4 := hid (HG3.out.trans hg4)
            clear a0 a1 a2 a3 a4 a5 b0 b1 b2 hm4 hg4
            obtain ⟨a0, a1, a2, a3, a4, a5, b0, b1, b2⟩ := HX.out w4 HG4.out
            have hlb := lst_bd ho r (nx, (n : Int))
            have hln := lst_neg ho r (nx, (n : Int))
            have hlv : ∀ c, p.bst r (nx, (n : Int)) = some c → p.lst r (nx, (n : Int)) = c.1 := by intro c hc; rw [PlantD.lst, hc]; rfl
            generalize hly : p.lst r (nx, (n : Int)) = y at *
            have HLN := hid (And.intro hln hlv)
            clear hln hlv hly
            by_cases hy0 : y < 0
            · have hyt : decide (y < 0) = true := by simp [hy0]
              go_wp2_with fail
              exact ⟨⟨n + 1, by omega, by go_num, congrArg (Value.int .i64) (by rw [HSE2.out, HLN.out.1.1 hy0]), HM4.out, HG4.out⟩, by simp [intOf]; omega⟩
            · have hyt : decide (y < 0) = false := by simp [hy0]
              go_wp2_with fail
              refine (costs_any _ p h bf n w4 (HPX.out w4 HG4.out) ho (by omega) (by omega) hb16).mono ?_
              rintro e w5 ⟨rfl, hb5⟩
              have HM5 := hid (HM4.out.below hb5)
              have HG5 := hid (HG4.out.trans (below_grown hb5 _))
              clear a0 a1 a2 a3 a4 a5 b0 b1 b2 hb5
              have hhb := Ok_hcost ho h bf n
              generalize hhc : p.hcost h bf n = hc at *
              have HHC := hid hhc
              clear hhc
              have hw2 : IntKind.i64.wrap (y + hc) = y + hc := IntWalk.i64_in _ (by omega)
              cases st with
              | none =>
                simp only [lstO] at *
                go_wp2_with fail
                obtain ⟨c, hcc⟩ : ∃ c, p.bst r (nx, (n : Int)) = some c := by
                  cases e : p.bst r (nx, (n : Int)) with
                  | none => have := HLN.out.1.2 e; omega
                  | some c => exact ⟨c, rfl⟩
                have hyc := HLN.out.2 c hcc
                exact ⟨⟨n + 1, by omega, by go_num, congrArg (Value.int .i64) (by rw [HSE2.out, hcc, hyc]; rfl), HM5.out, HG5.out⟩, by simp [intOf]; omega⟩
              | some a =>
                simp only [lstO] at *
                have hab := HSB.out a rfl
                have hneg : decide (a.1 < 0) = false := by simp; omega
                by_cases hlt2 : y + hc < a.1
                · have hltb : decide (y + hc < a.1) = true := by simp [hlt2]
                  go_wp2_with fail
                  obtain ⟨c, hcc⟩ : ∃ c, p.bst r (nx, (n : Int)) = some c := by
                    cases e : p.bst r (nx, (n : Int)) with
                    | none => have := HLN.out.1.2 e; omega
                    | some c => exact ⟨c, rfl⟩
                  have hyc := HLN.out.2 c hcc
                  exact ⟨⟨n + 1, by omega, by go_num, congrArg (Value.int .i64) (by rw [HSE2.out, hcc]; simp only; rw [if_pos (by omega), hyc]; rfl), HM5.out, HG5.out⟩, by simp [intOf]; omega⟩
                · have hltb : decide (y + hc < a.1) = false := by simp [hlt2]
                  go_wp2_with fail
                  obtain ⟨c, hcc⟩ : ∃ c, p.bst r (nx, (n : Int)) = some c := by
                    cases e : p.bst r (nx, (n : Int)) with
                    | none => have := HLN.out.1.2 e; omega
                    | some c => exact ⟨c, rfl⟩
                  have hyc := HLN.out.2 c hcc
                  exact ⟨⟨n + 1, by omega, by go_num, congrArg (Value.int .i64) (by rw [HSE2.out, hcc]; simp only; rw [if_neg (by omega)]; rfl), HM5.out, HG5.out⟩, by simp [intOf]; omega⟩
          · have hle' : decide (nx > p.high) = true := by simp; omega
            go_wp2_with fail
            exact ⟨⟨n + 1, by omega, by go_num, congrArg (Value.int .i64) (by rw [HSE.out, if_neg (by omega)]), HM3.out, HG3.out⟩, by simp [intOf]; omega⟩
        · have hnl' : decide ((n : Int) < (q : Int)) = false := by simp; omega
          obtain rfl : n = q := by omega
          have hbest : lstO st = p.lst (p.loads.length - h) (heat, (bf : Int)) := by
            rw [hrl, PlantD.lst, ← HST.out, HSN.out]
          obtain ⟨w3, hup, hm3, hg3⟩ := HM2.out.add h heat bf (lstO st) hbest
          have H3 := hid (And.intro hm3 (And.intro hbest (HG2.out.trans hg3)))
          clear hm3 hg3 hbest
          go_wp2_with fail
          go_ret
          refine ⟨?_, H3.out.1, (below_grown HB.out _).trans H3.out.2.2⟩
          have := H3.out.2.1
          rw [hrl] at this
          rw [← this]; rfl
end Go.Proofs.YtjjphiecjhijiaaDoor
