/- glide.run, glide.gone and glide.Run without brooms. -/
import Derived.Test.YtolnhicngepnnaaGreatU4
namespace Go.Proofs.YtolnhicngepnnaaGreat
open Go.RowKit Go.Shelf
attribute [local go_sem] Oper.semAt_some

def Mov.arr (m : Mov) : Array Value := #[.int .i64 m.x, .int .i64 m.y, .int .i64 m.vx, .int .i64 m.vy, .int .i64 m.sp]
def Mov.rest (m : Mov) : Bool := decide (m.vx = 0) && decide (m.vy = 0)
/-- The stone after ticks without brooms. -/
def runK (i : IceD) (g : GrainD) (m : Mov) : Nat → Except Int Mov
  | 0 => .ok m
  | k + 1 => match runK i g m k with | .ok m' => tickI i g 0 m' | .error c => .error c
theorem tickI_ok {i : IceD} {g : GrainD} {str : Nat} {m m' : Mov} (hm : m.ok = true) (h : tickI i g str m = .ok m') : m'.ok = true := by
  unfold tickI tickR at h
  split at h
  · obtain rfl := Except.ok.inj h
    simp only [Mov.ok, movOk, inB, Bool.and_eq_true, decide_eq_true_eq] at hm ⊢
    omega
  · split at h
    · rename_i h2
      obtain rfl := Except.ok.inj h
      exact h2
    · cases h
theorem SlV.keep {w w' : World} {v : Value} {n : Nat} {vs : List Value} (h : SlV w v n vs) (hz : w.heap.size ≤ w'.heap.size) (hk : ∀ k, k < w.heap.size → w'.heap[k]? = w.heap[k]?) : SlV w' v n vs := by
  obtain ⟨a, cap, rfl, hn, hc⟩ := h
  refine ⟨a, cap, rfl, hn, hc.imp id ?_⟩
  rintro ⟨b, off, rfl, hlt, hc⟩
  exact ⟨b, off, rfl, by omega, fun j hj => (World.cell?_of_block (a := ⟨b, off + j, none⟩) (hk b hlt)).trans (hc j hj)⟩
theorem IceAt.keep {w w' : World} {i : IceD} {pv qv : Value} (h : IceAt w i pv qv) (hz : w.heap.size ≤ w'.heap.size) (hk : ∀ k, k < w.heap.size → w'.heap[k]? = w.heap[k]?) : IceAt w' i pv qv := ⟨SlV.keep h.1 hz hk, SlV.keep h.2 hz hk⟩
def shArr (i : IceD) (g : GrainD) (pv qv : Value) : Array Value := #[.int .i64 i.cx, .int .i64 i.cy, .int .i64 i.sd, .int .i64 i.W, .int .i64 i.H, pv, qv, .int .i64 g.fl, .int .i64 g.kn, .int .i64 g.a, .int .i64 g.b, .int .i64 g.c]
def NxM (i : IceD) (g : GrainD) (m : Mov) (most : Nat) (pre : List Mov) (p : Mov) (_ : World) : Prop := ∃ mk, runK i g m pre.length = .ok mk ∧ mk.rest = false ∧ pre.length < most ∧ tickI i g 0 mk = .ok p
def DnM (i : IceD) (g : GrainD) (m : Mov) (most : Nat) (pre : List Mov) (_ : World) : Prop := ∃ mk, runK i g m pre.length = .ok mk ∧ (mk.rest = true ∨ pre.length = most)
def PnM (i : IceD) (g : GrainD) (m : Mov) (most : Nat) (pre : List Mov) (ch : List PanicEntry) (_ : World) : Prop := ∃ mk c, runK i g m pre.length = .ok mk ∧ pre.length < most ∧ tickI i g 0 mk = .error c ∧ ch = gmisfit c
def encM (p : Mov) : Array Value := #[.agg #[.int .i64 p.x, .int .i64 p.y, .int .i64 p.vx, .int .i64 p.vy, .int .i64 p.sp, .int .i64 0]]
theorem put5_oth {w : World} {b k : Nat} (u0 u1 u2 u3 u4 : Value) (h : k ≠ b) :
    (((((w.setCell ⟨b, 0, none⟩ u0).setCell ⟨b, 1, none⟩ u1).setCell ⟨b, 2, none⟩ u2).setCell ⟨b, 3, none⟩ u3).setCell ⟨b, 4, none⟩ u4).heap[k]? = w.heap[k]? := by
  rw [heap_setCell_other _ ⟨b, 4, none⟩ k _ h, heap_setCell_other _ ⟨b, 3, none⟩ k _ h, heap_setCell_other _ ⟨b, 2, none⟩ k _ h, heap_setCell_other _ ⟨b, 1, none⟩ k _ h, heap_setCell_other _ ⟨b, 0, none⟩ k _ h]
set_option maxRecDepth 100000 in
set_option maxHeartbeats 4000000 in
theorem run1_in (n : Nat) (hn : 1 ≤ n) (l bN bM bL bS : Nat) (i : IceD) (g : GrainD) (pv qv : Value) (m : Mov) (most : Nat) (B0 : World) (K : Nat → Prop) (J : (Nat → Prop) → List Mov → World → Prop) (Jp : List PanicEntry → World → Prop) (W : World)
    (hi : i.ok = true) (hg : g.ok = true) (hm : m.ok = true) (h6 : most ≤ 6000) (hat : IceAt B0 i pv qv) (hB0 : B0.heap.size ≤ W.heap.size) (hWB : ∀ k, k < B0.heap.size → W.heap[k]? = B0.heap[k]?)
    (hK1 : ∀ k, k < B0.heap.size → K k) (hK2 : K bN ∧ K bL ∧ K bS) (hKM : ¬ K bM) (hKW : ∀ k, K k → k < W.heap.size)
    (cN : W.heap[bN]? = some (.cells #[.int .i64 (most : Int)] 3 (0, 0))) (cL : W.heap[bL]? = some (.cells #[.slice none 0 0] 68 (0, 0))) (cS : W.heap[bS]? = some (.cells (shArr i g pv qv) 94 (0, 0))) (cM : W.heap[bM]? = some (.cells m.arr 39 (0, 0)))
    (hJ : ∀ O pre W1 W2, J O pre W1 → Ch O W1 W2 → J (NewO O W1 W2) pre W2)
    (hY : ∀ O pre x W1, J O pre W1 → NxM i g m most pre x W1 → YieldAt Fence.wide (n - 1) Tryz.prog l (encM x) W1 fun e W' =>
      (e = .returned (.bool true) ∧ J O (pre ++ [x]) W' ∧ W1.heap.size ≤ W'.heap.size ∧ ∀ k, O k ∨ K k → W'.heap[k]? = W1.heap[k]?) ∨ ∃ ch, e = .panicked ch ∧ Jp ch W')
    (hP : ∀ O pre ch W1, J O pre W1 → PnM i g m most pre ch W1 → Jp ch W1)
    (h0 : J (fun k => k = bM) [] W) :
    CallsIn Fence.wide n Tryz.prog 111 #[.func (.yield l) #[] #[], .pointer (some ⟨bN, 0, none⟩), .pointer (some ⟨bM, 0, none⟩), .pointer (some ⟨bL, 0, none⟩), .pointer (some ⟨bS, 0, none⟩)] W (SPostP J Jp (DnM i g m most)) := by
  have HJ := hid hJ
  have HY := hid hY
  have HP := hid hP
  have HOK := hid (And.intro hi (And.intro hg (And.intro hK1 hK2)))
  have HAT := hid (And.intro hat (And.intro hB0 hWB))
  have HKK := hid (And.intro hKM hKW)
  have HCC := hid (And.intro cN (And.intro cL cS))
  have H6 := hid h6
  obtain ⟨pa, pc, hpv, -, -⟩ := hat.1.open
  obtain ⟨qa, qc, hqv, -, -⟩ := hat.2.open
  have HPQ := hid (And.intro hpv hqv)
  clear hJ hY hP hi hg hK1 hK2 hat hB0 hWB hKM hKW cN cL cS h6 hpv hqv
  refine callsIn_of_wp Tryz.func111 rfl trivial ?_ rfl
  simp only [Tryz.ntmps111, List.size_toArray, List.length_cons, List.length_nil, Nat.reduceAdd, Nat.reduceSub, Array.replicate_succ, Array.replicate_zero, List.push_toArray, List.append_toArray, List.nil_append, List.cons_append]
  gi_wp2_with fail
  gi_loopw [6] (fun x wr => ∃ (k : Nat) (O : Nat → Prop) (pre : List Mov) (mk : Mov), k ≤ most ∧ x = .int .i64 k ∧ Hid (pre.length = k ∧ runK i g m k = .ok mk ∧ mk.ok = true ∧ J O pre wr ∧ O bM ∧ wr.heap[bM]? = some (.cells mk.arr 39 (0, 0)) ∧ (∀ j, K j → wr.heap[j]? = W.heap[j]?) ∧ W.heap.size ≤ wr.heap.size)) (fun x _ => most - (intOf x).toNat)
  case atStart => exact ⟨0, _, [], m, Nat.zero_le _, rfl, hid ⟨rfl, rfl, hm, h0, rfl, cM, fun _ _ => rfl, Nat.le_refl _⟩⟩
  case round =>
    obtain ⟨k, O, pre, mk, hkm, rfl, HI⟩ := hrel
    obtain ⟨wo, rfl⟩ : ∃ wo, wo = wr := ⟨_, rfl⟩
    clear h0 cM hm
    obtain ⟨mx, my, mvx, mvy, msp⟩ := mk
    have hbN := (HI.out.2.2.2.2.2.2.1 bN HOK.out.2.2.2.1).trans HCC.out.1
    have c0 := cellN (i := 0) (v := .int .i64 (most : Int)) hbN rfl
    have d2 := cellN (i := 2) (v := .int .i64 mvx) HI.out.2.2.2.2.2.1 rfl
    have d3 := cellN (i := 3) (v := .int .i64 mvy) HI.out.2.2.2.2.2.1 rfl
    clear hbN
    have stop : (k = most ∨ (mvx = 0 ∧ mvy = 0)) → SPostP J Jp (DnM i g m most) (.returned (.tuple #[])) wo := fun h => by
      obtain ⟨e1, e2, -, e4, -⟩ := HI.out
      refine ⟨O, pre, ⟨_, by rw [e1]; exact e2, ?_⟩, e4⟩
      rcases h with h | ⟨h1, h2⟩
      · exact .inr (by omega)
      · exact .inl (by simp [Mov.rest, h1, h2])
    have HST := hid stop
    clear stop
    by_cases hlt : k < most
    · have hltI : (k : Int) < (most : Int) := by omega
      by_cases hz : mvx = 0 ∧ mvy = 0
      · obtain ⟨z1, z2⟩ := hz
        subst z1 z2
        have HKM := hid hkm
        clear hkm
        gi_wp2_with fail
        refine bodyPost_ret (results_none rfl _ _ _) rfl ?_
        exact HST.out (.inr (by simp))
      · have hz2 : (mvx = 0 ∧ ¬ mvy = 0) ∨ (¬ mvx = 0 ∧ 0 ≤ k) := by omega
        have HNR := hid (show Mov.rest ⟨mx, my, mvx, mvy, msp⟩ = false by
          unfold Mov.rest; dsimp only
          rcases hz2 with ⟨-, h⟩ | ⟨h, -⟩ <;> simp [h])
        obtain ⟨t1, t2, t3⟩ := HAT.out
        have htk := tick113_at i g pv qv ⟨mx, my, mvx, mvy, msp⟩ 0 wo HOK.out.1 HOK.out.2.1 HI.out.2.2.1 (by omega) (t1.keep (by have := HI.out.2.2.2.2.2.2.2; omega) (fun j hj => (HI.out.2.2.2.2.2.2.1 j (HOK.out.2.2.1 j hj)).trans (t3 j hj)))
        rw [show ((0 : Nat) : Int) = 0 from rfl] at htk
        have HTK := hid htk
        clear htk t1 t2 t3 hz HST
        rcases hz2 with ⟨z1, z2⟩ | ⟨z1, z2⟩
        all_goals
          have hbL := (HI.out.2.2.2.2.2.2.1 bL HOK.out.2.2.2.2.1).trans HCC.out.2.1
          have l0 := cellN (i := 0) (v := .slice none 0 0) hbL rfl
          clear hbL
          refine wpIn_wide.2 ?_
          go_wp2_with fail
          refine (strength112_nil _ _).mono ?_
          rintro e w1 ⟨rfl, rfl⟩
          clear z1 z2 l0 c0 d2 d3
          have hbS := (HI.out.2.2.2.2.2.2.1 bS HOK.out.2.2.2.2.2).trans HCC.out.2.2
          have s0 := cellN (i := 0) (v := .int .i64 i.cx) hbS rfl
          have s1 := cellN (i := 1) (v := .int .i64 i.cy) hbS rfl
          have s2 := cellN (i := 2) (v := .int .i64 i.sd) hbS rfl
          have s3 := cellN (i := 3) (v := .int .i64 i.W) hbS rfl
          have s4 := cellN (i := 4) (v := .int .i64 i.H) hbS rfl
          have s5 := cellN (i := 5) (v := pv) hbS rfl
          have s6 := cellN (i := 6) (v := qv) hbS rfl
          have s7 := cellN (i := 7) (v := .int .i64 g.fl) hbS rfl
          have s8 := cellN (i := 8) (v := .int .i64 g.kn) hbS rfl
          have s9 := cellN (i := 9) (v := .int .i64 g.a) hbS rfl
          have s10 := cellN (i := 10) (v := .int .i64 g.b) hbS rfl
          have s11 := cellN (i := 11) (v := .int .i64 g.c) hbS rfl
          have m0 := cellN (i := 0) (v := .int .i64 mx) HI.out.2.2.2.2.2.1 rfl
          have m1 := cellN (i := 1) (v := .int .i64 my) HI.out.2.2.2.2.2.1 rfl
          have m2 := cellN (i := 2) (v := .int .i64 mvx) HI.out.2.2.2.2.2.1 rfl
          have m3 := cellN (i := 3) (v := .int .i64 mvy) HI.out.2.2.2.2.2.1 rfl
          have m4 := cellN (i := 4) (v := .int .i64 msp) HI.out.2.2.2.2.2.1 rfl
          clear hbS
          go_wp2_with fail
          refine HTK.out.mono ?_
          rintro e w2 ⟨he, hb⟩
          have HB := hid hb
          clear hb HTK s0 s1 s2 s3 s4 s5 s6 s7 s8 s9 s10 s11 m0 m1 m2 m3 m4
          obtain ⟨r, hr⟩ : ∃ r, tickI i g 0 ⟨mx, my, mvx, mvy, msp⟩ = r := ⟨_, rfl⟩
          rw [hr] at he
          have HR := hid hr
          clear hr
          cases r with
          | error c =>
            obtain rfl := he
            refine ⟨rfl, HP.out _ pre _ w2 (HJ.out _ _ _ _ HI.out.2.2.2.1 (Ch.of_below HB.out)) ⟨_, c, by rw [HI.out.1]; exact HI.out.2.1, by rw [HI.out.1]; exact hlt, HR.out, rfl⟩⟩
          | ok m2 =>
            have hok2 := tickI_ok HI.out.2.2.1 HR.out
            obtain ⟨nx, ny, nvx, nvy, nsp⟩ := m2
            obtain rfl : e = .returned (movV nx ny nvx nvy nsp) := he
            have hM2 := carry HI.out.2.2.2.2.2.1 HB.out
            have m0 := cellN (i := 0) (v := .int .i64 mx) hM2 rfl
            have m1 := cellN (i := 1) (v := .int .i64 my) hM2 rfl
            have m2 := cellN (i := 2) (v := .int .i64 mvx) hM2 rfl
            have m3 := cellN (i := 3) (v := .int .i64 mvy) hM2 rfl
            have m4 := cellN (i := 4) (v := .int .i64 msp) hM2 rfl
            have f0 := frozN (i := 0) hM2
            have f1 := frozN (i := 1) hM2
            have f2 := frozN (i := 2) hM2
            have f3 := frozN (i := 3) hM2
            have f4 := frozN (i := 4) hM2
            have HM5 := hid (put5 (.int .i64 nx) (.int .i64 ny) (.int .i64 nvx) (.int .i64 nvy) (.int .i64 nsp) hM2)
            have HO5 := hid (fun k (hk : k ≠ bM) => put5_oth (w := w2) (.int .i64 nx) (.int .i64 ny) (.int .i64 nvx) (.int .i64 nvy) (.int .i64 nsp) hk)
            have HB5 := hid (put5_below (b := bM) (.int .i64 nx) (.int .i64 ny) (.int .i64 nvx) (.int .i64 nvy) (.int .i64 nsp) (Below.refl 0 w2) (Nat.zero_le _))
            have HOK2 := hid hok2
            clear hok2 hM2
            obtain ⟨w5, hw5⟩ : ∃ w5, ((((w2.setCell ⟨bM, 0, none⟩ (.int .i64 nx)).setCell ⟨bM, 1, none⟩ (.int .i64 ny)).setCell ⟨bM, 2, none⟩ (.int .i64 nvx)).setCell ⟨bM, 3, none⟩ (.int .i64 nvy)).setCell ⟨bM, 4, none⟩ (.int .i64 nsp) = w5 := ⟨_, rfl⟩
            have hch : Ch O w1 w5 := by
              rw [← hw5]
              refine Ch.trans (Ch.of_below HB.out) ⟨HB5.out, fun k _ hO => HO5.out k (fun e => hO (by rw [e]; exact HI.out.2.2.2.2.1))⟩
            have hJ5 := HJ.out _ _ _ _ HI.out.2.2.2.1 hch
            have HJ5 := hid hJ5
            have HCH := hid hch
            have HW5 := hid hw5
            clear hJ5 hch
            go_upto_region 5 with fail
            (try rw [hw5])
            clear hw5 m0 m1 m2 m3 m4 f0 f1 f2 f3 f4
            have hM5 : w5.heap[bM]? = some (.cells #[.int .i64 nx, .int .i64 ny, .int .i64 nvx, .int .i64 nvy, .int .i64 nsp] 39 (0, 0)) := by rw [← HW5.out]; exact HM5.out
            have HK5 := hid (show ∀ j, K j → w5.heap[j]? = W.heap[j]? from fun j hj => by
              have hjm : j ≠ bM := fun e => HKK.out.1 (e ▸ hj)
              have hjw : j < w1.heap.size := by have := HKK.out.2 j hj; have := HI.out.2.2.2.2.2.2.2; omega
              rw [← HW5.out, HO5.out j hjm, HB.out.block j hjw]
              exact HI.out.2.2.2.2.2.2.1 j hj)
            clear HW5 HM5 HO5 HB5
            have m0 := cellN (i := 0) (v := .int .i64 nx) hM5 rfl
            have m1 := cellN (i := 1) (v := .int .i64 ny) hM5 rfl
            have m2 := cellN (i := 2) (v := .int .i64 nvx) hM5 rfl
            have m3 := cellN (i := 3) (v := .int .i64 nvy) hM5 rfl
            have m4 := cellN (i := 4) (v := .int .i64 nsp) hM5 rfl
            have HM5 := hid hM5
            clear hM5
            obtain ⟨fn, tmps, assign, body, hy, hRR⟩ := HY.out _ pre ⟨nx, ny, nvx, nvy, nsp⟩ w5 HJ5.out ⟨_, by rw [HI.out.1]; exact HI.out.2.1, HNR.out, by rw [HI.out.1]; exact hlt, HR.out⟩
            dsimp only [encM] at hy
            have HRR := hid hRR
            clear hRR
            refine (wpIn_wide (n := n)).1 ?_
            gi_wp2_with fail
            clear hy m0 m1 m2 m3 m4
            refine HRR.out.mono ?_
            rintro e w6 (⟨rfl, hJ6, hz6, hs6⟩ | ⟨ch, rfl, hjp⟩)
            · have HJ6 := hid hJ6
              have HS6 := hid hs6
              have HZ6 := hid hz6
              clear hJ6 hs6 hz6 HRR
              have h6k := H6.out
              gi_wp2_with fail
              go_wp2_with fail
              refine ⟨⟨k + 1, _, pre ++ [⟨nx, ny, nvx, nvy, nsp⟩], ⟨nx, ny, nvx, nvy, nsp⟩, by omega, by go_num, hid ⟨by rw [List.length_append, HI.out.1]; rfl, by unfold runK; rw [HI.out.2.1]; exact HR.out, HOK2.out, HJ6.out, .inl HI.out.2.2.2.2.1, ?_, ?_, ?_⟩⟩, by simp only [intOf]; omega⟩
              · rw [HS6.out bM (.inl (.inl HI.out.2.2.2.2.1))]
                exact HM5.out
              · intro j hj
                rw [HS6.out j (.inr hj)]
                exact HK5.out j hj
              · have h1 := HCH.out.1.size
                have h2 := HZ6.out
                have h3 := HI.out.2.2.2.2.2.2.2
                omega
            · exact ⟨rfl, hjp⟩
    · have hltI : ¬ (k : Int) < (most : Int) := by omega
      have hkk : k = most := by omega
      have HKM := hid hkk
      clear hkk hkm hlt
      gi_wp2_with fail
      refine bodyPost_ret (results_none rfl _ _ _) rfl ?_
      exact HST.out (.inl HKM.out)
end Go.Proofs.YtolnhicngepnnaaGreat
namespace Go.Proofs.YtolnhicngepnnaaGreat
open Go.RowKit Go.Shelf
attribute [local go_sem] Oper.semAt_some

theorem WpAt.block {f : FuncId} {F : Fence} {n : Nat} {P : Program} {Q : Exit → Act → World → Prop} {a : Act} {w : World} {id : Nat} {c : Code} (h : WpAt f F n P c (Exit.inBlock id Q) a w) : WpAt f F n P (.block id c) Q a w := by
  intro b k cs hro hb hF hr
  have hFb : F.fn b.fn := by rw [hb]; exact hF
  have s0 : (lone (b.atR a (.code (.block id c) :: k)) cs w).fenced P F := fenced_calm hFb hr rfl
  obtain ⟨e, a1, w1, q1, r1⟩ := h b (.inBlock id :: k) cs hro hb hF hr
  cases e with
  | normal => exact ⟨.normal, a1, w1, q1, .head s0 stepR_block (StepsIn.trans r1 (.one (fenced_calm hFb hr rfl) stepR_inBlock))⟩
  | exit id' =>
    by_cases hid : id' = id
    · simp only [Exit.inBlock, hid, if_true] at q1
      exact ⟨.normal, a1, w1, q1, .head s0 stepR_block (r1.1 k (by simp [exitTo, hid]))⟩
    · simp only [Exit.inBlock, hid, if_false] at q1
      have hne : (id == id') = false := by simp; exact fun h => hid h.symm
      exact ⟨.exit id', a1, w1, q1, ⟨fun k' hk => .head s0 stepR_block (r1.1 k' (by simp [exitTo, hne, hk])), fun hx hk => by
        obtain ⟨k1, h1, h2⟩ := r1.2 hx (by simp [exitTo, hne, hk])
        exact ⟨k1, h1, .head s0 stepR_block h2⟩⟩⟩
  | goto l => exact ⟨_, a1, w1, q1, ⟨fun k' hk => .head s0 stepR_block (r1.1 k' (by simpa [gotoIn] using hk)), fun hx hk => by
      obtain ⟨k1, h1, h2⟩ := r1.2 hx (by simpa [gotoIn] using hk)
      exact ⟨k1, h1, .head s0 stepR_block h2⟩⟩⟩
  | ret => exact ⟨_, a1, w1, q1, .of_steps (.one s0 stepR_block) r1⟩
  | panic ch => exact ⟨_, a1, w1, q1, .of_steps (.one s0 stepR_block) r1⟩
  | outgrown => exact ⟨_, a1, w1, q1, .of_steps (.one s0 stepR_block) r1⟩
def paceV (p : Mov) : Value := .agg #[.int .i64 p.x, .int .i64 p.y, .int .i64 p.vx, .int .i64 p.vy, .int .i64 p.sp, .int .i64 0]
theorem three_new (w : World) (o1 o2 o3 : Obj) : ∃ W, ((w.alloc o1).alloc o2).alloc o3 = W ∧ W.heap.size = w.heap.size + 3 ∧ Below w.heap.size w W ∧ W.heap[w.heap.size]? = some o1 ∧ W.heap[w.heap.size + 1]? = some o2 ∧ W.heap[w.heap.size + 1 + 1]? = some o3 := by
  refine ⟨_, rfl, by simp, (((Below.refl _ w).alloc (Nat.le_refl _) _).alloc (by simp) _).alloc (by simp <;> omega) _, ?_, ?_, ?_⟩
  · rw [Below.heap_alloc _ _ _ (by simp <;> omega), Below.heap_alloc _ _ _ (by simp)]; exact heap_alloc_new w _
  · rw [Below.heap_alloc _ _ _ (by simp)]; simpa using heap_alloc_new (w.alloc o1) o2
  · simpa using heap_alloc_new ((w.alloc o1).alloc o2) o3
set_option maxRecDepth 100000 in
set_option maxHeartbeats 1000000 in
theorem do28_any (o p : Mov) (tk : Int) (bT : Nat) (w : World) (hT : w.heap[bT]? = some (.cells #[.int .i64 tk] 3 (0, 0))) :
    Calls Tryz.prog 28 #[o.v, paceV p, .pointer (some ⟨bT, 0, none⟩)] w fun e w' => e = .returned p.v ∧ Ch (fun k => k = bT) w w' ∧ ∃ z, w'.heap[bT]? = some (.cells #[.int .i64 z] 3 (0, 0)) := by
  obtain ⟨ox, oy, ovx, ovy, osp⟩ := o
  obtain ⟨px, py, pvx, pvy, psp⟩ := p
  show Calls Tryz.prog 28 #[movV ox oy ovx ovy osp, .agg #[.int .i64 px, .int .i64 py, .int .i64 pvx, .int .i64 pvy, .int .i64 psp, .int .i64 0], _] w _
  obtain ⟨W1, hW1, hz, hb1, p1, p2, p3⟩ := three_new w (.cells #[.int .i64 ox, .int .i64 oy, .int .i64 ovx, .int .i64 ovy, .int .i64 osp] 39) (.cells #[.int .i64 px, .int .i64 py, .int .i64 pvx, .int .i64 pvy, .int .i64 psp, .int .i64 0] 100) (.cells #[.int .i64 0, .int .i64 0, .int .i64 0, .int .i64 0, .int .i64 0] 39)
  have hlt : bT < w.heap.size := (Array.getElem?_eq_some_iff.1 hT).1
  have hT1 := carry hT hb1
  have HT := hid hT1
  have g0 := cellN (i := 0) (v := .int .i64 tk) hT1 rfl
  have f0 := frozN (i := 0) hT1
  have HB := hid hb1
  have HW := hid hW1
  have HP := hid (And.intro p2 p3)
  clear hT hT1 hb1 hW1 p1 p2 p3
  go_enter Tryz.func28, Tryz.ntmps28
  go_upto_region 1 with fail
  rw [HW.out]
  clear HW
  go_upto_region 2 with fail
  obtain ⟨z, hzz⟩ : ∃ z, wrap64 (tk + 1) = z := ⟨_, rfl⟩
  (try rw [hzz])
  clear hzz
  have HT2 := hid (show (W1.setCell ⟨bT, 0, none⟩ (.int .i64 z)).heap[bT]? = some (.cells #[.int .i64 z] 3 (0, 0)) by
    have h := heap_setCell_same W1 bT 0 _ _ (.int .i64 z) HT.out; rw [h]; simp)
  have HO2 := hid (fun k (hk : k ≠ bT) => heap_setCell_other W1 ⟨bT, 0, none⟩ k (.int .i64 z) hk)
  have HB2 := hid ((HB.out.mono (Nat.zero_le _)).setCell (p := ⟨bT, 0, none⟩) (Nat.zero_le _) (.int .i64 z))
  clear g0 f0
  generalize W1.setCell ⟨bT, 0, none⟩ (.int .i64 z) = W2 at *
  have HP2 := hid (show W2.heap[w.heap.size + 1]? = _ ∧ W2.heap[w.heap.size + 1 + 1]? = _ from ⟨(HO2.out _ (by omega)).trans HP.out.1, (HO2.out _ (by omega)).trans HP.out.2⟩)
  have m0 := cellN (i := 0) (v := .int .i64 px) HP2.out.1 rfl
  have m1 := cellN (i := 1) (v := .int .i64 py) HP2.out.1 rfl
  have m2 := cellN (i := 2) (v := .int .i64 pvx) HP2.out.1 rfl
  have m3 := cellN (i := 3) (v := .int .i64 pvy) HP2.out.1 rfl
  have m4 := cellN (i := 4) (v := .int .i64 psp) HP2.out.1 rfl
  have z0 := cellN (i := 0) (v := .int .i64 0) HP2.out.2 rfl
  have z1 := cellN (i := 1) (v := .int .i64 0) HP2.out.2 rfl
  have z2 := cellN (i := 2) (v := .int .i64 0) HP2.out.2 rfl
  have z3 := cellN (i := 3) (v := .int .i64 0) HP2.out.2 rfl
  have z4 := cellN (i := 4) (v := .int .i64 0) HP2.out.2 rfl
  have f0 := frozN (i := 0) HP2.out.2
  have f1 := frozN (i := 1) HP2.out.2
  have f2 := frozN (i := 2) HP2.out.2
  have f3 := frozN (i := 3) HP2.out.2
  have f4 := frozN (i := 4) HP2.out.2
  go_wp2_with fail
  have hp := put5 (.int .i64 px) (.int .i64 py) (.int .i64 pvx) (.int .i64 pvy) (.int .i64 psp) HP2.out.2
  have hb9 := put5_below (b := w.heap.size + 1 + 1) (.int .i64 px) (.int .i64 py) (.int .i64 pvx) (.int .i64 pvy) (.int .i64 psp) HB2.out (Nat.zero_le _)
  refine bodyPost_ret (results_c1 rfl _ _ _ ⟨w.heap.size + 1 + 1, 0, none⟩ _ rfl (load39 _ _ _ _ _ _ _ _ hp)) rfl ⟨rfl, ⟨hb9, fun k hk hne => ?_⟩, z, ?_⟩
  · rw [put5_oth _ _ _ _ _ (by omega), HO2.out k hne, HB.out.block k hk]
  · rw [put5_oth _ _ _ _ _ (by omega)]; exact HT2.out
theorem run65_any (m : Mov) (most : Int) (w : World) (i : IceD) (g : GrainD) (pv qv : Value) (hp : ∃ a n c, pv = .slice a n c) (hq : ∃ a n c, qv = .slice a n c) :
    Calls Tryz.prog 65 #[shV i g pv qv, m.v, .slice none 0 0, .int .i64 most] w fun e w' => e = .returned (.func (.func 111) #[] #[.pointer (some ⟨w.heap.size + 1 + 1 + 1, 0, none⟩), .pointer (some ⟨w.heap.size + 1, 0, none⟩), .pointer (some ⟨w.heap.size + 1 + 1, 0, none⟩), .pointer (some ⟨w.heap.size, 0, none⟩)]) ∧
      (w'.heap[w.heap.size]? = some (.cells (shArr i g pv qv) 94 (0, 0)) ∧ w'.heap[w.heap.size + 1]? = some (.cells m.arr 39 (0, 0)) ∧ w'.heap[w.heap.size + 1 + 1]? = some (.cells #[.slice none 0 0] 68 (0, 0)) ∧ w'.heap[w.heap.size + 1 + 1 + 1]? = some (.cells #[.int .i64 most] 3 (0, 0))) ∧ w'.heap.size = w.heap.size + 4 ∧ Below w.heap.size w w' := by
  obtain ⟨pa, pn, pc, rfl⟩ := hp
  obtain ⟨qa, qn, qc, rfl⟩ := hq
  obtain ⟨mx, my, mvx, mvy, msp⟩ := m
  obtain ⟨W1, hW1, hz, hb1, p1, p2, p3, p4⟩ := four_new w (.cells (shArr i g (.slice pa pn pc) (.slice qa qn qc)) 94) (.cells #[.int .i64 mx, .int .i64 my, .int .i64 mvx, .int .i64 mvy, .int .i64 msp] 39) (.cells #[.slice none 0 0] 68) (.cells #[.int .i64 most] 3)
  have HB := hid hb1
  have HW := hid hW1
  have HP := hid (And.intro p1 (And.intro p2 (And.intro p3 p4)))
  have HZ := hid hz
  have hm := run_makeFunc
  clear hb1 hW1 p1 p2 p3 p4 hz
  unfold shArr at HW
  show Calls Tryz.prog 65 #[sheetV _ _ _ _ _ _ _ _ _ _ _ _, movV mx my mvx mvy msp, _, _] w _
  go_enter Tryz.func65, Tryz.ntmps65
  go_upto_region 1 with fail
  rw [HW.out]
  go_wp2_with fail
  go_ret
  exact ⟨rfl, HP.out, HZ.out, HB.out⟩
end Go.Proofs.YtolnhicngepnnaaGreat
namespace Go.Proofs.YtolnhicngepnnaaGreat
open Go.RowKit Go.Shelf
attribute [local go_sem] Oper.semAt_some

theorem tickI_err {i : IceD} {g : GrainD} {str : Nat} {m : Mov} {c : Int} (h : tickI i g str m = .error c) : c = 4 := by
  unfold tickI tickR at h
  split at h
  · cases h
  · split at h
    · cases h
    · exact (Except.error.inj h).symm
/-- What a loop holds: the stone, the number of ticks; the rest as it was. -/
def GoneI (i : IceD) (g : GrainD) (m : Mov) (bO bT : Nat) (w : World) (k : Nat) (W : World) : Prop :=
  (∃ mo, runK i g m k = .ok mo ∧ W.heap[bO]? = some (.cells mo.arr 39 (0, 0))) ∧ (∃ z, W.heap[bT]? = some (.cells #[.int .i64 z] 3 (0, 0))) ∧ Ch (fun j => j = bO ∨ j = bT) w W
theorem GoneI.kept {i : IceD} {g : GrainD} {m : Mov} {bO bT k : Nat} {w W W' : World} (h : GoneI i g m bO bT w k W) (hO : bO < w.heap.size) (hT : bT < w.heap.size) (hb : Below 0 W W') (hk : ∀ j, j < w.heap.size → W'.heap[j]? = W.heap[j]?) : GoneI i g m bO bT w k W' := by
  obtain ⟨⟨mo, h1, h2⟩, ⟨z, h3⟩, h4⟩ := h
  exact ⟨⟨mo, h1, (hk _ hO).trans h2⟩, ⟨z, (hk _ hT).trans h3⟩, h4.1.trans hb, fun j hj hne => (hk j hj).trans (h4.2 j hj hne)⟩
theorem GoneI.grown {i : IceD} {g : GrainD} {m : Mov} {bO bT k B : Nat} {w W W' : World} {row : Option Nat} (h : GoneI i g m bO bT w k W) (hO : bO < w.heap.size) (hT : bT < w.heap.size) (hg : W.grownBy W' row) (hB : w.heap.size ≤ B) (hr : ∀ r, row = some r → B ≤ r) : GoneI i g m bO bT w k W' :=
  h.kept hO hT ⟨hg.os, hg.tape, hg.output, hg.size, fun _ h => absurd h (Nat.not_lt_zero _)⟩ (fun j hj => hg.block j (by have := h.2.2.1.size; omega) (fun e => by have := hr j e.symm; omega))
set_option maxRecDepth 100000 in
set_option maxHeartbeats 4000000 in
theorem gone64_any (i : IceD) (g : GrainD) (pv qv : Value) (m : Mov) (most : Nat) (b0 b1 b2 b3 b4 bO bT : Nat) (B0 w : World)
    (hi : i.ok = true) (hg : g.ok = true) (hm : m.ok = true) (h6 : most ≤ 6000) (hat : IceAt B0 i pv qv) (hB0 : B0.heap.size ≤ w.heap.size) (hWB : ∀ k, k < B0.heap.size → w.heap[k]? = B0.heap[k]?)
    (hO : B0.heap.size ≤ bO) (hT : B0.heap.size ≤ bT) (hOT : bO ≠ bT) (hO4 : bO ≠ b4) (hT4 : bT ≠ b4)
    (c0 : w.heap[b0]? = some (.cells (shArr i g pv qv) 94 (0, 0))) (c1 : w.heap[b1]? = some (.cells m.arr 39 (0, 0))) (c2 : w.heap[b2]? = some (.cells #[.slice none 0 0] 68 (0, 0))) (c3 : w.heap[b3]? = some (.cells #[.int .i64 (most : Int)] 3 (0, 0)))
    (c4 : w.heap[b4]? = some (.cells #[.func (.func 28) #[] #[.pointer (some ⟨bT, 0, none⟩)]] 101 (0, 0))) (cO : w.heap[bO]? = some (.cells m.arr 39 (0, 0))) (cT : ∃ z, w.heap[bT]? = some (.cells #[.int .i64 z] 3 (0, 0))) :
    Calls Tryz.prog 64 #[.pointer (some ⟨b0, 0, none⟩), .pointer (some ⟨b1, 0, none⟩), .pointer (some ⟨b2, 0, none⟩), .pointer (some ⟨b3, 0, none⟩), .pointer (some ⟨b4, 0, none⟩), .pointer (some ⟨bO, 0, none⟩)] w fun e W' =>
      Ch (fun j => j = bO ∨ j = bT) w W' ∧ ((e = .returned (.tuple #[]) ∧ ∃ k, GoneI i g m bO bT w k W') ∨ (e = .panicked (gmisfit 4) ∧ ∃ z, W'.heap[bT]? = some (.cells #[.int .i64 z] 3 (0, 0)))) := by
  obtain ⟨pa, pc, hpv, -, -⟩ := hat.1.open
  obtain ⟨qa, qc, hqv, -, -⟩ := hat.2.open
  have hlO : bO < w.heap.size := (Array.getElem?_eq_some_iff.1 cO).1
  have hlT : bT < w.heap.size := by obtain ⟨z, hz⟩ := cT; exact (Array.getElem?_eq_some_iff.1 hz).1
  have HRUN := hid (fun W => run65_any m (most : Int) W i g pv qv ⟨_, _, _, hpv⟩ ⟨_, _, _, hqv⟩)
  have HOK := hid (And.intro hi (And.intro hg (And.intro hm h6)))
  have HAT := hid (And.intro hat (And.intro hB0 hWB))
  have HBB := hid (And.intro hO (And.intro hT (And.intro hOT (And.intro hO4 hT4))))
  have HCO := hid (And.intro cO cT)
  have HC4 := hid c4
  obtain ⟨mx, my, mvx, mvy, msp⟩ := m
  have s0 := cellN (i := 0) (v := .int .i64 i.cx) c0 rfl
  have s1 := cellN (i := 1) (v := .int .i64 i.cy) c0 rfl
  have s2 := cellN (i := 2) (v := .int .i64 i.sd) c0 rfl
  have s3 := cellN (i := 3) (v := .int .i64 i.W) c0 rfl
  have s4 := cellN (i := 4) (v := .int .i64 i.H) c0 rfl
  have s5 := cellN (i := 5) (v := pv) c0 rfl
  have s6 := cellN (i := 6) (v := qv) c0 rfl
  have s7 := cellN (i := 7) (v := .int .i64 g.fl) c0 rfl
  have s8 := cellN (i := 8) (v := .int .i64 g.kn) c0 rfl
  have s9 := cellN (i := 9) (v := .int .i64 g.a) c0 rfl
  have s10 := cellN (i := 10) (v := .int .i64 g.b) c0 rfl
  have s11 := cellN (i := 11) (v := .int .i64 g.c) c0 rfl
  have m0 := cellN (i := 0) (v := .int .i64 mx) c1 rfl
  have m1 := cellN (i := 1) (v := .int .i64 my) c1 rfl
  have m2 := cellN (i := 2) (v := .int .i64 mvx) c1 rfl
  have m3 := cellN (i := 3) (v := .int .i64 mvy) c1 rfl
  have m4 := cellN (i := 4) (v := .int .i64 msp) c1 rfl
  have l0 := cellN (i := 0) (v := .slice none 0 0) c2 rfl
  have n0 := cellN (i := 0) (v := .int .i64 (most : Int)) c3 rfl
  clear hi hg hm h6 hat hB0 hWB hO hT hOT hO4 hT4 c0 c1 c2 c3 c4 cO cT hpv hqv
  have HL := hid (And.intro hlO hlT)
  clear hlO hlT
  refine callsIn_wide (n := 10) |>.1 ?_
  refine callsIn_of_at Tryz.func64 rfl trivial ?_ rfl
  simp only [Tryz.ntmps64, List.size_toArray, List.length_cons, List.length_nil, Nat.reduceAdd, Nat.reduceSub, Array.replicate_succ, Array.replicate_zero, List.push_toArray, List.append_toArray, List.nil_append, List.cons_append]
  refine WpAt.seq (WpAt.of ?_)
  gi_wp2_with fail
  refine ⟨trivial, ?_⟩
  refine (callsIn_wide.2 (HRUN.out _)).mono ?_
  rintro e w1 ⟨rfl, hp, hz, hb⟩
  have HP := hid hp
  have HZ := hid hz
  have HB := hid hb
  clear hp hz hb s0 s1 s2 s3 s4 s5 s6 s7 s8 s9 s10 s11 m0 m1 m2 m3 m4 l0 n0
  gi_wp2_with fail
  refine WpAt.block ?_
  refine at_rangeP Tryz.func64 trivial rfl (by omega) (gf := 111) (lb := #[.pointer (some ⟨w.heap.size + 1 + 1 + 1, 0, none⟩), .pointer (some ⟨w.heap.size + 1, 0, none⟩), .pointer (some ⟨w.heap.size + 1 + 1, 0, none⟩), .pointer (some ⟨w.heap.size, 0, none⟩)]) rfl trivial (enters_of Tryz.func111 (by kernel_rfl) rfl)
    (encs := encM) (K := fun k => k < B0.heap.size ∨ k = w.heap.size + 1 + 1 + 1 ∨ k = w.heap.size + 1 + 1 ∨ k = w.heap.size) (O0 := fun k => k = w.heap.size + 1) (Nx := NxM i g ⟨mx, my, mvx, mvy, msp⟩ most) (Dn := DnM i g ⟨mx, my, mvx, mvy, msp⟩ most) (Pn := PnM i g ⟨mx, my, mvx, mvy, msp⟩ most) (w0 := w1) ?seq (Below.refl _ _) (fun _ => rfl) ?hK
    (fun _ pre W => GoneI i g ⟨mx, my, mvx, mvy, msp⟩ bO bT w pre.length W)
    (fun _ pre x a' W => GoneI i g ⟨mx, my, mvx, mvy, msp⟩ bO bT w pre.length W ∧ runK i g ⟨mx, my, mvx, mvy, msp⟩ (pre.length + 1) = .ok x ∧ ∃ T, W.heap[T]? = some (.cells #[.int .i64 x.x, .int .i64 x.y, .int .i64 x.vx, .int .i64 x.vy, .int .i64 x.sp, .int .i64 0] 100 (0, 0)) ∧ w.heap.size + 4 ≤ T ∧ a' = { tmps := #[.pointer (some ⟨b0, 0, none⟩), .pointer (some ⟨b1, 0, none⟩), .pointer (some ⟨b2, 0, none⟩), .pointer (some ⟨b3, 0, none⟩), .pointer (some ⟨b4, 0, none⟩), .pointer (some ⟨bO, 0, none⟩), .pointer (some ⟨T, 0, none⟩), .agg #[.int .i64 i.cx, .int .i64 i.cy, .int .i64 i.sd, .int .i64 i.W, .int .i64 i.H, pv, qv, .int .i64 g.fl, .int .i64 g.kn, .int .i64 g.a, .int .i64 g.b, .int .i64 g.c], .agg #[.int .i64 mx, .int .i64 my, .int .i64 mvx, .int .i64 mvy, .int .i64 msp], .slice none 0 0, .int .i64 (most : Int), .func (.func 111) #[] #[.pointer (some ⟨w.heap.size + 1 + 1 + 1, 0, none⟩), .pointer (some ⟨w.heap.size + 1, 0, none⟩), .pointer (some ⟨w.heap.size + 1 + 1, 0, none⟩), .pointer (some ⟨w.heap.size, 0, none⟩)], .agg #[.int .i64 x.x, .int .i64 x.y, .int .i64 x.vx, .int .i64 x.vy, .int .i64 x.sp, .int .i64 0], undef, undef, undef, undef], defers := [] })
    (fun ch W => ch = gmisfit 4 ∧ Ch (fun j => j = bO ∨ j = bT) w W ∧ ∃ z, W.heap[bT]? = some (.cells #[.int .i64 z] 3 (0, 0)))
    ?hI ?hIs ?hIas ?hDs ?h0 ?assign ?body ?hpi ?done ?panic
  case seq =>
    intro lp J Jp W hbW hJ hY hP h0
    have hs := hbW.size
    refine run1_in 9 (by omega) lp (w.heap.size + 1 + 1 + 1) (w.heap.size + 1) (w.heap.size + 1 + 1) w.heap.size i g pv qv ⟨mx, my, mvx, mvy, msp⟩ most B0 (fun k => k < B0.heap.size ∨ k = w.heap.size + 1 + 1 + 1 ∨ k = w.heap.size + 1 + 1 ∨ k = w.heap.size) J Jp W HOK.out.1 HOK.out.2.1 HOK.out.2.2.1 HOK.out.2.2.2 HAT.out.1 (by have := HAT.out.2.1; have := HZ.out; omega) ?_ (fun k hk => .inl hk) ⟨.inr (.inl rfl), .inr (.inr (.inl rfl)), .inr (.inr (.inr rfl))⟩ ?_ ?_ (carry HP.out.2.2.2 hbW) (carry HP.out.2.2.1 hbW) (carry HP.out.1 hbW) (carry HP.out.2.1 hbW) hJ hY hP h0
    · intro k hk
      have h1 := HAT.out.2.1
      have h2 := HZ.out
      rw [hbW.block k (by omega), HB.out.block k (by omega)]
      exact HAT.out.2.2 k hk
    · rintro (h | h | h | h)
      · have := HAT.out.2.1; omega
      · omega
      · omega
      · omega
    · rintro k (h | h | h | h)
      · have := HAT.out.2.1; have := HZ.out; omega
      · have := HZ.out; omega
      · have := HZ.out; omega
      · have := HZ.out; omega
  case hK =>
    have h1 := HAT.out.2.1
    have h2 := HZ.out
    rintro k ((h | h | h | h) | h)
    all_goals omega
  case hI =>
    intro O pre W W' h hO' hz hc
    have h2 := HZ.out
    refine h.kept HL.out.1 HL.out.2 hc.1 (fun j hj => hc.2 j (by have := h.2.2.1.size; omega) (fun ho => ?_))
    rcases (hO' j ho).1 with h3 | h3 <;> omega
  case hIs =>
    intro O pre W W' row h hg hr
    exact h.grown HL.out.1 HL.out.2 hg (by have := HZ.out; omega) (fun r e => (hr r e).1)
  case hIas =>
    rintro O pre x a' W W' row ⟨h1, h2, T, h3, h4, h5⟩ hg hr
    refine ⟨h1.grown HL.out.1 HL.out.2 hg (by have := HZ.out; omega) (fun r e => (hr r e).1), h2, T, (hg.block T (Array.getElem?_eq_some_iff.1 h3).1 (fun e => ?_)).trans h3, h4, h5⟩
    obtain ⟨o, ho, hcl⟩ := (hr T e.symm).2
    rw [h3] at ho
    cases ho
    cases hcl
  case hDs =>
    intro pre W W' row h _ _
    exact h
  case h0 =>
    exact ⟨⟨_, rfl, carry HCO.out.1 HB.out⟩, by obtain ⟨z, hz⟩ := HCO.out.2; exact ⟨z, carry hz HB.out⟩, HB.out.mono (Nat.zero_le _), fun k hk _ => HB.out.block k hk⟩
  case assign =>
    rintro lp O pre x W ⟨mk, n1, n2, n3, n4⟩ hi hO' hz
    obtain ⟨px, py, pvx, pvy, psp⟩ := x
    have HI := hid hi
    have HO := hid hO'
    have HZZ := hid hz
    have HN := hid (show runK i g ⟨mx, my, mvx, mvy, msp⟩ (pre.length + 1) = .ok ⟨px, py, pvx, pvy, psp⟩ by unfold runK; rw [n1]; exact n4)
    clear hi hO' hz n1 n2 n3 n4
    dsimp only [encM]
    gi_wp2_with fail
    have hnew := heap_alloc_new W (.cells #[.int .i64 px, .int .i64 py, .int .i64 pvx, .int .i64 pvy, .int .i64 psp, .int .i64 0] 100)
    have hb := (Below.refl W.heap.size W).alloc (Nat.le_refl _) (.cells #[.int .i64 px, .int .i64 py, .int .i64 pvx, .int .i64 pvy, .int .i64 psp, .int .i64 0] 100)
    have h2 := HZ.out
    have h3 := HZZ.out
    refine ⟨(KeepsOthers.alloc W _).from _, ?_, HI.out.kept HL.out.1 HL.out.2 (hb.mono (Nat.zero_le _)) (fun j hj => hb.block j (by omega)), HN.out, _, hnew, by omega, rfl⟩
    intro k hk
    refine hb.block k ?_
    rcases hk with h | h | h | h | h
    · exact (HO.out k h).2
    · have := HAT.out.2.1; omega
    · omega
    · omega
    · omega
  case body =>
    rintro lp O pre ⟨px, py, pvx, pvy, psp⟩ a' W hl ⟨rr, hrr⟩ ⟨hi, hn, T, hT, hTl, rfl⟩ hO' hz
    dsimp only at hT ⊢
    obtain ⟨⟨mo, hmo, ho⟩, ⟨z, hz'⟩, hch⟩ := hi
    have hl4 : b4 < w.heap.size := (Array.getElem?_eq_some_iff.1 HC4.out).1
    have h4 := (hch.2 b4 hl4 (fun h => by rcases h with h | h; exact HBB.out.2.2.2.1 h.symm; exact HBB.out.2.2.2.2 h.symm)).trans HC4.out
    have HDO := hid (do28_any mo ⟨px, py, pvx, pvy, psp⟩ z bT W hz')
    have HOut := hid ho
    have HCH := hid hch
    have HN := hid hn
    have HO := hid hO'
    have HTT := hid (And.intro hT hTl)
    have HSZ := hid hz
    obtain ⟨ox, oy, ovx, ovy, osp⟩ := mo
    have f0 := cellN (i := 0) (v := .func (.func 28) #[] #[.pointer (some ⟨bT, 0, none⟩)]) h4 rfl
    have o0 := cellN (i := 0) (v := .int .i64 ox) ho rfl
    have o1 := cellN (i := 1) (v := .int .i64 oy) ho rfl
    have o2 := cellN (i := 2) (v := .int .i64 ovx) ho rfl
    have o3 := cellN (i := 3) (v := .int .i64 ovy) ho rfl
    have o4 := cellN (i := 4) (v := .int .i64 osp) ho rfl
    have t0 := cellN (i := 0) (v := .int .i64 px) hT rfl
    have t1 := cellN (i := 1) (v := .int .i64 py) hT rfl
    have t2 := cellN (i := 2) (v := .int .i64 pvx) hT rfl
    have t3 := cellN (i := 3) (v := .int .i64 pvy) hT rfl
    have t4 := cellN (i := 4) (v := .int .i64 psp) hT rfl
    have t5 := cellN (i := 5) (v := .int .i64 0) hT rfl
    clear hrr hmo ho hz' hch h4 hT hn hO' hz
    gi_wp2_with fail
    refine ⟨trivial, ?_⟩
    refine ((callsIn_wide.2 HDO.out).inRound _).mono ?_
    rintro e w2 ⟨he, hc2, z2, hz2⟩
    obtain rfl : e = .returned (movV px py pvx pvy psp) := he
    have HC2 := hid hc2
    have HT2 := hid hz2
    have hbO : w2.heap[bO]? = some (.cells #[.int .i64 ox, .int .i64 oy, .int .i64 ovx, .int .i64 ovy, .int .i64 osp] 39 (0, 0)) := (hc2.2 bO (Array.getElem?_eq_some_iff.1 HOut.out).1 HBB.out.2.2.1).trans HOut.out
    have HO2 := hid hbO
    clear f0 o0 o1 o2 o3 o4 t0 t1 t2 t3 t4 t5 hc2 hz2
    have o0 := cellN (i := 0) (v := .int .i64 ox) hbO rfl
    have o1 := cellN (i := 1) (v := .int .i64 oy) hbO rfl
    have o2 := cellN (i := 2) (v := .int .i64 ovx) hbO rfl
    have o3 := cellN (i := 3) (v := .int .i64 ovy) hbO rfl
    have o4 := cellN (i := 4) (v := .int .i64 osp) hbO rfl
    have g0 := frozN (i := 0) hbO
    have g1 := frozN (i := 1) hbO
    have g2 := frozN (i := 2) hbO
    have g3 := frozN (i := 3) hbO
    have g4 := frozN (i := 4) hbO
    clear hbO
    gi_wp2_with fail
    clear o0 o1 o2 o3 o4 g0 g1 g2 g3 g4
    have hp := put5 (.int .i64 px) (.int .i64 py) (.int .i64 pvx) (.int .i64 pvy) (.int .i64 psp) HO2.out
    have hoth := fun k (hk : k ≠ bO) => put5_oth (w := w2) (.int .i64 px) (.int .i64 py) (.int .i64 pvx) (.int .i64 pvy) (.int .i64 psp) hk
    have hbel := put5_below (b := bO) (.int .i64 px) (.int .i64 py) (.int .i64 pvx) (.int .i64 pvy) (.int .i64 psp) (Below.refl 0 w2) (Nat.zero_le _)
    generalize ((((w2.setCell ⟨bO, 0, none⟩ (.int .i64 px)).setCell ⟨bO, 1, none⟩ (.int .i64 py)).setCell ⟨bO, 2, none⟩ (.int .i64 pvx)).setCell ⟨bO, 3, none⟩ (.int .i64 pvy)).setCell ⟨bO, 4, none⟩ (.int .i64 psp) = w5 at *
    have hsame : ∀ k, k < W.heap.size → k ≠ bO → k ≠ bT → w5.heap[k]? = W.heap[k]? := fun k hk h1 h2 => (hoth k h1).trans (HC2.out.2 k hk h2)
    have hzz := HZ.out
    have hll := HL.out
    refine ⟨⟨?_, ?_⟩, ?_, ?_, ?_, ?_⟩
    · have h1 := HC2.out.1.size
      have h2 := hbel.size
      omega
    · intro k o hk ho' _
      have hk2 := (Array.getElem?_eq_some_iff.1 ho').1
      rw [hsame k hk2 (by omega) (by omega)]
      exact ho'
    · intro k hk
      have h3 := HSZ.out
      rcases hk with h | h | h | h | h
      · have h5 := HO.out k h
        exact hsame k h5.2 (by rcases h5.1 with h6 | h6 <;> omega) (by rcases h5.1 with h6 | h6 <;> omega)
      · have h6 := HBB.out.1
        have h7 := HBB.out.2.1
        have h8 := HAT.out.2.1
        exact hsame k (by omega) (by omega) (by omega)
      · exact hsame k (by omega) (by omega) (by omega)
      · exact hsame k (by omega) (by omega) (by omega)
      · exact hsame k (by omega) (by omega) (by omega)
    · exact ⟨⟨px, py, pvx, pvy, psp⟩, by rw [List.length_append]; exact HN.out, hp⟩
    · exact ⟨z2, (hoth bT (fun e => HBB.out.2.2.1 e.symm)).trans HT2.out⟩
    · refine ⟨(HCH.out.1.trans HC2.out.1).trans hbel, fun k hk hne => ?_⟩
      have h3 := HSZ.out
      rw [hsame k (by omega) (fun e => hne (.inl e)) (fun e => hne (.inr e))]
      exact HCH.out.2 k hk hne
  case hpi =>
    rintro O pre ch W ⟨mk, c, n1, n2, n3, n4⟩ h
    rw [tickI_err n3] at n4
    exact ⟨n4, h.2.2, h.2.1⟩
  case done =>
    rintro O pre D W hD - h hdef
    have h2 := h.grown HL.out.1 HL.out.2 (grownBy_putObj' W D (.deferred none)) (B := w.heap.size) (Nat.le_refl _) (fun r e => by cases e; have := HZ.out; omega)
    refine ⟨by simp, .inl ⟨D, _, rfl, run_takeDeferred hdef, ?_⟩⟩
    exact ⟨.tuple #[], results_none rfl _ _ _, h2.2.2, .inl ⟨rfl, _, h2⟩⟩
  case panic =>
    rintro ch D W hD ⟨rfl, h, z, hzT⟩ hdef
    refine ⟨by simp, .inl ⟨D, _, rfl, run_takeDeferred hdef, ?_⟩⟩
    have hg := grownBy_putObj' W D (.deferred none)
    refine ⟨⟨h.1.trans ⟨hg.os, hg.tape, hg.output, hg.size, fun _ h => absurd h (Nat.not_lt_zero _)⟩, fun k hk hne => ?_⟩, .inr ⟨rfl, z, (hg.block bT (Array.getElem?_eq_some_iff.1 hzT).1 (by have := HZ.out; have := HL.out; intro e; cases e; omega)).trans hzT⟩⟩
    rw [hg.block k (by have := h.1.size; omega) (by have := HZ.out; intro e; cases e; omega)]
    exact h.2 k hk hne
end Go.Proofs.YtolnhicngepnnaaGreat
namespace Go.Proofs.YtolnhicngepnnaaGreat
open Go.RowKit Go.Shelf

theorem results_w2m {fn : Func} {p u : Tmp} (h : fn.results = #[.cell p 39, .tmp u]) (tmps : Array Value) (w : World) (b : Nat) (m : Mov) (hp : tmps.getD p undef = .pointer (some ⟨b, 0, none⟩)) (hl : w.heap[b]? = some (.cells m.arr 39 (0, 0))) :
    (results fn tmps).run Tryz.prog w = .ok (.tuple #[m.v, tmps.getD u undef]) w := results_w2 h tmps Tryz.prog w ⟨b, 0, none⟩ m.v hp (load39 w b _ _ _ _ _ _ hl)
theorem put5_ch {w W : World} {b : Nat} (S : Nat → Prop) (hb : S b ∨ w.heap.size ≤ b) (u0 u1 u2 u3 u4 : Value) (h : Ch S w W) : Ch S w (((((W.setCell ⟨b, 0, none⟩ u0).setCell ⟨b, 1, none⟩ u1).setCell ⟨b, 2, none⟩ u2).setCell ⟨b, 3, none⟩ u3).setCell ⟨b, 4, none⟩ u4) :=
  ⟨put5_below (b := b) u0 u1 u2 u3 u4 h.1 (Nat.zero_le _), fun k hk hne => (put5_oth u0 u1 u2 u3 u4 (fun e => by subst e; rcases hb with hb | hb; exact hne hb; omega)).trans (h.2 k hk hne)⟩
set_option maxRecDepth 100000 in
set_option maxHeartbeats 4000000 in
theorem gone27_any (i : IceD) (g : GrainD) (pv qv : Value) (m : Mov) (most : Nat) (bT : Nat) (B0 w : World)
    (hi : i.ok = true) (hg : g.ok = true) (hm : m.ok = true) (h6 : most ≤ 6000) (hat : IceAt B0 i pv qv) (hB0 : B0.heap.size ≤ w.heap.size) (hWB : ∀ k, k < B0.heap.size → w.heap[k]? = B0.heap[k]?)
    (hT : B0.heap.size ≤ bT) (cT : ∃ z, w.heap[bT]? = some (.cells #[.int .i64 z] 3 (0, 0))) :
    Calls Tryz.prog 27 #[shV i g pv qv, m.v, .slice none 0 0, .int .i64 (most : Int), m.v, .func (.func 28) #[] #[.pointer (some ⟨bT, 0, none⟩)]] w fun e W' =>
      ∃ (me : Mov) (c : Int), e = .returned (.tuple #[me.v, .int .i64 c]) ∧ ((c = 0 ∧ ∃ k, runK i g m k = .ok me) ∨ c = 4) ∧ Ch (fun j => j = bT) w W' ∧ ∃ z, W'.heap[bT]? = some (.cells #[.int .i64 z] 3 (0, 0)) := by
  have hlT : bT < w.heap.size := by obtain ⟨z, hz⟩ := cT; exact (Array.getElem?_eq_some_iff.1 hz).1
  obtain ⟨pa, pc, hpv, -, -⟩ := hat.1.open
  obtain ⟨qa, qc, hqv, -, -⟩ := hat.2.open
  obtain ⟨W1, hW1, hz1, hb1, p1, p2, p3, p4⟩ := four_new w (.cells (shArr i g pv qv) 94) (.cells m.arr 39) (.cells #[.slice none 0 0] 68) (.cells #[.int .i64 (most : Int)] 3)
  obtain ⟨W2, hW2, hz2, hb2, p5, p6, p7⟩ := three_new W1 (.cells m.arr 39) (.cells #[.func (.func 28) #[] #[.pointer (some ⟨bT, 0, none⟩)]] 101) (.cells #[.int .i64 0, .int .i64 0, .int .i64 0, .int .i64 0, .int .i64 0] 39)
  have e5 : W1.heap.size = w.heap.size + 1 + 1 + 1 + 1 := by omega
  rw [e5] at p5 p6 p7
  have hb12 : Below w.heap.size w W2 := btrans hb1 (by omega) hb2
  obtain ⟨W3, hW3⟩ : ∃ W3, W2.alloc (.cells m.arr 39) = W3 := ⟨_, rfl⟩
  have p8 := heap_alloc_new W2 (.cells m.arr 39)
  have hz3 : W2.heap.size = w.heap.size + 1 + 1 + 1 + 1 + 1 + 1 + 1 := by omega
  rw [hz3, hW3] at p8
  have hb3 : Below w.heap.size w W3 := by rw [← hW3]; exact hb12.alloc hb12.size _
  have hzW : W3.heap.size = w.heap.size + 8 := by rw [← hW3]; simp; omega
  have q1 : W3.heap[w.heap.size]? = some (.cells (shArr i g pv qv) 94 (0, 0)) := by rw [← hW3]; exact carryA (carry p1 hb2) _
  have q2 : W3.heap[w.heap.size + 1]? = some (.cells m.arr 39 (0, 0)) := by rw [← hW3]; exact carryA (carry p2 hb2) _
  have q3 : W3.heap[w.heap.size + 1 + 1]? = some (.cells #[.slice none 0 0] 68 (0, 0)) := by rw [← hW3]; exact carryA (carry p3 hb2) _
  have q4 : W3.heap[w.heap.size + 1 + 1 + 1]? = some (.cells #[.int .i64 (most : Int)] 3 (0, 0)) := by rw [← hW3]; exact carryA (carry p4 hb2) _
  have q6 : W3.heap[w.heap.size + 1 + 1 + 1 + 1 + 1]? = some (.cells #[.func (.func 28) #[] #[.pointer (some ⟨bT, 0, none⟩)]] 101 (0, 0)) := by rw [← hW3]; exact carryA p6 _
  have q7 : W3.heap[w.heap.size + 1 + 1 + 1 + 1 + 1 + 1]? = some (.cells #[.int .i64 0, .int .i64 0, .int .i64 0, .int .i64 0, .int .i64 0] 39 (0, 0)) := by rw [← hW3]; exact carryA p7 _
  obtain ⟨z, hz⟩ := cT
  have qT : W3.heap[bT]? = some (.cells #[.int .i64 z] 3 (0, 0)) := carry hz hb3
  have HTR := hid (tried_g 64 #[.pointer (some ⟨w.heap.size, 0, none⟩), .pointer (some ⟨w.heap.size + 1, 0, none⟩), .pointer (some ⟨w.heap.size + 1 + 1, 0, none⟩), .pointer (some ⟨w.heap.size + 1 + 1 + 1, 0, none⟩), .pointer (some ⟨w.heap.size + 1 + 1 + 1 + 1 + 1, 0, none⟩), .pointer (some ⟨w.heap.size + 1 + 1 + 1 + 1 + 1 + 1 + 1, 0, none⟩)]
    (fun W' => Ch (fun j => j = w.heap.size + 1 + 1 + 1 + 1 + 1 + 1 + 1 ∨ j = bT) (W3.alloc (.cells #[.int .i64 0] 33)) W' ∧ ∃ k, GoneI i g m (w.heap.size + 1 + 1 + 1 + 1 + 1 + 1 + 1) bT (W3.alloc (.cells #[.int .i64 0] 33)) k W')
    (fun c W' => c = 4 ∧ Ch (fun j => j = w.heap.size + 1 + 1 + 1 + 1 + 1 + 1 + 1 ∨ j = bT) (W3.alloc (.cells #[.int .i64 0] 33)) W' ∧ ∃ z, W'.heap[bT]? = some (.cells #[.int .i64 z] 3 (0, 0))) W3 (enters_of Tryz.func64 (by kernel_rfl) rfl)
    ((gone64_any i g pv qv m most w.heap.size (w.heap.size + 1) (w.heap.size + 1 + 1) (w.heap.size + 1 + 1 + 1) (w.heap.size + 1 + 1 + 1 + 1 + 1) (w.heap.size + 1 + 1 + 1 + 1 + 1 + 1 + 1) bT B0 (W3.alloc (.cells #[.int .i64 0] 33)) hi hg hm h6 hat (by simp; omega) (fun k hk => by
        rw [Below.heap_alloc _ _ _ (by omega), hb3.block k (by omega)]; exact hWB k hk) (by omega) hT (by omega) (by omega) (by omega) (carryA q1 _) (carryA q2 _) (carryA q3 _) (carryA q4 _) (carryA q6 _) (carryA p8 _) ⟨z, carryA qT _⟩).mono fun e W' h => ⟨(h.1.2 _ (by simp) (by omega)).trans (heap_alloc_new W3 _), by
      rcases h with ⟨h1, ⟨rfl, h2⟩ | ⟨rfl, h3⟩⟩
      · exact .inl ⟨rfl, h1, h2⟩
      · exact .inr ⟨4, rfl, rfl, h1, h3⟩⟩))
  have HW1 := hid hW1
  have HW2 := hid hW2
  have HW3 := hid hW3
  have HP5 := hid p5
  have HQ7 := hid q7
  have HQT := hid (And.intro hlT (And.intro hzW hb3))
  have HB3 := hid hb3
  have hmf := run_makeFunc
  subst hpv hqv
  clear hi hg hm h6 hat hB0 hWB hT hz hW1 hW2 hW3 hz1 hz2 hz3 hzW hb1 hb2 hb12 hb3 p1 p2 p3 p4 p5 p6 p7 p8 q1 q2 q3 q4 q6 q7 qT e5 hlT
  obtain ⟨mx, my, mvx, mvy, msp⟩ := m
  unfold shArr at HW1
  dsimp only [Mov.arr] at HW1 HW2 HW3 HP5
  show Calls Tryz.prog 27 #[sheetV _ _ _ _ _ _ _ _ _ _ _ _, movV mx my mvx mvy msp, _, _, movV mx my mvx mvy msp, _] w _
  go_enter Tryz.func27, Tryz.ntmps27
  go_upto_region 1 with fail
  rw [HW1.out, HW2.out]
  have m0 := cellN (i := 0) (v := .int .i64 mx) HP5.out rfl
  have m1 := cellN (i := 1) (v := .int .i64 my) HP5.out rfl
  have m2 := cellN (i := 2) (v := .int .i64 mvx) HP5.out rfl
  have m3 := cellN (i := 3) (v := .int .i64 mvy) HP5.out rfl
  have m4 := cellN (i := 4) (v := .int .i64 msp) HP5.out rfl
  have hz2 : W2.heap.size = w.heap.size + 1 + 1 + 1 + 1 + 1 + 1 + 1 := by
    have h1 := HQT.out.2.1
    rw [← HW3.out] at h1
    simp at h1
    omega
  go_upto_region 2 with fail
  rw [HW3.out]
  clear m0 m1 m2 m3 m4 hz2 HW1 HW2 HW3 HP5
  go_wp2_with fail
  refine HTR.out.mono ?_
  rintro e w4 ⟨c, W', rfl, hc, hch⟩
  have hsz := HQT.out.2.1
  have hlt := HQT.out.1
  have hCA : Ch (fun j => j = w.heap.size + 1 + 1 + 1 + 1 + 1 + 1 + 1 ∨ j = bT) (W3.alloc (.cells #[.int .i64 0] 33)) W' := by
    rcases hc with ⟨-, h, -⟩ | ⟨-, h, -⟩ <;> exact h
  have h8 : (W3.alloc (.cells #[.int .i64 0] 33)).heap.size = w.heap.size + 9 := by simp; omega
  have hzW' := hCA.1.size
  have h7 : w4.heap[w.heap.size + 1 + 1 + 1 + 1 + 1 + 1]? = some (.cells #[.int .i64 0, .int .i64 0, .int .i64 0, .int .i64 0, .int .i64 0] 39 (0, 0)) :=
    (hch.2 _ (by omega) (by omega)).trans ((hCA.2 _ (by omega) (by omega)).trans (carryA HQ7.out _))
  have hCW : Ch (fun j => j = bT) w w4 := by
    refine ⟨((HQT.out.2.2.mono (Nat.zero_le _)).alloc (Nat.zero_le _) _ |>.trans hCA.1).trans hch.1, fun k hk hne => ?_⟩
    rw [hch.2 k (by omega) (by omega), hCA.2 k (by omega) (by omega), Below.heap_alloc _ _ _ (by omega), HQT.out.2.2.block k hk]
  have H7 := hid h7
  have HCW := hid hCW
  clear HTR HQ7
  rcases hc with ⟨rfl, -, k, ⟨mo, hmo, hO⟩, ⟨z', hT⟩, -⟩ | ⟨rfl, -, z', hT⟩
  · have hO4 := (hch.2 _ (by omega) (by omega)).trans hO
    have HT4 := hid ((hch.2 _ (by omega) (by omega)).trans hT)
    have HMO := hid hmo
    obtain ⟨ox, oy, ovx, ovy, osp⟩ := mo
    have HO4 := hid hO4
    have m0 := cellN (i := 0) (v := .int .i64 ox) hO4 rfl
    have m1 := cellN (i := 1) (v := .int .i64 oy) hO4 rfl
    have m2 := cellN (i := 2) (v := .int .i64 ovx) hO4 rfl
    have m3 := cellN (i := 3) (v := .int .i64 ovy) hO4 rfl
    have m4 := cellN (i := 4) (v := .int .i64 osp) hO4 rfl
    have z0 := cellN (i := 0) (v := .int .i64 0) h7 rfl
    have z1 := cellN (i := 1) (v := .int .i64 0) h7 rfl
    have z2 := cellN (i := 2) (v := .int .i64 0) h7 rfl
    have z3 := cellN (i := 3) (v := .int .i64 0) h7 rfl
    have z4 := cellN (i := 4) (v := .int .i64 0) h7 rfl
    have f0 := frozN (i := 0) h7
    have f1 := frozN (i := 1) h7
    have f2 := frozN (i := 2) h7
    have f3 := frozN (i := 3) h7
    have f4 := frozN (i := 4) h7
    clear hch hCA h8 hzW' hCW h7 hO hT hmo hO4 hsz
    go_wp2_with fail
    have hp := put5 (.int .i64 ox) (.int .i64 oy) (.int .i64 ovx) (.int .i64 ovy) (.int .i64 osp) H7.out
    have hc9 := put5_ch (b := w.heap.size + 1 + 1 + 1 + 1 + 1 + 1) (fun j => j = bT) (.inr (by omega)) (.int .i64 ox) (.int .i64 oy) (.int .i64 ovx) (.int .i64 ovy) (.int .i64 osp) HCW.out
    refine bodyPost_ret (results_w2m rfl _ _ _ ⟨ox, oy, ovx, ovy, osp⟩ rfl hp) rfl ⟨_, 0, rfl, .inl ⟨rfl, k, HMO.out⟩, hc9, z', ?_⟩
    rw [put5_oth _ _ _ _ _ (by omega)]; exact HT4.out
  · have HT4 := hid ((hch.2 _ (by omega) (by omega)).trans hT)
    have H75 := hid (carryA h7 (.cells #[.int .i64 0, .int .i64 0, .int .i64 0, .int .i64 0, .int .i64 0] 39))
    have HT5 := hid (carryA HT4.out (.cells #[.int .i64 0, .int .i64 0, .int .i64 0, .int .i64 0, .int .i64 0] 39))
    have HCW5 := hid (show Ch (fun j => j = bT) w (w4.alloc (.cells #[.int .i64 0, .int .i64 0, .int .i64 0, .int .i64 0, .int .i64 0] 39)) from ⟨hCW.1.alloc (Nat.zero_le _) _, fun k hk hne => by
      rw [Below.heap_alloc _ _ _ (by have := hCW.1.size; omega)]; exact hCW.2 k hk hne⟩)
    have HN := hid (heap_alloc_new w4 (.cells #[.int .i64 0, .int .i64 0, .int .i64 0, .int .i64 0, .int .i64 0] 39))
    clear hch hCA h8 hzW' hCW h7 hsz hT HT4 H7 HCW
    go_upto_region 5 with fail
    generalize w4.alloc (.cells #[.int .i64 0, .int .i64 0, .int .i64 0, .int .i64 0, .int .i64 0] 39) = w5 at *
    have n0 := cellN (i := 0) (v := .int .i64 0) HN.out rfl
    have n1 := cellN (i := 1) (v := .int .i64 0) HN.out rfl
    have n2 := cellN (i := 2) (v := .int .i64 0) HN.out rfl
    have n3 := cellN (i := 3) (v := .int .i64 0) HN.out rfl
    have n4 := cellN (i := 4) (v := .int .i64 0) HN.out rfl
    have z0 := cellN (i := 0) (v := .int .i64 0) H75.out rfl
    have z1 := cellN (i := 1) (v := .int .i64 0) H75.out rfl
    have z2 := cellN (i := 2) (v := .int .i64 0) H75.out rfl
    have z3 := cellN (i := 3) (v := .int .i64 0) H75.out rfl
    have z4 := cellN (i := 4) (v := .int .i64 0) H75.out rfl
    have f0 := frozN (i := 0) H75.out
    have f1 := frozN (i := 1) H75.out
    have f2 := frozN (i := 2) H75.out
    have f3 := frozN (i := 3) H75.out
    have f4 := frozN (i := 4) H75.out
    go_wp2_with fail
    have hp := put5 (.int .i64 0) (.int .i64 0) (.int .i64 0) (.int .i64 0) (.int .i64 0) H75.out
    have hc9 := put5_ch (b := w.heap.size + 1 + 1 + 1 + 1 + 1 + 1) (fun j => j = bT) (.inr (by omega)) (.int .i64 0) (.int .i64 0) (.int .i64 0) (.int .i64 0) (.int .i64 0) HCW5.out
    refine bodyPost_ret (results_w2m rfl _ _ _ ⟨0, 0, 0, 0, 0⟩ rfl hp) rfl ⟨_, 4, rfl, .inr rfl, hc9, z', ?_⟩
    rw [put5_oth _ _ _ _ _ (by omega)]; exact HT5.out
end Go.Proofs.YtolnhicngepnnaaGreat
namespace Go.Proofs.YtolnhicngepnnaaGreat
open Go.RowKit Go.Shelf

theorem results_w3m {fn : Func} {p q u : Tmp} (h : fn.results = #[.cell p 39, .cell q 3, .tmp u]) (tmps : Array Value) (w : World) (b c : Nat) {m : Mov} {z : Int} (hp : tmps.getD p undef = .pointer (some ⟨b, 0, none⟩)) (hq : tmps.getD q undef = .pointer (some ⟨c, 0, none⟩)) (hl : w.heap[b]? = some (.cells m.arr 39 (0, 0))) (hz : w.heap[c]? = some (.cells #[.int .i64 z] 3 (0, 0))) :
    (results fn tmps).run Tryz.prog w = .ok (.tuple #[m.v, .int .i64 z, tmps.getD u undef]) w := by
  have e : (asAddr (tmps[p]?.getD undef)).run Tryz.prog w = .ok ⟨b, 0, none⟩ w := by
    rw [show tmps[p]?.getD undef = tmps.getD p undef by simp, hp]; simp [go_sem]
  have e2 : (asAddr (tmps[q]?.getD undef)).run Tryz.prog w = .ok ⟨c, 0, none⟩ w := by
    rw [show tmps[q]?.getD undef = tmps.getD q undef by simp, hq]; simp [go_sem]
  have l1 : (loadVar 39 ⟨b, 0, none⟩).run Tryz.prog w = .ok m.v w := load39 w b _ _ _ _ _ _ hl
  have l2 : (loadVar 3 ⟨c, 0, none⟩).run Tryz.prog w = .ok (.int .i64 z) w := by simp [go_sem, World.cell?, hz]
  simp only [results, h]
  simp [Sem.run_bind, Result.andThen, e, l1, e2, l2]
theorem put1_same {w : World} {b : Nat} {t : TypeId} {a0 : Value} (u : Value) (h : w.heap[b]? = some (.cells #[a0] t (0, 0))) : (w.setCell ⟨b, 0, none⟩ u).heap[b]? = some (.cells #[u] t (0, 0)) := by
  have h1 := heap_setCell_same _ b 0 _ _ u h
  rw [h1]; simp
set_option maxRecDepth 100000 in
set_option maxHeartbeats 4000000 in
theorem run11_any (i : IceD) (g : GrainD) (pv qv : Value) (m : Mov) (most : Nat) (w : World)
    (hi : i.ok = true) (hg : g.ok = true) (hm : m.ok = true) (h6 : most ≤ 6000) (hat : IceAt w i pv qv) :
    Calls Tryz.prog 11 #[i.v pv qv, g.v, m.v, .slice none 0 0, .int .i64 (most : Int)] w fun e W' =>
      ∃ (me : Mov) (tk c : Int), e = .returned (.tuple #[me.v, .int .i64 tk, .int .i64 c]) ∧ ((c = 0 ∧ ∃ k, runK i g m k = .ok me) ∨ c = 4) ∧ Below w.heap.size w W' := by
  obtain ⟨pa, pc, hpv, -, -⟩ := hat.1.open
  obtain ⟨qa, qc, hqv, -, -⟩ := hat.2.open
  obtain ⟨W1, hW1, hz1, hb1, p1, p2, p3, p4⟩ := four_new w (.cells #[.int .i64 i.cx, .int .i64 i.cy, .int .i64 i.sd, .int .i64 i.W, .int .i64 i.H, pv, qv] 31) (.cells #[.int .i64 g.fl, .int .i64 g.kn, .int .i64 g.a, .int .i64 g.b, .int .i64 g.c] 24) (.cells m.arr 39) (.cells #[.int .i64 0, .int .i64 0, .int .i64 0, .int .i64 0, .int .i64 0] 39)
  obtain ⟨W2, hW2⟩ : ∃ W2, W1.alloc (.cells #[.int .i64 0] 3) = W2 := ⟨_, rfl⟩
  have e5 : W1.heap.size = w.heap.size + 1 + 1 + 1 + 1 := by omega
  have p5 := heap_alloc_new W1 (.cells #[.int .i64 0] 3)
  rw [e5, hW2] at p5
  have hz2 : W2.heap.size = w.heap.size + 1 + 1 + 1 + 1 + 1 := by rw [← hW2]; simp; omega
  obtain ⟨W3, hW3⟩ : ∃ W3, W2.alloc (.cells (shArr i g pv qv) 94) = W3 := ⟨_, rfl⟩
  have p6 := heap_alloc_new W2 (.cells (shArr i g pv qv) 94)
  rw [hz2, hW3] at p6
  have hzW : W3.heap.size = w.heap.size + 6 := by rw [← hW3]; simp; omega
  have hb2 : Below w.heap.size w W2 := by rw [← hW2]; exact hb1.alloc hb1.size _
  have hb3 : Below w.heap.size w W3 := by rw [← hW3]; exact hb2.alloc hb2.size _
  have r1 : W2.heap[w.heap.size]? = some (.cells #[.int .i64 i.cx, .int .i64 i.cy, .int .i64 i.sd, .int .i64 i.W, .int .i64 i.H, pv, qv] 31 (0, 0)) := by rw [← hW2]; exact carryA p1 _
  have r2 : W2.heap[w.heap.size + 1]? = some (.cells #[.int .i64 g.fl, .int .i64 g.kn, .int .i64 g.a, .int .i64 g.b, .int .i64 g.c] 24 (0, 0)) := by rw [← hW2]; exact carryA p2 _
  have q3 : W3.heap[w.heap.size + 1 + 1]? = some (.cells m.arr 39 (0, 0)) := by rw [← hW3, ← hW2]; exact carryA (carryA p3 _) _
  have q4 : W3.heap[w.heap.size + 1 + 1 + 1]? = some (.cells #[.int .i64 0, .int .i64 0, .int .i64 0, .int .i64 0, .int .i64 0] 39 (0, 0)) := by rw [← hW3, ← hW2]; exact carryA (carryA p4 _) _
  have q5 : W3.heap[w.heap.size + 1 + 1 + 1 + 1]? = some (.cells #[.int .i64 0] 3 (0, 0)) := by rw [← hW3]; exact carryA p5 _
  have HR := hid (fun W (hb : Below w.heap.size w W) => right25_any i.cx i.cy i.sd i.W i.H pv qv i.pl i.ql g.fl g.kn g.a g.b g.c m (.slice none 0 0) [] W (hat.below hb).1 (hat.below hb).2 ⟨none, 0, rfl, by simp, .inl rfl⟩)
  rw [show iceOk i.cx i.cy i.sd i.W i.H i.pl i.ql = true from hi, show grainOk g.fl g.kn g.a g.b g.c = true from hg, hm, show broomsOk [] = true from rfl] at HR
  have HG := hid (fun W (hb : Below w.heap.size w W) (hT : ∃ z, W.heap[w.heap.size + 1 + 1 + 1 + 1]? = some (.cells #[.int .i64 z] 3 (0, 0))) => gone27_any i g pv qv m most (w.heap.size + 1 + 1 + 1 + 1) w W hi hg hm h6 hat hb.size (fun k hk => hb.block k hk) (by omega) hT)
  have HWI := hid (show ∀ W, Calls Tryz.prog 26 #[.int .i64 (most : Int), .int .i64 0, .int .i64 6000] W fun e w' => e = .returned (.bool true) ∧ w' = W from fun W => by
    have h := within26_any (most : Int) 0 6000 W
    rwa [show inB (most : Int) 0 6000 = true by simp [inB]; omega] at h)
  have HW1 := hid hW1
  have HW2 := hid hW2
  have HW3 := hid hW3
  have HR12 := hid (And.intro r1 r2)
  have HQ := hid (And.intro q3 (And.intro q4 q5))
  have HP6 := hid p6
  have HB3 := hid hb3
  have HZ := hid hzW
  have HZ2 := hid hz2
  have hmf := run_makeFunc
  subst hpv hqv
  clear hi hg hm h6 hat hW1 hW2 hW3 hz1 hz2 hzW hb1 hb2 hb3 p1 p2 p3 p4 p5 p6 r1 r2 q3 q4 q5 e5
  obtain ⟨mx, my, mvx, mvy, msp⟩ := m
  dsimp only [Mov.arr] at HW1 HQ
  dsimp only [shArr] at HW3 HP6
  show Calls Tryz.prog 11 #[iceV _ _ _ _ _ _ _, grainV _ _ _ _ _, movV mx my mvx mvy msp, _, _] w _
  go_enter Tryz.func11, Tryz.ntmps11
  go_upto_region 1 with fail
  rw [HW1.out, HW2.out]
  have a0 := cellN (i := 0) (v := .int .i64 i.cx) HR12.out.1 rfl
  have a1 := cellN (i := 1) (v := .int .i64 i.cy) HR12.out.1 rfl
  have a2 := cellN (i := 2) (v := .int .i64 i.sd) HR12.out.1 rfl
  have a3 := cellN (i := 3) (v := .int .i64 i.W) HR12.out.1 rfl
  have a4 := cellN (i := 4) (v := .int .i64 i.H) HR12.out.1 rfl
  have a5 := cellN (i := 5) (v := .slice pa i.pl.length pc) HR12.out.1 rfl
  have a6 := cellN (i := 6) (v := .slice qa i.ql.length qc) HR12.out.1 rfl
  have b0 := cellN (i := 0) (v := .int .i64 g.fl) HR12.out.2 rfl
  have b1 := cellN (i := 1) (v := .int .i64 g.kn) HR12.out.2 rfl
  have b2 := cellN (i := 2) (v := .int .i64 g.a) HR12.out.2 rfl
  have b3 := cellN (i := 3) (v := .int .i64 g.b) HR12.out.2 rfl
  have b4 := cellN (i := 4) (v := .int .i64 g.c) HR12.out.2 rfl
  have hz2 := HZ2.out
  go_upto_region 2 with fail
  rw [HW3.out]
  clear a0 a1 a2 a3 a4 a5 a6 b0 b1 b2 b3 b4 hz2 HW1 HW2 HW3 HZ2 HR12
  have s0 := cellN (i := 0) (v := .int .i64 i.cx) HP6.out rfl
  have s1 := cellN (i := 1) (v := .int .i64 i.cy) HP6.out rfl
  have s2 := cellN (i := 2) (v := .int .i64 i.sd) HP6.out rfl
  have s3 := cellN (i := 3) (v := .int .i64 i.W) HP6.out rfl
  have s4 := cellN (i := 4) (v := .int .i64 i.H) HP6.out rfl
  have s5 := cellN (i := 5) (v := .slice pa i.pl.length pc) HP6.out rfl
  have s6 := cellN (i := 6) (v := .slice qa i.ql.length qc) HP6.out rfl
  have s7 := cellN (i := 7) (v := .int .i64 g.fl) HP6.out rfl
  have s8 := cellN (i := 8) (v := .int .i64 g.kn) HP6.out rfl
  have s9 := cellN (i := 9) (v := .int .i64 g.a) HP6.out rfl
  have s10 := cellN (i := 10) (v := .int .i64 g.b) HP6.out rfl
  have s11 := cellN (i := 11) (v := .int .i64 g.c) HP6.out rfl
  have m0 := cellN (i := 0) (v := .int .i64 mx) HQ.out.1 rfl
  have m1 := cellN (i := 1) (v := .int .i64 my) HQ.out.1 rfl
  have m2 := cellN (i := 2) (v := .int .i64 mvx) HQ.out.1 rfl
  have m3 := cellN (i := 3) (v := .int .i64 mvy) HQ.out.1 rfl
  have m4 := cellN (i := 4) (v := .int .i64 msp) HQ.out.1 rfl
  go_wp2_with fail
  refine (HR.out _ HB3.out).mono ?_
  rintro e w4 ⟨rfl, hb4⟩
  have HB4 := hid (HB3.out.trans (hb4.mono HB3.out.size))
  have HQ4 := hid (And.intro (carry HP6.out hb4) (And.intro (carry HQ.out.1 hb4) (And.intro (carry HQ.out.2.1 hb4) (carry HQ.out.2.2 hb4))))
  have HS4 := hid (show w.heap.size + 6 ≤ w4.heap.size by have := hb4.size; have := HZ.out; omega)
  clear hb4 s0 s1 s2 s3 s4 s5 s6 s7 s8 s9 s10 s11 m0 m1 m2 m3 m4 HR HQ HP6 HB3
  go_wp2_with fail
  refine (HWI.out _).mono ?_
  rintro e w5 ⟨rfl, rfl⟩
  have s0 := cellN (i := 0) (v := .int .i64 i.cx) HQ4.out.1 rfl
  have s1 := cellN (i := 1) (v := .int .i64 i.cy) HQ4.out.1 rfl
  have s2 := cellN (i := 2) (v := .int .i64 i.sd) HQ4.out.1 rfl
  have s3 := cellN (i := 3) (v := .int .i64 i.W) HQ4.out.1 rfl
  have s4 := cellN (i := 4) (v := .int .i64 i.H) HQ4.out.1 rfl
  have s5 := cellN (i := 5) (v := .slice pa i.pl.length pc) HQ4.out.1 rfl
  have s6 := cellN (i := 6) (v := .slice qa i.ql.length qc) HQ4.out.1 rfl
  have s7 := cellN (i := 7) (v := .int .i64 g.fl) HQ4.out.1 rfl
  have s8 := cellN (i := 8) (v := .int .i64 g.kn) HQ4.out.1 rfl
  have s9 := cellN (i := 9) (v := .int .i64 g.a) HQ4.out.1 rfl
  have s10 := cellN (i := 10) (v := .int .i64 g.b) HQ4.out.1 rfl
  have s11 := cellN (i := 11) (v := .int .i64 g.c) HQ4.out.1 rfl
  have m0 := cellN (i := 0) (v := .int .i64 mx) HQ4.out.2.1 rfl
  have m1 := cellN (i := 1) (v := .int .i64 my) HQ4.out.2.1 rfl
  have m2 := cellN (i := 2) (v := .int .i64 mvx) HQ4.out.2.1 rfl
  have m3 := cellN (i := 3) (v := .int .i64 mvy) HQ4.out.2.1 rfl
  have m4 := cellN (i := 4) (v := .int .i64 msp) HQ4.out.2.1 rfl
  go_wp2_with fail
  refine (HG.out _ HB4.out ⟨_, HQ4.out.2.2.2⟩).mono ?_
  rintro e w6 ⟨me, c, rfl, hc, hch, z, hT⟩
  obtain ⟨ox, oy, ovx, ovy, osp⟩ := me
  have HC := hid hc
  have h10 := (hch.2 (w.heap.size + 1 + 1 + 1) (by have := HS4.out; omega) (by omega)).trans HQ4.out.2.2.1
  have HB6 := hid (show Below w.heap.size w w6 from ⟨hch.1.os.trans HB4.out.os, hch.1.tape.trans HB4.out.tape, hch.1.output.trans HB4.out.output, Nat.le_trans HB4.out.size hch.1.size, fun k hk => (hch.2 k (by have := HS4.out; omega) (by omega)).trans (HB4.out.block k hk)⟩)
  have HT6 := hid hT
  have H10 := hid h10
  clear hc hch hT s0 s1 s2 s3 s4 s5 s6 s7 s8 s9 s10 s11 m0 m1 m2 m3 m4 HQ4 HB4 HG
  have z0 := cellN (i := 0) (v := .int .i64 0) h10 rfl
  have z1 := cellN (i := 1) (v := .int .i64 0) h10 rfl
  have z2 := cellN (i := 2) (v := .int .i64 0) h10 rfl
  have z3 := cellN (i := 3) (v := .int .i64 0) h10 rfl
  have z4 := cellN (i := 4) (v := .int .i64 0) h10 rfl
  have f0 := frozN (i := 0) h10
  have f1 := frozN (i := 1) h10
  have f2 := frozN (i := 2) h10
  have f3 := frozN (i := 3) h10
  have f4 := frozN (i := 4) h10
  clear h10
  dsimp only [Mov.v, movV]
  go_upto_region 5 with fail
  have hp := put5 (.int .i64 ox) (.int .i64 oy) (.int .i64 ovx) (.int .i64 ovy) (.int .i64 osp) H10.out
  have hb7 := put5_below (b := w.heap.size + 1 + 1 + 1) (.int .i64 ox) (.int .i64 oy) (.int .i64 ovx) (.int .i64 ovy) (.int .i64 osp) HB6.out (by omega)
  have ht7 := (put5_oth (b := w.heap.size + 1 + 1 + 1) (.int .i64 ox) (.int .i64 oy) (.int .i64 ovx) (.int .i64 ovy) (.int .i64 osp) (by omega : w.heap.size + 1 + 1 + 1 + 1 ≠ w.heap.size + 1 + 1 + 1)).trans HT6.out
  clear z0 z1 z2 z3 z4 f0 f1 f2 f3 f4 H10 HT6 HB6
  generalize (((((w6.setCell ⟨w.heap.size + 1 + 1 + 1, 0, none⟩ (.int .i64 ox)).setCell ⟨w.heap.size + 1 + 1 + 1, 1, none⟩ (.int .i64 oy)).setCell ⟨w.heap.size + 1 + 1 + 1, 2, none⟩ (.int .i64 ovx)).setCell ⟨w.heap.size + 1 + 1 + 1, 3, none⟩ (.int .i64 ovy)).setCell ⟨w.heap.size + 1 + 1 + 1, 4, none⟩ (.int .i64 osp)) = w7 at *
  have HP7 := hid hp
  have HB7 := hid hb7
  have HT7 := hid ht7
  have m0 := cellN (i := 0) (v := .int .i64 ox) hp rfl
  have m1 := cellN (i := 1) (v := .int .i64 oy) hp rfl
  have m2 := cellN (i := 2) (v := .int .i64 ovx) hp rfl
  have m3 := cellN (i := 3) (v := .int .i64 ovy) hp rfl
  have m4 := cellN (i := 4) (v := .int .i64 osp) hp rfl
  have f0 := frozN (i := 0) hp
  have f1 := frozN (i := 1) hp
  have f2 := frozN (i := 2) hp
  have f3 := frozN (i := 3) hp
  have f4 := frozN (i := 4) hp
  have t0 := cellN (i := 0) (v := .int .i64 z) ht7 rfl
  have tf := frozN (i := 0) ht7
  clear hp hb7 ht7
  have hCC := HC.out
  rcases hCC with ⟨rfl, hk⟩ | rfl
  · have HK := hid hk
    clear hk HC
    go_upto_region 7 with fail
    go_region
    all_goals
      go_wp2_with fail
      have hp1 := put5 (.int .i64 ox) (.int .i64 oy) (.int .i64 ovx) (.int .i64 ovy) (.int .i64 osp) HP7.out
      have hp2 := (heap_setCell_other _ ⟨w.heap.size + 1 + 1 + 1 + 1, 0, none⟩ (w.heap.size + 1 + 1 + 1) (.int .i64 z) (show w.heap.size + 1 + 1 + 1 ≠ w.heap.size + 1 + 1 + 1 + 1 by omega)).trans hp1
      have hz1 := (put5_oth (b := w.heap.size + 1 + 1 + 1) (.int .i64 ox) (.int .i64 oy) (.int .i64 ovx) (.int .i64 ovy) (.int .i64 osp) (by omega : w.heap.size + 1 + 1 + 1 + 1 ≠ w.heap.size + 1 + 1 + 1)).trans HT7.out
      have hz2 := put1_same (.int .i64 z) hz1
      have hbz := (put5_below (b := w.heap.size + 1 + 1 + 1) (.int .i64 ox) (.int .i64 oy) (.int .i64 ovx) (.int .i64 ovy) (.int .i64 osp) HB7.out (by omega)).setCell (p := ⟨w.heap.size + 1 + 1 + 1 + 1, 0, none⟩) (by simp; omega) (.int .i64 z)
      clear hp1 hz1 m0 m1 m2 m3 m4 f0 f1 f2 f3 f4 t0 tf
      generalize (((((w7.setCell ⟨w.heap.size + 1 + 1 + 1, 0, none⟩ (.int .i64 ox)).setCell ⟨w.heap.size + 1 + 1 + 1, 1, none⟩ (.int .i64 oy)).setCell ⟨w.heap.size + 1 + 1 + 1, 2, none⟩ (.int .i64 ovx)).setCell ⟨w.heap.size + 1 + 1 + 1, 3, none⟩ (.int .i64 ovy)).setCell ⟨w.heap.size + 1 + 1 + 1, 4, none⟩ (.int .i64 osp)).setCell ⟨w.heap.size + 1 + 1 + 1 + 1, 0, none⟩ (.int .i64 z) = w8 at *
      exact bodyPost_ret (results_w3m (m := ⟨ox, oy, ovx, ovy, osp⟩) (z := z) rfl _ w8.drew (w.heap.size + 1 + 1 + 1) (w.heap.size + 1 + 1 + 1 + 1) rfl rfl hp2 hz2) rfl ⟨⟨ox, oy, ovx, ovy, osp⟩, z, 0, rfl, .inl ⟨rfl, HK.out⟩, hbz.drew⟩
  · clear HC
    go_wp2_with fail
    have hp1 := put5 (.int .i64 0) (.int .i64 0) (.int .i64 0) (.int .i64 0) (.int .i64 0) HP7.out
    have hp2 := (heap_setCell_other _ ⟨w.heap.size + 1 + 1 + 1 + 1, 0, none⟩ (w.heap.size + 1 + 1 + 1) (.int .i64 0) (show w.heap.size + 1 + 1 + 1 ≠ w.heap.size + 1 + 1 + 1 + 1 by omega)).trans hp1
    have hz1 := (put5_oth (b := w.heap.size + 1 + 1 + 1) (.int .i64 0) (.int .i64 0) (.int .i64 0) (.int .i64 0) (.int .i64 0) (by omega : w.heap.size + 1 + 1 + 1 + 1 ≠ w.heap.size + 1 + 1 + 1)).trans HT7.out
    have hz2 := put1_same (.int .i64 0) hz1
    have hbz := (put5_below (b := w.heap.size + 1 + 1 + 1) (.int .i64 0) (.int .i64 0) (.int .i64 0) (.int .i64 0) (.int .i64 0) HB7.out (by omega)).setCell (p := ⟨w.heap.size + 1 + 1 + 1 + 1, 0, none⟩) (by simp; omega) (.int .i64 0)
    clear hp1 hz1 m0 m1 m2 m3 m4 f0 f1 f2 f3 f4 t0 tf
    generalize (((((w7.setCell ⟨w.heap.size + 1 + 1 + 1, 0, none⟩ (.int .i64 0)).setCell ⟨w.heap.size + 1 + 1 + 1, 1, none⟩ (.int .i64 0)).setCell ⟨w.heap.size + 1 + 1 + 1, 2, none⟩ (.int .i64 0)).setCell ⟨w.heap.size + 1 + 1 + 1, 3, none⟩ (.int .i64 0)).setCell ⟨w.heap.size + 1 + 1 + 1, 4, none⟩ (.int .i64 0)).setCell ⟨w.heap.size + 1 + 1 + 1 + 1, 0, none⟩ (.int .i64 0) = w8 at *
    exact bodyPost_ret (results_w3m (m := ⟨0, 0, 0, 0, 0⟩) (z := 0) rfl _ w8 (w.heap.size + 1 + 1 + 1) (w.heap.size + 1 + 1 + 1 + 1) rfl rfl hp2 hz2) rfl ⟨⟨0, 0, 0, 0, 0⟩, 0, 4, rfl, .inr rfl, hbz⟩
end Go.Proofs.YtolnhicngepnnaaGreat
