/- ice.Weight on ice that is the same everywhere. -/
import Derived.Test.YtolnhicngepnnaaGreatV2
import Derived.Test.YtolnhicngepnnaaGreatU9
import Derived.BigRegion
import Derived.BigQuiet
import Derived.WalkMore
import Derived.Deep.QuietTactic
namespace Go.Proofs.YtolnhicngepnnaaGreat
open Go.RowKit

/-- Ice that is the same everywhere. -/
def evenI (p q : Nat) : IceD := ⟨-6553600000, -6553600000, 6553600000, 3, 3, List.replicate 9 (p : Int), List.replicate 9 (q : Int)⟩
theorem okG_rep (p n : Nat) (hp : p ≤ 1000) : okG (List.replicate n (p : Int)) = true := by
  simp only [okG, Bool.not_eq_true', List.any_eq_false]
  intro x hx
  obtain rfl := (List.mem_replicate.1 hx).2
  simp [inB]; omega
theorem evenI_ok (p q : Nat) (hp : p ≤ 1000) (hq : q ≤ 1000) : (evenI p q).ok = true := by
  simp only [IceD.ok, iceOk, evenI, okG_rep p 9 hp, okG_rep q 9 hq]
  simp [placedR, spotOk, inB]
theorem even_gr (p : Nat) (y : Int) (h1 : -4294967296 ≤ y) (h2 : y ≤ 6553600000) : grR (List.replicate 9 (p : Int)) (0 - -6553600000) (y - -6553600000) 6553600000 3 3 = (p : Int) := by
  have ho : outR (0 - -6553600000) (y - -6553600000) 6553600000 3 3 = false := by simp [outR]; omega
  unfold grR
  rw [ho]
  simp only [Bool.false_eq_true, if_false]
  have hin := at_lt (x := 0 - -6553600000) (y := y - -6553600000) (sd := 6553600000) (W := 3) (H := 3) (by omega) (by omega) (outR_in ho)
  have ha : atR (0 - -6553600000) (y - -6553600000) 6553600000 3 3 = (y - -6553600000) / 6553600000 * 3 + (0 - -6553600000) / 6553600000 := by unfold atR; rw [ho]; rfl
  rw [ha]
  generalize (y - -6553600000) / 6553600000 * 3 + (0 - -6553600000) / 6553600000 = k at *
  rw [List.getD_eq_getElem?_getD, List.getElem?_replicate_of_lt (by omega)]
  rfl
theorem even_peb (p q : Nat) (y : Int) (h1 : -4294967296 ≤ y) (h2 : y ≤ 6553600000) : (evenI p q).peb 0 y = p ∧ (evenI p q).pol 0 y = q := by
  unfold IceD.peb IceD.pol evenI
  dsimp only
  rw [even_gr p y h1 h2, even_gr q y h1 h2]
  exact ⟨rfl, rfl⟩
def slowE (p q : Nat) (g : GrainD) : Nat := slowN g.fl.toNat g.kn.toNat g.a.toNat p q
theorem mul22_up (b l : Nat) (h1 : b ≤ 65536) (h2 : l ≤ 300000000) (w : World) : Calls Tryz.prog 22 #[.int .i64 (b : Int), .int .i64 (l : Int), .int .i64 2] w fun e w' => e = .returned (.tuple #[.int .i64 ((upN (b * l) : Nat) : Int), .int .i64 0]) ∧ Below w.heap.size w w' := by
  have hp : b * l ≤ 65536 * 300000000 := Nat.mul_le_mul h1 h2
  have h := mul22_any 97 2 (b : Int) (l : Int) rfl (okF_of (by omega) (by omega)) (okF_of (by omega) (by omega)) (by rw [show (b : Int).natAbs = b from rfl, show (l : Int).natAbs = l from rfl]; omega) w
  rw [mulX_up b l (by omega)] at h
  exact h
theorem slowE_le (p q : Nat) (g : GrainD) (hg : g.ok = true) : slowE p q g ≤ 65536 := by
  obtain ⟨-, k3, -⟩ := g.ok_b hg
  have := slowN_le g.fl.toNat g.kn.toNat g.a.toNat p q (by omega)
  unfold slowE; omega
theorem slow23_even (p q : Nat) (g : GrainD) (pv qv : Value) (y : Int) (hp : p ≤ 1000) (hq : q ≤ 1000) (hg : g.ok = true) (h1 : -4294967296 ≤ y) (h2 : y ≤ 4294967296) (w : World) (hat : IceAt w (evenI p q) pv qv) :
    Calls Tryz.prog 23 #[iceV (-6553600000) (-6553600000) 6553600000 3 3 pv qv, g.v, .agg #[.int .i64 0, .int .i64 y]] w fun e w' => e = .returned (.int .i64 (slowE p q g : Nat)) ∧ Below w.heap.size w w' := by
  obtain ⟨⟨k1, k2⟩, k3, ⟨k4, k5⟩, -⟩ := g.ok_b hg
  have e1 : (g.fl.toNat : Int) = g.fl := by omega
  have e2 : (g.kn.toNat : Int) = g.kn := by omega
  have e3 : (g.a.toNat : Int) = g.a := by omega
  have h := slow37_any (-6553600000) (-6553600000) 6553600000 3 3 0 y pv qv (List.replicate 9 (p : Int)) (List.replicate 9 (q : Int)) g.fl.toNat g.kn.toNat g.a.toNat g.b g.c p q w (by omega) (by omega) (by omega) (by simp [spotOk, inB]) (by simp [spotOk, inB]; omega) hat.1 hat.2 (by simp) (by simp) (by omega) (by omega) (by omega) (even_gr p y h1 (by omega)) (even_gr q y h1 (by omega)) hp hq
  rw [e1, e2, e3] at h
  exact h
set_option maxRecDepth 100000 in
set_option maxHeartbeats 8000000 in
theorem weight8_bad (p q : Nat) (g : GrainD) (pv qv : Value) (f fr : Nat) (hp : p ≤ 1000) (hq : q ≤ 1000) (hf : f < 4294967296) (hfr : fr < 262144000) (w : World) (hat : IceAt w (evenI p q) pv qv) (hgok : g.ok = false) :
    Calls Tryz.prog 8 #[iceV (-6553600000) (-6553600000) 6553600000 3 3 pv qv, g.v, .agg #[.int .i64 0, .int .i64 (-(f : Int))], .int .i64 (-(f : Int) + 1 + (fr : Int))] w fun e w' =>
      e = .returned (.tuple #[.int .i64 0, .int .i64 2]) ∧ Below w.heap.size w w' := by
  obtain ⟨pa, pc, hpv, -, -⟩ := hat.1.open
  obtain ⟨qa, qc, hqv, -, -⟩ := hat.2.open
  rw [show (evenI p q).pl.length = 9 by simp [evenI]] at hpv
  rw [show (evenI p q).ql.length = 9 by simp [evenI]] at hqv
  have HAT := hid hat
  have HR := hid (fun U v h1 h2 h3 => right36_any (-6553600000) (-6553600000) 6553600000 3 3 pv qv (List.replicate 9 (p : Int)) (List.replicate 9 (q : Int)) g.fl g.kn g.a g.b g.c v [(0, -(f : Int))] U h1 h2 h3)
  have hRR : rightR (-6553600000) (-6553600000) 6553600000 3 3 (List.replicate 9 (p : Int)) (List.replicate 9 (q : Int)) g.fl g.kn g.a g.b g.c [(0, -(f : Int))] = g.ok := by
    unfold rightR
    rw [show iceOk (-6553600000) (-6553600000) 6553600000 3 3 (List.replicate 9 (p : Int)) (List.replicate 9 (q : Int)) = true from evenI_ok p q hp hq, show grainOk g.fl g.kn g.a g.b g.c = g.ok from rfl]
    simp [placedR, spotOk, inB]; intro; omega
  rw [hRR, hgok] at HR
  obtain ⟨W1, hW1, hz1, hb1, p1, p2, p3⟩ := three_new w (.cells #[.int .i64 (-6553600000), .int .i64 (-6553600000), .int .i64 6553600000, .int .i64 3, .int .i64 3, .slice pa 9 pc, .slice qa 9 qc] 31) (.cells #[.int .i64 g.fl, .int .i64 g.kn, .int .i64 g.a, .int .i64 g.b, .int .i64 g.c] 24) (.cells #[.int .i64 0, .int .i64 (-(f : Int))] 28)
  have HW1 := hid hW1
  have HX := hid hb1
  have HA := hid p1
  have HB := hid p2
  have HC := hid p3
  have HSP := hid (new_SlP W1 0 (-(f : Int)) 28)
  have HZ1 := hid (show W1.heap.size = w.heap.size + 1 + 1 + 1 from hz1)
  subst hpv hqv
  have hng : ¬ (-(f : Int) + 1 + (fr : Int) ≤ -(f : Int)) := by omega
  have hnm : ¬ (6553600000 < -(f : Int) + 1 + (fr : Int)) := by omega
  obtain ⟨tt, hto⟩ : ∃ tt, -(f : Int) + 1 + (fr : Int) = tt := ⟨_, rfl⟩
  rw [hto] at hng hnm ⊢
  have HTO := hid hto
  have HF := hid (And.intro hf (And.intro hfr (And.intro hp hq)))
  clear hW1 hz1 hb1 p1 p2 p3 hRR hto hf hfr hp hq hat
  generalize hy0 : -(f : Int) = y0 at *
  have HY0 := hid hy0
  clear hy0
  show Calls Tryz.prog 8 #[_, grainV g.fl g.kn g.a g.b g.c, _, _] w _
  go_enter Tryz.func8, Tryz.ntmps8
  go_upto_region 1 with fail
  rw [HW1.out]
  clear HW1
  go_step3
  have a0 := cellN (i := 0) (v := .int .i64 (-6553600000)) HA.out rfl
  have a1 := cellN (i := 1) (v := .int .i64 (-6553600000)) HA.out rfl
  have a2 := cellN (i := 2) (v := .int .i64 6553600000) HA.out rfl
  have a3 := cellN (i := 3) (v := .int .i64 3) HA.out rfl
  have a4 := cellN (i := 4) (v := .int .i64 3) HA.out rfl
  have a5 := cellN (i := 5) (v := .slice pa 9 pc) HA.out rfl
  have a6 := cellN (i := 6) (v := .slice qa 9 qc) HA.out rfl
  have b0 := cellN (i := 0) (v := .int .i64 g.fl) HB.out rfl
  have b1 := cellN (i := 1) (v := .int .i64 g.kn) HB.out rfl
  have b2 := cellN (i := 2) (v := .int .i64 g.a) HB.out rfl
  have b3 := cellN (i := 3) (v := .int .i64 g.b) HB.out rfl
  have b4 := cellN (i := 4) (v := .int .i64 g.c) HB.out rfl
  have s0 := cellN (i := 0) (v := .int .i64 0) HC.out rfl
  have s1 := cellN (i := 1) (v := .int .i64 y0) HC.out rfl
  go_wp2_with fail
  refine (HR.out _ _ ((SlI.below HAT.out.1 (HX.out.alloc HX.out.size _))) (SlI.below HAT.out.2 (HX.out.alloc HX.out.size _)) (by have := HSP.out; rwa [HZ1.out] at this)).mono ?_
  rintro e w2 ⟨rfl, hb2⟩
  have hb2' : Below W1.heap.size W1 w2 := btrans ((Below.refl _ W1).alloc (Nat.le_refl _) _) (by simp) hb2
  have HA2 := hid (carry HA.out hb2')
  have HB2 := hid (carry HB.out hb2')
  have HC2 := hid (carry HC.out hb2')
  have HX2 := hid (HX.out.trans (hb2'.mono HX.out.size))
  clear hb2 hb2' HA HB HC HX HR HSP a0 a1 a2 a3 a4 a5 a6 b0 b1 b2 b3 b4 s0 s1
  have s0 := cellN (i := 0) (v := .int .i64 0) HC2.out rfl
  have s1 := cellN (i := 1) (v := .int .i64 y0) HC2.out rfl
  go_wp2_with fail
  rw [Exit.noGoto_ret]
  go_ret2
  exact ⟨rfl, HX2.out⟩
set_option maxRecDepth 100000 in
set_option maxHeartbeats 8000000 in
theorem weight8_even (p q : Nat) (g : GrainD) (pv qv : Value) (f fr : Nat) (hp : p ≤ 1000) (hq : q ≤ 1000) (hf : f < 4294967296) (hfr : fr < 262144000) (w : World) (hat : IceAt w (evenI p q) pv qv) (hgok : g.ok = true) :
    Calls Tryz.prog 8 #[iceV (-6553600000) (-6553600000) 6553600000 3 3 pv qv, g.v, .agg #[.int .i64 0, .int .i64 (-(f : Int))], .int .i64 (-(f : Int) + 1 + (fr : Int))] w fun e w' =>
      ∃ rt : Nat, e = .returned (.tuple #[.int .i64 (rt : Int), .int .i64 0]) ∧ (2 * slowE p q g * (1 + fr) ≤ rt * rt ∧ rt ≤ 4294967297) ∧ Below w.heap.size w w' := by
  obtain ⟨pa, pc, hpv, -, -⟩ := hat.1.open
  obtain ⟨qa, qc, hqv, -, -⟩ := hat.2.open
  rw [show (evenI p q).pl.length = 9 by simp [evenI]] at hpv
  rw [show (evenI p q).ql.length = 9 by simp [evenI]] at hqv
  have HAT := hid hat
  have HR := hid (fun U v h1 h2 h3 => right36_any (-6553600000) (-6553600000) 6553600000 3 3 pv qv (List.replicate 9 (p : Int)) (List.replicate 9 (q : Int)) g.fl g.kn g.a g.b g.c v [(0, -(f : Int))] U h1 h2 h3)
  have hRR : rightR (-6553600000) (-6553600000) 6553600000 3 3 (List.replicate 9 (p : Int)) (List.replicate 9 (q : Int)) g.fl g.kn g.a g.b g.c [(0, -(f : Int))] = g.ok := by
    unfold rightR
    rw [show iceOk (-6553600000) (-6553600000) 6553600000 3 3 (List.replicate 9 (p : Int)) (List.replicate 9 (q : Int)) = true from evenI_ok p q hp hq, show grainOk g.fl g.kn g.a g.b g.c = g.ok from rfl]
    simp [placedR, spotOk, inB]; intro; omega
  rw [hRR, hgok] at HR
  obtain ⟨W1, hW1, hz1, hb1, p1, p2, p3⟩ := three_new w (.cells #[.int .i64 (-6553600000), .int .i64 (-6553600000), .int .i64 6553600000, .int .i64 3, .int .i64 3, .slice pa 9 pc, .slice qa 9 qc] 31) (.cells #[.int .i64 g.fl, .int .i64 g.kn, .int .i64 g.a, .int .i64 g.b, .int .i64 g.c] 24) (.cells #[.int .i64 0, .int .i64 (-(f : Int))] 28)
  have HW1 := hid hW1
  have HX := hid hb1
  have HA := hid p1
  have HB := hid p2
  have HC := hid p3
  have HSP := hid (new_SlP W1 0 (-(f : Int)) 28)
  have HZ1 := hid (show W1.heap.size = w.heap.size + 1 + 1 + 1 from hz1)
  subst hpv hqv
  have hng : ¬ (-(f : Int) + 1 + (fr : Int) ≤ -(f : Int)) := by omega
  have hnm : ¬ (6553600000 < -(f : Int) + 1 + (fr : Int)) := by omega
  obtain ⟨tt, hto⟩ : ∃ tt, -(f : Int) + 1 + (fr : Int) = tt := ⟨_, rfl⟩
  rw [hto] at hng hnm ⊢
  have HTO := hid hto
  have HF := hid (And.intro hf (And.intro hfr (And.intro hp hq)))
  clear hW1 hz1 hb1 p1 p2 p3 hRR hto hf hfr hp hq hat
  generalize hy0 : -(f : Int) = y0 at *
  have HY0 := hid hy0
  clear hy0
  show Calls Tryz.prog 8 #[_, grainV g.fl g.kn g.a g.b g.c, _, _] w _
  go_enter Tryz.func8, Tryz.ntmps8
  go_upto_region 1 with fail
  rw [HW1.out]
  clear HW1
  go_step3
  have a0 := cellN (i := 0) (v := .int .i64 (-6553600000)) HA.out rfl
  have a1 := cellN (i := 1) (v := .int .i64 (-6553600000)) HA.out rfl
  have a2 := cellN (i := 2) (v := .int .i64 6553600000) HA.out rfl
  have a3 := cellN (i := 3) (v := .int .i64 3) HA.out rfl
  have a4 := cellN (i := 4) (v := .int .i64 3) HA.out rfl
  have a5 := cellN (i := 5) (v := .slice pa 9 pc) HA.out rfl
  have a6 := cellN (i := 6) (v := .slice qa 9 qc) HA.out rfl
  have b0 := cellN (i := 0) (v := .int .i64 g.fl) HB.out rfl
  have b1 := cellN (i := 1) (v := .int .i64 g.kn) HB.out rfl
  have b2 := cellN (i := 2) (v := .int .i64 g.a) HB.out rfl
  have b3 := cellN (i := 3) (v := .int .i64 g.b) HB.out rfl
  have b4 := cellN (i := 4) (v := .int .i64 g.c) HB.out rfl
  have s0 := cellN (i := 0) (v := .int .i64 0) HC.out rfl
  have s1 := cellN (i := 1) (v := .int .i64 y0) HC.out rfl
  go_wp2_with fail
  refine (HR.out _ _ ((SlI.below HAT.out.1 (HX.out.alloc HX.out.size _))) (SlI.below HAT.out.2 (HX.out.alloc HX.out.size _)) (by have := HSP.out; rwa [HZ1.out] at this)).mono ?_
  rintro e w2 ⟨rfl, hb2⟩
  have hb2' : Below W1.heap.size W1 w2 := btrans ((Below.refl _ W1).alloc (Nat.le_refl _) _) (by simp) hb2
  have HA2 := hid (carry HA.out hb2')
  have HB2 := hid (carry HB.out hb2')
  have HC2 := hid (carry HC.out hb2')
  have HX2 := hid (HX.out.trans (hb2'.mono HX.out.size))
  clear hb2 hb2' HA HB HC HX HR HSP a0 a1 a2 a3 a4 a5 a6 b0 b1 b2 b3 b4 s0 s1
  have s0 := cellN (i := 0) (v := .int .i64 0) HC2.out rfl
  have s1 := cellN (i := 1) (v := .int .i64 y0) HC2.out rfl
  have HG := hid hgok
  clear hgok
  go_upto_region 3 with fail
  have s1a : (w2.alloc (.cells #[.int .i64 0, .int .i64 0] 28)).cell? ⟨w.heap.size + 1 + 1, 1, none⟩ = some (.int .i64 y0) := bcs ((Below.refl w2.heap.size w2).alloc (Nat.le_refl _) _) s1
  have s1b : (w2.alloc (.cells #[.int .i64 0, .int .i64 0] 28)).cell? ⟨w.heap.size + 1 + 1, 0, none⟩ = some (.int .i64 0) := bcs ((Below.refl w2.heap.size w2).alloc (Nat.le_refl _) _) s0
  go_region
  go_upto_region 4 with fail
  have HT3 := hid (show ((w2.alloc (.cells #[.int .i64 0, .int .i64 y0] 28)).drew).heap[w2.heap.size]? = some (.cells #[.int .i64 0, .int .i64 y0] 28 (0, 0)) from heap_alloc_new w2 _)
  have HA3 := hid (show ((w2.alloc (.cells #[.int .i64 0, .int .i64 y0] 28)).drew).heap[w.heap.size]? = _ from carryA HA2.out _)
  have HB3 := hid (show ((w2.alloc (.cells #[.int .i64 0, .int .i64 y0] 28)).drew).heap[w.heap.size + 1]? = _ from carryA HB2.out _)
  have HX3 := hid (show Below w.heap.size w ((w2.alloc (.cells #[.int .i64 0, .int .i64 y0] 28)).drew) from (HX2.out.alloc HX2.out.size _).drew)
  have HTL := hid (show w.heap.size + 1 + 1 < w2.heap.size from (Array.getElem?_eq_some_iff.1 HC2.out).1)
  clear s0 s1 s1a s1b HA2 HB2 HX2
  obtain ⟨T, hTE⟩ : ∃ T, w2.heap.size = T := ⟨_, rfl⟩
  rw [hTE] at HT3 HTL ⊢
  clear hTE
  generalize (w2.alloc (.cells #[.int .i64 0, .int .i64 y0] 28)).drew = w3 at *
  have a1 := cellN (i := 1) (v := .int .i64 (-6553600000)) HA3.out rfl
  have hle := slowE_le p q g HG.out
  have HSB := hid hle
  clear hle
  obtain ⟨bN, hbN⟩ : ∃ b, slowE p q g = b := ⟨_, rfl⟩
  rw [hbN] at HSB
  have HSLW := hid (fun y h1 h2 U hat => slow23_even p q g (.slice pa 9 pc) (.slice qa 9 qc) y HF.out.2.2.1 HF.out.2.2.2 HG.out h1 h2 U hat)
  rw [hbN] at HSLW
  have HBN := hid hbN
  clear hbN
  go_wp2_with fail
  go_step3
  go_wp2_with fail
  go_loopw [10, 12, 13] (fun s bo ro wr => ∃ (y : Int) (sm r : Nat), s = .int .i64 (sm : Int) ∧ bo = .int .i64 ((r : Int) * 6553600000 - 6553600000) ∧ ro = .int .i64 (r : Int) ∧ Hid (r ≤ 2 ∧ y0 ≤ y ∧ y < tt ∧ (sm : Int) ≤ y - y0 ∧ (bN : Int) * (y - y0) ≤ 65536 * (sm : Int) ∧ wr.heap[T]? = some (.cells #[.int .i64 0, .int .i64 y] 28 (0, 0)) ∧ wr.heap[w.heap.size]? = some (.cells #[.int .i64 (-6553600000), .int .i64 (-6553600000), .int .i64 6553600000, .int .i64 3, .int .i64 3, .slice pa 9 pc, .slice qa 9 qc] 31 (0, 0)) ∧ wr.heap[w.heap.size + 1]? = some (.cells #[.int .i64 g.fl, .int .i64 g.kn, .int .i64 g.a, .int .i64 g.b, .int .i64 g.c] 24 (0, 0)) ∧ Below w.heap.size w wr)) (fun _ _ _ wr => (tt - intOf ((wr.cell? ⟨T, 1, none⟩).getD undef)).toNat)
  case atStart => exact ⟨y0, 0, 0, rfl, rfl, rfl, hid ⟨by omega, by omega, by have := HTO.out; omega, by omega, by simp, HT3.out, HA3.out, HB3.out, HX3.out⟩⟩
  case round =>
    obtain ⟨y, sm, r, rfl, rfl, rfl, HI⟩ := hrel
    obtain ⟨wo, rfl⟩ : ∃ wo, wo = wr := ⟨_, rfl⟩
    have t0 := cellN (i := 0) (v := .int .i64 0) HI.out.2.2.2.2.2.1 rfl
    have t1 := cellN (i := 1) (v := .int .i64 y) HI.out.2.2.2.2.2.1 rfl
    have hlt := HI.out.2.2.1
    go_wp2_with fail
    go_step3
    go_wp2_with fail
    go_step3
    go_wp2_with fail
    have t4 := cellN (i := 4) (v := .int .i64 3) HI.out.2.2.2.2.2.2.1 rfl
    have t2 := cellN (i := 2) (v := .int .i64 6553600000) HI.out.2.2.2.2.2.2.1 rfl
    have hytt := HI.out.2.2.1
    have htt := HTO.out
    have hy0 := HY0.out
    have hff := HF.out.1
    have hfr := HF.out.2.1
    have hyy := HI.out.2.1
    have hrr := HI.out.1
    go_loopw [12, 13, 14] (fun bo ro nx wr => ∃ (r d : Nat), nx = .int .i64 tt ∧ bo = .int .i64 ((r : Int) * 6553600000 - 6553600000) ∧ ro = .int .i64 (r : Int) ∧ r ≤ 2 ∧ wr = wo.drewN d) (fun _ ro _ _ => 3 - (intOf ro).toNat)
    case atStart => exact ⟨r, 0, rfl, rfl, rfl, hrr, rfl⟩
    case round =>
      obtain ⟨r1, d, rfl, rfl, rfl, hr1, rfl⟩ := hrel
      have hr13 : (r1 : Int) ≤ 3 := by omega
      by_cases hb : (r1 : Int) * 6553600000 - 6553600000 ≤ y
      · have hr2 : r1 ≤ 1 := by omega
        have hw1 : IntKind.i64.wrap ((r1 : Int) + 1) = (r1 : Int) + 1 := by rw [IntKind.wrap_i64]; omega
        have hw2 : IntKind.i64.wrap ((r1 : Int) * 6553600000 - 6553600000 + 6553600000) = (r1 : Int) * 6553600000 - 6553600000 + 6553600000 := by rw [IntKind.wrap_i64]; omega
        go_wp2_with fail
        go_quiet (fail)
        go_wp2_with fail
        refine ⟨⟨r1 + 1, d + nq, rfl, congrArg (Value.int .i64) (by omega), by go_num, by omega, World.drewN_drewN _ _ _⟩, by simp only [intOf]; omega⟩
      · by_cases hbt : (r1 : Int) * 6553600000 - 6553600000 < tt
        · go_wp2_with fail
          obtain ⟨bd, hbd⟩ : ∃ b, (r1 : Int) * 6553600000 - 6553600000 = b := ⟨_, rfl⟩
          have HBD := hid hbd
          rw [hbd] at hb hbt ⊢
          clear hbd
          obtain ⟨part, hpart⟩ : ∃ k, upN (bN * (bd - y).toNat) = k := ⟨_, rfl⟩
          have hlen : (((bd - y).toNat : Nat) : Int) = bd - y := by omega
          have hbl : bN * (bd - y).toNat ≤ (bd - y).toNat * 65536 := by rw [Nat.mul_comm]; exact Nat.mul_le_mul_left _ HSB.out
          have hp1 := upN_ge (bN * (bd - y).toNat)
          have hp2 := upN_le hbl
          rw [hpart] at hp1 hp2
          have hml : ∀ U, Calls Tryz.prog 22 #[.int .i64 (bN : Int), .int .i64 (bd - y), .int .i64 2] U fun e U' => e = .returned (.tuple #[.int .i64 (part : Int), .int .i64 0]) ∧ Below U.heap.size U U' := fun U => by
            have h := mul22_up bN (bd - y).toNat HSB.out (by omega) U
            rwa [hpart, hlen] at h
          have HML := hid hml
          have hmul : (bN : Int) * (bd - y) ≤ 65536 * (part : Int) := by
            have h : ((bN * (bd - y).toNat : Nat) : Int) ≤ ((65536 * part : Nat) : Int) := by exact_mod_cast hp1
            rw [Int.natCast_mul, hlen, Int.natCast_mul] at h
            exact h
          have HMUL := hid hmul
          have hpl : (part : Int) ≤ bd - y := by omega
          have hsm := HI.out.2.2.2.1
          have hHT : (wo.drewN d).heap[T]? = _ := HI.out.2.2.2.2.2.1
          have hHA : (wo.drewN d).heap[w.heap.size]? = _ := HI.out.2.2.2.2.2.2.1
          have hHB : (wo.drewN d).heap[w.heap.size + 1]? = _ := HI.out.2.2.2.2.2.2.2.1
          have HBW := hid (drewNB HI.out.2.2.2.2.2.2.2.2 d)
          have hwx : IntKind.i64.wrap (bd - y) = bd - y := by rw [IntKind.wrap_i64]; omega
          clear hml hmul hbl hp1 hp2 hlen hpart t0 t1 t2 t4 a1
          generalize wo.drewN d = wd at *
          have HQ := hid (show ∀ U, Below wd.heap.size wd U → U.heap[w.heap.size]? = some (.cells #[.int .i64 (-6553600000), .int .i64 (-6553600000), .int .i64 6553600000, .int .i64 3, .int .i64 3, .slice pa 9 pc, .slice qa 9 qc] 31 (0, 0)) ∧ U.heap[w.heap.size + 1]? = some (.cells #[.int .i64 g.fl, .int .i64 g.kn, .int .i64 g.a, .int .i64 g.b, .int .i64 g.c] 24 (0, 0)) ∧ U.heap[T]? = some (.cells #[.int .i64 0, .int .i64 y] 28 (0, 0)) from fun U h => ⟨carry hHA h, carry hHB h, carry hHT h⟩)
          have HSL := hid (fun U (h : Below wd.heap.size wd U) => HSLW.out y (by omega) (by omega) U (HAT.out.below (HBW.out.trans (h.mono HBW.out.size))))
          clear hHT hHA hHB
          dsimp only [GrainD.v] at HSL
          refine wp_region_held_drew (S := (fun U => U.heap[w.heap.size]? = some (.cells #[.int .i64 (-6553600000), .int .i64 (-6553600000), .int .i64 6553600000, .int .i64 3, .int .i64 3, .slice pa 9 pc, .slice qa 9 qc] 31 (0, 0)) ∧ U.heap[w.heap.size + 1]? = some (.cells #[.int .i64 g.fl, .int .i64 g.kn, .int .i64 g.a, .int .i64 g.b, .int .i64 g.c] 24 (0, 0)) ∧ U.heap[T]? = some (.cells #[.int .i64 0, .int .i64 y] 28 (0, 0)))) (by kernel_rfl) (HQ.out _ ((Below.refl _ _).drew)) (fun hH => ?_)
          refine wpAnyH_take (i := 0) (oi := { dst := some 65, op := Go.Op.load 31 (Go.Operand.tmp 4), type := 31, pos := "maker.go:86", after := #[], guard := none }) (v := (.agg #[.int .i64 (-6553600000), .int .i64 (-6553600000), .int .i64 6553600000, .int .i64 3, .int .i64 3, .slice pa 9 pc, .slice qa 9 qc])) rfl (by kernel_rfl) (by kernel_rfl) (by kernel_rfl) (fun _ _ _ h => h) (Or.inl ⟨by rfl, ?_⟩) hH ?_
          · intro w hSw
            (try dsimp only at hSw)
            have q0 := cellN (i := 0) (v := .int .i64 (-6553600000)) hSw.1 rfl
            have q1 := cellN (i := 1) (v := .int .i64 (-6553600000)) hSw.1 rfl
            have q2 := cellN (i := 2) (v := .int .i64 6553600000) hSw.1 rfl
            have q3 := cellN (i := 3) (v := .int .i64 3) hSw.1 rfl
            have q4 := cellN (i := 4) (v := .int .i64 3) hSw.1 rfl
            have q5 := cellN (i := 5) (v := .slice pa 9 pc) hSw.1 rfl
            have q6 := cellN (i := 6) (v := .slice qa 9 qc) hSw.1 rfl
            go_simp
          (try simp only [Act.put, List.setIfInBounds_toArray, List.set_cons_zero, List.set_cons_succ])
          refine wpAnyH_take (i := 1) (oi := { dst := some 66, op := Go.Op.load 24 (Go.Operand.tmp 5), type := 24, pos := "maker.go:86", after := #[], guard := none }) (v := (.agg #[.int .i64 g.fl, .int .i64 g.kn, .int .i64 g.a, .int .i64 g.b, .int .i64 g.c])) rfl (by kernel_rfl) (by kernel_rfl) (by kernel_rfl) (fun _ _ _ h => h) (Or.inl ⟨by rfl, ?_⟩) hH ?_
          · intro w hSw
            (try dsimp only at hSw)
            have q0 := cellN (i := 0) (v := .int .i64 g.fl) hSw.2.1 rfl
            have q1 := cellN (i := 1) (v := .int .i64 g.kn) hSw.2.1 rfl
            have q2 := cellN (i := 2) (v := .int .i64 g.a) hSw.2.1 rfl
            have q3 := cellN (i := 3) (v := .int .i64 g.b) hSw.2.1 rfl
            have q4 := cellN (i := 4) (v := .int .i64 g.c) hSw.2.1 rfl
            go_simp
          (try simp only [Act.put, List.setIfInBounds_toArray, List.set_cons_zero, List.set_cons_succ])
          refine wpAnyH_take (i := 2) (oi := { dst := some 67, op := Go.Op.load 28 (Go.Operand.tmp 11), type := 28, pos := "maker.go:86", after := #[], guard := none }) (v := (.agg #[.int .i64 0, .int .i64 y])) rfl (by kernel_rfl) (by kernel_rfl) (by kernel_rfl) (fun _ _ _ h => h) (Or.inl ⟨by rfl, ?_⟩) hH ?_
          · intro w hSw
            (try dsimp only at hSw)
            have q0 := cellN (i := 0) (v := .int .i64 0) hSw.2.2 rfl
            have q1 := cellN (i := 1) (v := .int .i64 y) hSw.2.2 rfl
            go_simp
          (try simp only [Act.put, List.setIfInBounds_toArray, List.set_cons_zero, List.set_cons_succ])
          refine wpAnyH_take (i := 4) (oi := { dst := some 69, op := Go.Op.move (Go.Operand.tmp 14), type := 22, pos := "maker.go:86", after := #[], guard := none }) (v := (.int .i64 bd)) rfl (by kernel_rfl) (by kernel_rfl) (by kernel_rfl) (fun _ _ _ h => h) (Or.inl ⟨by rfl, ?_⟩) hH ?_
          · intro w hSw
            (try dsimp only at hSw)
            go_simp
          (try simp only [Act.put, List.setIfInBounds_toArray, List.set_cons_zero, List.set_cons_succ])
          refine wpAnyH_take (i := 5) (oi := { dst := some 70, op := Go.Op.fieldAddr 28 (Go.Operand.tmp 11) 1, type := 0, pos := "maker.go:86", after := #[], guard := none }) (v := (.pointer (some ⟨T, 1, none⟩))) rfl (by kernel_rfl) (by kernel_rfl) (by kernel_rfl) (fun _ _ _ h => h) (Or.inl ⟨by rfl, ?_⟩) hH ?_
          · intro w hSw
            (try dsimp only at hSw)
            go_simp
          (try simp only [Act.put, List.setIfInBounds_toArray, List.set_cons_zero, List.set_cons_succ])
          refine wpAnyH_take (i := 6) (oi := { dst := some 71, op := Go.Op.load 22 (Go.Operand.tmp 70), type := 22, pos := "maker.go:86", after := #[{ on := 5, ground := Go.Ground.data }], guard := none }) (v := (.int .i64 y)) rfl (by kernel_rfl) (by kernel_rfl) (by kernel_rfl) (fun _ _ _ h => h) (Or.inl ⟨by rfl, ?_⟩) hH ?_
          · intro w hSw
            (try dsimp only at hSw)
            have q0 := cellN (i := 1) (v := .int .i64 y) hSw.2.2 rfl
            go_simp
          (try simp only [Act.put, List.setIfInBounds_toArray, List.set_cons_zero, List.set_cons_succ])
          refine wpAnyH_take (i := 7) (oi := { dst := some 72, op := Go.Op.binOp Go.BinOp.sub 22 (Go.Operand.tmp 69) (Go.Operand.tmp 71) 22, type := 22, pos := "maker.go:86", after := #[{ on := 4, ground := Go.Ground.data }, { on := 6, ground := Go.Ground.data }], guard := none }) (v := (.int .i64 (bd - y))) rfl (by kernel_rfl) (by kernel_rfl) (by kernel_rfl) (fun _ _ _ h => h) (Or.inl ⟨by rfl, ?_⟩) hH ?_
          · intro w hSw
            (try dsimp only at hSw)
            go_simp
          (try simp only [Act.put, List.setIfInBounds_toArray, List.set_cons_zero, List.set_cons_succ])
          refine wpAnyH_ready (rs := [3]) (by kernel_rfl) (by simp) ?_
          refine AllReadyH.cons rfl (fun K hK => ?_) AllReadyH.nil
          (try dsimp only at hH)
          go_simp
          refine (HSL.out _ ((Below.refl _ _).drew)).mono ?_
          rintro e u1 ⟨rfl, hb1⟩
          refine hK.out _ _ (HQ.out _ (btrans ((Below.refl _ _).drew) (Nat.le_refl _) hb1)) (fun hH1 => ?_)
          clear hK K
          (try simp only [Act.put, List.setIfInBounds_toArray, List.set_cons_zero, List.set_cons_succ])
          refine wpAnyH_ready (rs := [8]) (by kernel_rfl) (by simp) ?_
          refine AllReadyH.cons rfl (fun K hK => ?_) AllReadyH.nil
          (try dsimp only at hH1)
          go_simp
          refine (HML.out _).mono ?_
          rintro e u2 ⟨rfl, hb2⟩
          refine hK.out _ _ (HQ.out _ (btrans (btrans ((Below.refl _ _).drew) (Nat.le_refl _) hb1) (Nat.le_refl _) hb2)) (fun hH2 => ?_)
          clear hK K
          (try simp only [Act.put, List.setIfInBounds_toArray, List.set_cons_zero, List.set_cons_succ])
          refine wpAnyH_take (i := 9) (oi := { dst := some 64, op := Go.Op.move (Go.Operand.tmp 73), type := 34, pos := "maker.go:86", after := #[{ on := 8, ground := Go.Ground.data }], guard := none }) (v := (.tuple #[.int .i64 (part : Int), .int .i64 0])) rfl (by kernel_rfl) (by kernel_rfl) (by kernel_rfl) (fun _ _ _ h => h) (Or.inl ⟨by rfl, ?_⟩) hH2 ?_
          · intro w hSw
            (try dsimp only at hSw)
            go_simp
          (try simp only [Act.put, List.setIfInBounds_toArray, List.set_cons_zero, List.set_cons_succ])
          refine wpAnyH_take (i := 10) (oi := { dst := some 74, op := Go.Op.extract (Go.Operand.tmp 64) 0, type := 22, pos := "maker.go:86", after := #[{ on := 9, ground := Go.Ground.data }], guard := none }) (v := (.int .i64 (part : Int))) rfl (by kernel_rfl) (by kernel_rfl) (by kernel_rfl) (fun _ _ _ h => h) (Or.inl ⟨by rfl, ?_⟩) hH2 ?_
          · intro w hSw
            (try dsimp only at hSw)
            go_simp
          (try simp only [Act.put, List.setIfInBounds_toArray, List.set_cons_zero, List.set_cons_succ])
          refine wpAnyH_take (i := 11) (oi := { dst := some 75, op := Go.Op.extract (Go.Operand.tmp 64) 1, type := 33, pos := "maker.go:86", after := #[{ on := 9, ground := Go.Ground.data }, { on := 12, ground := Go.Ground.gcOnly Go.Departure.lateStores }], guard := none }) (v := (.int .i64 0)) rfl (by kernel_rfl) (by kernel_rfl) (by kernel_rfl) (fun _ _ _ h => h) (Or.inl ⟨by rfl, ?_⟩) hH2 ?_
          · intro w hSw
            (try dsimp only at hSw)
            go_simp
          (try simp only [Act.put, List.setIfInBounds_toArray, List.set_cons_zero, List.set_cons_succ])
          refine wpAnyH_take (i := 12) (oi := { dst := some 15, op := Go.Op.assign (Go.Operand.tmp 74), type := 22, pos := "maker.go:86", after := #[{ on := 10, ground := Go.Ground.data }, { on := 8, ground := Go.Ground.chain }, { on := 0, ground := Go.Ground.phase }, { on := 1, ground := Go.Ground.phase }, { on := 2, ground := Go.Ground.phase }, { on := 3, ground := Go.Ground.phase }, { on := 4, ground := Go.Ground.phase }, { on := 5, ground := Go.Ground.phase }, { on := 6, ground := Go.Ground.phase }, { on := 7, ground := Go.Ground.phase }, { on := 8, ground := Go.Ground.phase }, { on := 9, ground := Go.Ground.phase }, { on := 10, ground := Go.Ground.phase }, { on := 11, ground := Go.Ground.textOnly Go.Departure.lateStores }], guard := none }) (v := (.int .i64 (part : Int))) rfl (by kernel_rfl) (by kernel_rfl) (by kernel_rfl) (fun _ _ _ h => h) (Or.inl ⟨by rfl, ?_⟩) hH2 ?_
          · intro w hSw
            (try dsimp only at hSw)
            go_simp
          (try simp only [Act.put, List.setIfInBounds_toArray, List.set_cons_zero, List.set_cons_succ])
          refine wpAnyH_take (i := 13) (oi := { dst := some 16, op := Go.Op.assign (Go.Operand.tmp 75), type := 33, pos := "maker.go:86", after := #[{ on := 11, ground := Go.Ground.data }, { on := 12, ground := Go.Ground.chain }, { on := 0, ground := Go.Ground.phase }, { on := 1, ground := Go.Ground.phase }, { on := 2, ground := Go.Ground.phase }, { on := 3, ground := Go.Ground.phase }, { on := 4, ground := Go.Ground.phase }, { on := 5, ground := Go.Ground.phase }, { on := 6, ground := Go.Ground.phase }, { on := 7, ground := Go.Ground.phase }, { on := 8, ground := Go.Ground.phase }, { on := 9, ground := Go.Ground.phase }, { on := 10, ground := Go.Ground.phase }, { on := 11, ground := Go.Ground.phase }, { on := 12, ground := Go.Ground.phase }], guard := none }) (v := (.int .i64 0)) rfl (by kernel_rfl) (by kernel_rfl) (by kernel_rfl) (fun _ _ _ h => h) (Or.inl ⟨by rfl, ?_⟩) hH2 ?_
          · intro w hSw
            (try dsimp only at hSw)
            go_simp
          (try simp only [Act.put, List.setIfInBounds_toArray, List.set_cons_zero, List.set_cons_succ])
          refine wpAnyH_done (by kernel_rfl) ?_ _
          have HB8 := hid (HBW.out.trans ((btrans (btrans ((Below.refl _ _).drew) (Nat.le_refl _) hb1) (Nat.le_refl _) hb2).mono HBW.out.size))
          have HT8 := hid (HQ.out _ (btrans (btrans ((Below.refl _ _).drew) (Nat.le_refl _) hb1) (Nat.le_refl _) hb2)).2.2
          have HA8 := hid (HQ.out _ (btrans (btrans ((Below.refl _ _).drew) (Nat.le_refl _) hb1) (Nat.le_refl _) hb2)).1
          have HBB8 := hid (HQ.out _ (btrans (btrans ((Below.refl _ _).drew) (Nat.le_refl _) hb1) (Nat.le_refl _) hb2)).2.1
          clear HQ HSL HML hH hH1 hH2 hb1 hb2
          have t1 := cellN (i := 1) (v := .int .i64 y) HT8.out rfl
          have tf := frozN (i := 1) HT8.out
          have hws : IntKind.i64.wrap ((sm : Int) + (part : Int)) = (sm : Int) + (part : Int) := by rw [IntKind.wrap_i64]; omega
          go_wp2_with fail
          rw [Exit.noGoto_normal]
          go_wp2_with fail
          have hT9 : (u2.setCell ⟨T, 1, none⟩ (.int .i64 bd)).heap[T]? = some (.cells #[.int .i64 0, .int .i64 bd] 28 (0, 0)) := by
            have h := heap_setCell_same u2 T 1 _ _ (.int .i64 bd) HT8.out
            rw [h]; simp
          have e1 := cellN (i := 1) (v := .int .i64 bd) hT9 rfl
          have e2 := cellN (i := 1) (v := .int .i64 y) HI.out.2.2.2.2.2.1 rfl
          have hmm := HMUL.out
          have hm0 := HI.out.2.2.2.2.1
          have hm1 : (bN : Int) * (y - y0) + (bN : Int) * (bd - y) = (bN : Int) * (bd - y0) := by rw [← Int.mul_add]; congr 1; omega
          have htl := HTL.out
          refine ⟨⟨bd, sm + part, r1, congrArg (Value.int .i64) (by omega), congrArg (Value.int .i64) HBD.out.symm, rfl, hid ⟨hr1, by omega, by omega, by omega, by omega, hT9, ?_, ?_, HB8.out.setCell (p := ⟨T, 1, none⟩) (by simp only; omega) _⟩⟩, ?_⟩
          · exact (heap_setCell_other u2 ⟨T, 1, none⟩ w.heap.size _ (by simp only; omega)).trans HA8.out
          · exact (heap_setCell_other u2 ⟨T, 1, none⟩ (w.heap.size + 1) _ (by simp only; omega)).trans HBB8.out
          · rw [e1, e2]
            simp only [Option.getD_some, intOf]
            omega
        · go_wp2_with fail
          obtain ⟨part, hpart⟩ : ∃ k, upN (bN * (tt - y).toNat) = k := ⟨_, rfl⟩
          have hlen : (((tt - y).toNat : Nat) : Int) = tt - y := by omega
          have hbl : bN * (tt - y).toNat ≤ (tt - y).toNat * 65536 := by rw [Nat.mul_comm]; exact Nat.mul_le_mul_left _ HSB.out
          have hp1 := upN_ge (bN * (tt - y).toNat)
          have hp2 := upN_le hbl
          rw [hpart] at hp1 hp2
          have hml : ∀ U, Calls Tryz.prog 22 #[.int .i64 (bN : Int), .int .i64 (tt - y), .int .i64 2] U fun e U' => e = .returned (.tuple #[.int .i64 (part : Int), .int .i64 0]) ∧ Below U.heap.size U U' := fun U => by
            have h := mul22_up bN (tt - y).toNat HSB.out (by omega) U
            rwa [hpart, hlen] at h
          have HML := hid hml
          have hmul : (bN : Int) * (tt - y) ≤ 65536 * (part : Int) := by
            have h : ((bN * (tt - y).toNat : Nat) : Int) ≤ ((65536 * part : Nat) : Int) := by exact_mod_cast hp1
            rw [Int.natCast_mul, hlen, Int.natCast_mul] at h
            exact h
          have HMUL := hid hmul
          have hpl : (part : Int) ≤ tt - y := by omega
          have hsm := HI.out.2.2.2.1
          have hHT : (wo.drewN d).heap[T]? = _ := HI.out.2.2.2.2.2.1
          have hHA : (wo.drewN d).heap[w.heap.size]? = _ := HI.out.2.2.2.2.2.2.1
          have hHB : (wo.drewN d).heap[w.heap.size + 1]? = _ := HI.out.2.2.2.2.2.2.2.1
          have HBW := hid (drewNB HI.out.2.2.2.2.2.2.2.2 d)
          have hwx : IntKind.i64.wrap (tt - y) = tt - y := by rw [IntKind.wrap_i64]; omega
          clear hml hmul hbl hp1 hp2 hlen hpart t0 t1 t2 t4 a1
          generalize wo.drewN d = wd at *
          have HQ := hid (show ∀ U, Below wd.heap.size wd U → U.heap[w.heap.size]? = some (.cells #[.int .i64 (-6553600000), .int .i64 (-6553600000), .int .i64 6553600000, .int .i64 3, .int .i64 3, .slice pa 9 pc, .slice qa 9 qc] 31 (0, 0)) ∧ U.heap[w.heap.size + 1]? = some (.cells #[.int .i64 g.fl, .int .i64 g.kn, .int .i64 g.a, .int .i64 g.b, .int .i64 g.c] 24 (0, 0)) ∧ U.heap[T]? = some (.cells #[.int .i64 0, .int .i64 y] 28 (0, 0)) from fun U h => ⟨carry hHA h, carry hHB h, carry hHT h⟩)
          have HSL := hid (fun U (h : Below wd.heap.size wd U) => HSLW.out y (by omega) (by omega) U (HAT.out.below (HBW.out.trans (h.mono HBW.out.size))))
          clear hHT hHA hHB
          dsimp only [GrainD.v] at HSL
          have hrt : ∀ U, Calls Tryz.prog 24 #[.int .i64 (2 * ((sm : Int) + (part : Int))), .int .i64 2] U fun e U' => e = .returned (.tuple #[.int .i64 ((rootUp (2 * (sm + part) * 65536) : Nat) : Int), .int .i64 0]) ∧ Below U.heap.size U U' := fun U => by
            have h := root12_any (2 * (sm + part)) 2 97 rfl (by omega) U
            rw [rootX_up (2 * (sm + part)) (by omega), show ((2 * (sm + part) : Nat) : Int) = 2 * ((sm : Int) + (part : Int)) by omega] at h
            exact h
          have hge : 2 * slowE p q g * (1 + fr) ≤ rootUp (2 * (sm + part) * 65536) * rootUp (2 * (sm + part) * 65536) := by
            refine Nat.le_trans ?_ (rootUp_ge _)
            have h1 := HI.out.2.2.2.2.1
            have h2 := HMUL.out
            have h3 : (bN : Int) * (y - y0) + (bN : Int) * (tt - y) = (bN : Int) * (1 + (fr : Int)) := by rw [← Int.mul_add]; congr 1; omega
            rw [HBN.out]
            have h4 : ((bN * (1 + fr) : Nat) : Int) = (bN : Int) * (1 + (fr : Int)) := by rw [Int.natCast_mul]; rfl
            rw [Nat.mul_assoc]
            omega
          have hrb : rootUp (2 * (sm + part) * 65536) ≤ 4294967297 := Nat.le_trans (rootUp_le _) (by have := isq_le (s := 2 * (sm + part) * 65536) (n := 4294967296) (by omega); omega)
          obtain ⟨rt, hrtE⟩ : ∃ k, rootUp (2 * (sm + part) * 65536) = k := ⟨_, rfl⟩
          rw [hrtE] at hrt hge hrb
          have HRB := hid hrb
          have HRT := hid hrt
          have HGE := hid hge
          clear hrt hge hrb hrtE
          refine wp_region_held_drew (S := (fun U => U.heap[w.heap.size]? = some (.cells #[.int .i64 (-6553600000), .int .i64 (-6553600000), .int .i64 6553600000, .int .i64 3, .int .i64 3, .slice pa 9 pc, .slice qa 9 qc] 31 (0, 0)) ∧ U.heap[w.heap.size + 1]? = some (.cells #[.int .i64 g.fl, .int .i64 g.kn, .int .i64 g.a, .int .i64 g.b, .int .i64 g.c] 24 (0, 0)) ∧ U.heap[T]? = some (.cells #[.int .i64 0, .int .i64 y] 28 (0, 0)))) (by kernel_rfl) (HQ.out _ ((Below.refl _ _).drew)) (fun hH => ?_)
          refine wpAnyH_take (i := 0) (oi := { dst := some 65, op := Go.Op.load 31 (Go.Operand.tmp 4), type := 31, pos := "maker.go:86", after := #[], guard := none }) (v := (.agg #[.int .i64 (-6553600000), .int .i64 (-6553600000), .int .i64 6553600000, .int .i64 3, .int .i64 3, .slice pa 9 pc, .slice qa 9 qc])) rfl (by kernel_rfl) (by kernel_rfl) (by kernel_rfl) (fun _ _ _ h => h) (Or.inl ⟨by rfl, ?_⟩) hH ?_
          · intro w hSw
            (try dsimp only at hSw)
            have q0 := cellN (i := 0) (v := .int .i64 (-6553600000)) hSw.1 rfl
            have q1 := cellN (i := 1) (v := .int .i64 (-6553600000)) hSw.1 rfl
            have q2 := cellN (i := 2) (v := .int .i64 6553600000) hSw.1 rfl
            have q3 := cellN (i := 3) (v := .int .i64 3) hSw.1 rfl
            have q4 := cellN (i := 4) (v := .int .i64 3) hSw.1 rfl
            have q5 := cellN (i := 5) (v := .slice pa 9 pc) hSw.1 rfl
            have q6 := cellN (i := 6) (v := .slice qa 9 qc) hSw.1 rfl
            go_simp
          (try simp only [Act.put, List.setIfInBounds_toArray, List.set_cons_zero, List.set_cons_succ])
          refine wpAnyH_take (i := 1) (oi := { dst := some 66, op := Go.Op.load 24 (Go.Operand.tmp 5), type := 24, pos := "maker.go:86", after := #[], guard := none }) (v := (.agg #[.int .i64 g.fl, .int .i64 g.kn, .int .i64 g.a, .int .i64 g.b, .int .i64 g.c])) rfl (by kernel_rfl) (by kernel_rfl) (by kernel_rfl) (fun _ _ _ h => h) (Or.inl ⟨by rfl, ?_⟩) hH ?_
          · intro w hSw
            (try dsimp only at hSw)
            have q0 := cellN (i := 0) (v := .int .i64 g.fl) hSw.2.1 rfl
            have q1 := cellN (i := 1) (v := .int .i64 g.kn) hSw.2.1 rfl
            have q2 := cellN (i := 2) (v := .int .i64 g.a) hSw.2.1 rfl
            have q3 := cellN (i := 3) (v := .int .i64 g.b) hSw.2.1 rfl
            have q4 := cellN (i := 4) (v := .int .i64 g.c) hSw.2.1 rfl
            go_simp
          (try simp only [Act.put, List.setIfInBounds_toArray, List.set_cons_zero, List.set_cons_succ])
          refine wpAnyH_take (i := 2) (oi := { dst := some 67, op := Go.Op.load 28 (Go.Operand.tmp 11), type := 28, pos := "maker.go:86", after := #[], guard := none }) (v := (.agg #[.int .i64 0, .int .i64 y])) rfl (by kernel_rfl) (by kernel_rfl) (by kernel_rfl) (fun _ _ _ h => h) (Or.inl ⟨by rfl, ?_⟩) hH ?_
          · intro w hSw
            (try dsimp only at hSw)
            have q0 := cellN (i := 0) (v := .int .i64 0) hSw.2.2 rfl
            have q1 := cellN (i := 1) (v := .int .i64 y) hSw.2.2 rfl
            go_simp
          (try simp only [Act.put, List.setIfInBounds_toArray, List.set_cons_zero, List.set_cons_succ])
          refine wpAnyH_take (i := 4) (oi := { dst := some 69, op := Go.Op.move (Go.Operand.tmp 14), type := 22, pos := "maker.go:86", after := #[], guard := none }) (v := (.int .i64 tt)) rfl (by kernel_rfl) (by kernel_rfl) (by kernel_rfl) (fun _ _ _ h => h) (Or.inl ⟨by rfl, ?_⟩) hH ?_
          · intro w hSw
            (try dsimp only at hSw)
            go_simp
          (try simp only [Act.put, List.setIfInBounds_toArray, List.set_cons_zero, List.set_cons_succ])
          refine wpAnyH_take (i := 5) (oi := { dst := some 70, op := Go.Op.fieldAddr 28 (Go.Operand.tmp 11) 1, type := 0, pos := "maker.go:86", after := #[], guard := none }) (v := (.pointer (some ⟨T, 1, none⟩))) rfl (by kernel_rfl) (by kernel_rfl) (by kernel_rfl) (fun _ _ _ h => h) (Or.inl ⟨by rfl, ?_⟩) hH ?_
          · intro w hSw
            (try dsimp only at hSw)
            go_simp
          (try simp only [Act.put, List.setIfInBounds_toArray, List.set_cons_zero, List.set_cons_succ])
          refine wpAnyH_take (i := 6) (oi := { dst := some 71, op := Go.Op.load 22 (Go.Operand.tmp 70), type := 22, pos := "maker.go:86", after := #[{ on := 5, ground := Go.Ground.data }], guard := none }) (v := (.int .i64 y)) rfl (by kernel_rfl) (by kernel_rfl) (by kernel_rfl) (fun _ _ _ h => h) (Or.inl ⟨by rfl, ?_⟩) hH ?_
          · intro w hSw
            (try dsimp only at hSw)
            have q0 := cellN (i := 1) (v := .int .i64 y) hSw.2.2 rfl
            go_simp
          (try simp only [Act.put, List.setIfInBounds_toArray, List.set_cons_zero, List.set_cons_succ])
          refine wpAnyH_take (i := 7) (oi := { dst := some 72, op := Go.Op.binOp Go.BinOp.sub 22 (Go.Operand.tmp 69) (Go.Operand.tmp 71) 22, type := 22, pos := "maker.go:86", after := #[{ on := 4, ground := Go.Ground.data }, { on := 6, ground := Go.Ground.data }], guard := none }) (v := (.int .i64 (tt - y))) rfl (by kernel_rfl) (by kernel_rfl) (by kernel_rfl) (fun _ _ _ h => h) (Or.inl ⟨by rfl, ?_⟩) hH ?_
          · intro w hSw
            (try dsimp only at hSw)
            go_simp
          (try simp only [Act.put, List.setIfInBounds_toArray, List.set_cons_zero, List.set_cons_succ])
          refine wpAnyH_ready (rs := [3]) (by kernel_rfl) (by simp) ?_
          refine AllReadyH.cons rfl (fun K hK => ?_) AllReadyH.nil
          (try dsimp only at hH)
          go_simp
          refine (HSL.out _ ((Below.refl _ _).drew)).mono ?_
          rintro e u1 ⟨rfl, hb1⟩
          refine hK.out _ _ (HQ.out _ (btrans ((Below.refl _ _).drew) (Nat.le_refl _) hb1)) (fun hH1 => ?_)
          clear hK K
          (try simp only [Act.put, List.setIfInBounds_toArray, List.set_cons_zero, List.set_cons_succ])
          refine wpAnyH_ready (rs := [8]) (by kernel_rfl) (by simp) ?_
          refine AllReadyH.cons rfl (fun K hK => ?_) AllReadyH.nil
          (try dsimp only at hH1)
          go_simp
          refine (HML.out _).mono ?_
          rintro e u2 ⟨rfl, hb2⟩
          refine hK.out _ _ (HQ.out _ (btrans (btrans ((Below.refl _ _).drew) (Nat.le_refl _) hb1) (Nat.le_refl _) hb2)) (fun hH2 => ?_)
          clear hK K
          (try simp only [Act.put, List.setIfInBounds_toArray, List.set_cons_zero, List.set_cons_succ])
          refine wpAnyH_take (i := 9) (oi := { dst := some 64, op := Go.Op.move (Go.Operand.tmp 73), type := 34, pos := "maker.go:86", after := #[{ on := 8, ground := Go.Ground.data }], guard := none }) (v := (.tuple #[.int .i64 (part : Int), .int .i64 0])) rfl (by kernel_rfl) (by kernel_rfl) (by kernel_rfl) (fun _ _ _ h => h) (Or.inl ⟨by rfl, ?_⟩) hH2 ?_
          · intro w hSw
            (try dsimp only at hSw)
            go_simp
          (try simp only [Act.put, List.setIfInBounds_toArray, List.set_cons_zero, List.set_cons_succ])
          refine wpAnyH_take (i := 10) (oi := { dst := some 74, op := Go.Op.extract (Go.Operand.tmp 64) 0, type := 22, pos := "maker.go:86", after := #[{ on := 9, ground := Go.Ground.data }], guard := none }) (v := (.int .i64 (part : Int))) rfl (by kernel_rfl) (by kernel_rfl) (by kernel_rfl) (fun _ _ _ h => h) (Or.inl ⟨by rfl, ?_⟩) hH2 ?_
          · intro w hSw
            (try dsimp only at hSw)
            go_simp
          (try simp only [Act.put, List.setIfInBounds_toArray, List.set_cons_zero, List.set_cons_succ])
          refine wpAnyH_take (i := 11) (oi := { dst := some 75, op := Go.Op.extract (Go.Operand.tmp 64) 1, type := 33, pos := "maker.go:86", after := #[{ on := 9, ground := Go.Ground.data }, { on := 12, ground := Go.Ground.gcOnly Go.Departure.lateStores }], guard := none }) (v := (.int .i64 0)) rfl (by kernel_rfl) (by kernel_rfl) (by kernel_rfl) (fun _ _ _ h => h) (Or.inl ⟨by rfl, ?_⟩) hH2 ?_
          · intro w hSw
            (try dsimp only at hSw)
            go_simp
          (try simp only [Act.put, List.setIfInBounds_toArray, List.set_cons_zero, List.set_cons_succ])
          refine wpAnyH_take (i := 12) (oi := { dst := some 15, op := Go.Op.assign (Go.Operand.tmp 74), type := 22, pos := "maker.go:86", after := #[{ on := 10, ground := Go.Ground.data }, { on := 8, ground := Go.Ground.chain }, { on := 0, ground := Go.Ground.phase }, { on := 1, ground := Go.Ground.phase }, { on := 2, ground := Go.Ground.phase }, { on := 3, ground := Go.Ground.phase }, { on := 4, ground := Go.Ground.phase }, { on := 5, ground := Go.Ground.phase }, { on := 6, ground := Go.Ground.phase }, { on := 7, ground := Go.Ground.phase }, { on := 8, ground := Go.Ground.phase }, { on := 9, ground := Go.Ground.phase }, { on := 10, ground := Go.Ground.phase }, { on := 11, ground := Go.Ground.textOnly Go.Departure.lateStores }], guard := none }) (v := (.int .i64 (part : Int))) rfl (by kernel_rfl) (by kernel_rfl) (by kernel_rfl) (fun _ _ _ h => h) (Or.inl ⟨by rfl, ?_⟩) hH2 ?_
          · intro w hSw
            (try dsimp only at hSw)
            go_simp
          (try simp only [Act.put, List.setIfInBounds_toArray, List.set_cons_zero, List.set_cons_succ])
          refine wpAnyH_take (i := 13) (oi := { dst := some 16, op := Go.Op.assign (Go.Operand.tmp 75), type := 33, pos := "maker.go:86", after := #[{ on := 11, ground := Go.Ground.data }, { on := 12, ground := Go.Ground.chain }, { on := 0, ground := Go.Ground.phase }, { on := 1, ground := Go.Ground.phase }, { on := 2, ground := Go.Ground.phase }, { on := 3, ground := Go.Ground.phase }, { on := 4, ground := Go.Ground.phase }, { on := 5, ground := Go.Ground.phase }, { on := 6, ground := Go.Ground.phase }, { on := 7, ground := Go.Ground.phase }, { on := 8, ground := Go.Ground.phase }, { on := 9, ground := Go.Ground.phase }, { on := 10, ground := Go.Ground.phase }, { on := 11, ground := Go.Ground.phase }, { on := 12, ground := Go.Ground.phase }], guard := none }) (v := (.int .i64 0)) rfl (by kernel_rfl) (by kernel_rfl) (by kernel_rfl) (fun _ _ _ h => h) (Or.inl ⟨by rfl, ?_⟩) hH2 ?_
          · intro w hSw
            (try dsimp only at hSw)
            go_simp
          (try simp only [Act.put, List.setIfInBounds_toArray, List.set_cons_zero, List.set_cons_succ])
          refine wpAnyH_done (by kernel_rfl) ?_ _
          have HB8 := hid (HBW.out.trans ((btrans (btrans ((Below.refl _ _).drew) (Nat.le_refl _) hb1) (Nat.le_refl _) hb2).mono HBW.out.size))
          have HT8 := hid (HQ.out _ (btrans (btrans ((Below.refl _ _).drew) (Nat.le_refl _) hb1) (Nat.le_refl _) hb2)).2.2
          clear HQ HSL HML hH hH1 hH2 hb1 hb2
          have t1 := cellN (i := 1) (v := .int .i64 y) HT8.out rfl
          have tf := frozN (i := 1) HT8.out
          have hws : IntKind.i64.wrap ((sm : Int) + (part : Int)) = (sm : Int) + (part : Int) := by rw [IntKind.wrap_i64]; omega
          go_wp2_with fail
          rw [Exit.noGoto_exit]
          have hws2 : IntKind.i64.wrap (2 * ((sm : Int) + (part : Int))) = 2 * ((sm : Int) + (part : Int)) := by rw [IntKind.wrap_i64]; omega
          go_wp2_with fail
          refine (HRT.out _).mono ?_
          rintro e u3 ⟨rfl, hb3⟩
          go_wp2_with fail
          rw [Exit.noGoto_ret]
          go_ret2
          exact ⟨_, rfl, ⟨HGE.out, HRB.out⟩, (HB8.out.setCell (p := ⟨T, 1, none⟩) (by have := HTL.out; simp only; omega) _).trans (hb3.mono (HB8.out.setCell (p := ⟨T, 1, none⟩) (by have := HTL.out; simp only; omega) _).size)⟩
end Go.Proofs.YtolnhicngepnnaaGreat
