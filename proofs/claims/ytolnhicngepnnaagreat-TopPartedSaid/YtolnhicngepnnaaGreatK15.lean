/- contact.Shot, of any things. -/
import Derived.Test.YtolnhicngepnnaaGreatK12
namespace Go.Proofs.YtolnhicngepnnaaGreat
open Go.RowKit

def ShotX (x : Except Int (List BodyD × Nat × List HitD)) (w : World) (e : Ending) (w' : World) : Prop :=
  Below w.heap.size w w' ∧ match x with
  | .error c => e = .returned (.tuple #[.slice none 0 0, .int .i64 0, .slice none 0 0, .int .i64 c])
  | .ok p => ∃ vo vh, e = .returned (.tuple #[vo, .int .i64 (p.2.1 : Int), vh, .int .i64 0]) ∧ w'.ownsRow w.heap.size 72 8 vo p.1.length (p.1.flatMap BodyD.cells) ∧ w'.ownsRow w.heap.size 86 3 vh p.2.2.length (p.2.2.flatMap HitD.cells)
theorem ShotX.err {x : Except Int (List BodyD × Nat × List HitD)} {w w' : World} {c : Int} (h : x = .error c) (hb : Below w.heap.size w w') : ShotX x w (.returned (.tuple #[.slice none 0 0, .int .i64 0, .slice none 0 0, .int .i64 c])) w' := ⟨hb, by rw [h]⟩
theorem ShotX.ok {x : Except Int (List BodyD × Nat × List HitD)} {p : List BodyD × Nat × List HitD} {w w' : World} {vo vh : Value} (h : x = .ok p) (ho : w'.ownsRow w.heap.size 72 8 vo p.1.length (p.1.flatMap BodyD.cells)) (hh : w'.ownsRow w.heap.size 86 3 vh p.2.2.length (p.2.2.flatMap HitD.cells)) (hb : Below w.heap.size w w') :
    ShotX x w (.returned (.tuple #[vo, .int .i64 (p.2.1 : Int), vh, .int .i64 0])) w' := ⟨hb, by rw [h]; exact ⟨vo, vh, rfl, ho, hh⟩⟩
theorem results_tcct {fn : Func} {a p q u : Tmp} (h : fn.results = #[.tmp a, .cell p 3, .cell q 75, .tmp u]) (tmps : Array Value) (w : World) (b c : Nat) (x y : Value) (hp : tmps.getD p undef = .pointer (some ⟨b, 0, none⟩)) (hq : tmps.getD q undef = .pointer (some ⟨c, 0, none⟩)) (hl : w.heap[b]? = some (.cells #[x] 3 (0, 0))) (hm : w.heap[c]? = some (.cells #[y] 75 (0, 0))) :
    (results fn tmps).run Tryz.prog w = .ok (.tuple #[tmps.getD a undef, x, y, tmps.getD u undef]) w := by
  have e : (asAddr (tmps[p]?.getD undef)).run Tryz.prog w = .ok ⟨b, 0, none⟩ w := by
    rw [show tmps[p]?.getD undef = tmps.getD p undef by simp, hp]; simp [go_sem]
  have e2 : (asAddr (tmps[q]?.getD undef)).run Tryz.prog w = .ok ⟨c, 0, none⟩ w := by
    rw [show tmps[q]?.getD undef = tmps.getD q undef by simp, hq]; simp [go_sem]
  have l1 : (loadVar 3 ⟨b, 0, none⟩).run Tryz.prog w = .ok x w := by simp [go_sem, World.cell?, hl]
  have l2 : (loadVar 75 ⟨c, 0, none⟩).run Tryz.prog w = .ok y w := by simp [go_sem, World.cell?, hm]
  simp only [results, h]
  simp [Sem.run_bind, Result.andThen, e, l1, e2, l2]
set_option maxRecDepth 100000 in
set_option maxHeartbeats 8000000 in
theorem shot18_any (r : RinkD) (pv qv bv v : Value) (l : List BodyD) (t : Int) (w : World) (hr : RinkAt w r pv qv bv) (hs : SlB w v l) :
    Calls Tryz.prog 18 #[r.i.v pv qv, r.g.v, v, bv, .int .i64 r.who, .int .i64 r.el, .int .i64 t] w fun e w' => ShotX (shotA r l t) w e w' := by
  have HRA := hid hr
  have HSB := hid hs
  obtain ⟨⟨hpv, hqv⟩, hbv⟩ := hr
  have HRI := hid (fun (W : World) (hb : Below w.heap.size w W) => right38_any r pv qv bv v l W (HRA.out.below hb) (SlB.below hs hb))
  obtain ⟨pa, pc, hpe, -, -⟩ := hpv.open
  obtain ⟨qa, qc, hqe, -, -⟩ := hqv.open
  obtain ⟨ba, bc, hbe, -, -⟩ := hbv.open
  obtain ⟨va, vc, hve, hvl, -⟩ := hs.open
  obtain ⟨rb, hrb⟩ : ∃ b, rinkOk r l = b := ⟨_, rfl⟩
  obtain ⟨tb, htb⟩ : ∃ b, inB t 0 6000 = b := ⟨_, rfl⟩
  have HWI := hid (fun W => within39_any t 0 6000 W)
  obtain ⟨x, hx⟩ : ∃ x, shotA r l t = x := ⟨_, rfl⟩
  rw [hx]
  have HX0 := hid (show (if (rb && tb) = true then runF r t.toNat 0 l [] else .error 2) = x by rw [← hx, ← hrb, ← htb]; rfl)
  have HRB := hid hrb
  have HTB := hid htb
  rw [hrb] at HRI
  rw [htb] at HWI
  obtain ⟨W1, hW1, hz1, hb1, p1, p2, p3, p4⟩ := four_new w (.cells #[.int .i64 r.i.cx, .int .i64 r.i.cy, .int .i64 r.i.sd, .int .i64 r.i.W, .int .i64 r.i.H, .slice pa r.i.pl.length pc, .slice qa r.i.ql.length qc] 31) (.cells #[.int .i64 r.g.fl, .int .i64 r.g.kn, .int .i64 r.g.a, .int .i64 r.g.b, .int .i64 r.g.c] 24) (.cells #[.int .i64 t] 3) (.cells #[.int .i64 0] 3)
  obtain ⟨W1b, hW1b⟩ : ∃ W, W1.alloc (.cells #[.slice none 0 0] 75) = W := ⟨_, rfl⟩
  obtain ⟨W2, hW2⟩ : ∃ W2, W1b.alloc (.cells #[.int .i64 r.i.cx, .int .i64 r.i.cy, .int .i64 r.i.sd, .int .i64 r.i.W, .int .i64 r.i.H, .slice pa r.i.pl.length pc, .slice qa r.i.ql.length qc, .int .i64 r.g.fl, .int .i64 r.g.kn, .int .i64 r.g.a, .int .i64 r.g.b, .int .i64 r.g.c, .slice ba r.bl.length bc, .int .i64 r.who, .int .i64 r.el] 118) = W2 := ⟨_, rfl⟩
  have e4 : W1.heap.size = w.heap.size + 1 + 1 + 1 + 1 := by omega
  have p5 := heap_alloc_new W1 (.cells #[.slice none 0 0] 75)
  rw [e4, hW1b] at p5
  have e5 : W1b.heap.size = w.heap.size + 1 + 1 + 1 + 1 + 1 := by rw [← hW1b]; simp; omega
  have p6 := heap_alloc_new W1b (.cells #[.int .i64 r.i.cx, .int .i64 r.i.cy, .int .i64 r.i.sd, .int .i64 r.i.W, .int .i64 r.i.H, .slice pa r.i.pl.length pc, .slice qa r.i.ql.length qc, .int .i64 r.g.fl, .int .i64 r.g.kn, .int .i64 r.g.a, .int .i64 r.g.b, .int .i64 r.g.c, .slice ba r.bl.length bc, .int .i64 r.who, .int .i64 r.el] 118)
  rw [e5, hW2] at p6
  have hb1b : Below w.heap.size w W1b := by rw [← hW1b]; exact hb1.alloc hb1.size _
  have hb2 : Below w.heap.size w W2 := by rw [← hW2]; exact hb1b.alloc hb1b.size _
  have hz2 : W2.heap.size = w.heap.size + 6 := by rw [← hW2]; simp; omega
  have HB2 := hid hb2
  have HZ2 := hid hz2
  have HE5 := hid e5
  have HW1 := hid hW1
  have HW1b := hid hW1b
  have HW2 := hid hW2
  have HP12 := hid (show W1b.heap[w.heap.size]? = _ ∧ W1b.heap[w.heap.size + 1]? = _ by rw [← hW1b]; exact ⟨carryA p1 _, carryA p2 _⟩)
  have HP3 := hid (show W2.heap[w.heap.size + 1 + 1]? = some (.cells #[.int .i64 t] 3 (0, 0)) by rw [← hW2, ← hW1b]; exact carryA (carryA p3 _) _)
  have HPT := hid (show W2.heap[w.heap.size + 1 + 1 + 1]? = some (.cells #[.int .i64 0] 3 (0, 0)) by rw [← hW2, ← hW1b]; exact carryA (carryA p4 _) _)
  have HP4 := hid (show W2.heap[w.heap.size + 1 + 1 + 1 + 1]? = some (.cells #[.slice none 0 0] 75 (0, 0)) by rw [← hW2]; exact carryA p5 _)
  have HP5 := hid p6
  subst hpe hqe hbe hve
  have HT := hid (fun (hok : (rb && tb) = true) (W : World) (hB : Below w.heap.size w W) (a : Option Addr) (cap g : Nat) (hg : w.heap.size ≤ g) (hgw : g < W.heap.size) (ha : 0 < l.length → a = some ⟨g, 0, none⟩) (hsc : SceneAt W g 0 l.length l) (bs : Nat) (hne1 : w.heap.size + 1 + 1 + 1 ≠ g) (hne2 : w.heap.size + 1 + 1 + 1 + 1 ≠ g) (h1 : W.heap[w.heap.size + 1 + 1 + 1 + 1 + 1]? = some (.cells (r.arr (.slice pa r.i.pl.length pc) (.slice qa r.i.ql.length qc) (.slice ba r.bl.length bc)) 118 (0, 0))) (h2 : W.heap[bs]? = some (.cells #[.slice a l.length cap] 121 (0, 0))) (h3 : W.heap[w.heap.size + 1 + 1]? = some (.cells #[.int .i64 t] 3 (0, 0))) (h4 : W.heap[w.heap.size + 1 + 1 + 1]? = some (.cells #[.int .i64 0] 3 (0, 0))) (h5 : W.heap[w.heap.size + 1 + 1 + 1 + 1]? = some (.cells #[.slice none 0 0] 75 (0, 0))) => by
    have hrk := rinkOk_ok (show rinkOk r l = true by rw [HRB.out]; simp only [Bool.and_eq_true] at hok; exact hok.1)
    have ht9 : inB t 0 6000 = true := by rw [HTB.out]; simp only [Bool.and_eq_true] at hok; exact hok.2
    have ht8 : 0 ≤ t ∧ t ≤ 6000 := by simpa [inB] using ht9
    have ht7 : ((t.toNat : Nat) : Int) = t := by omega
    exact shot45_any r (.slice pa r.i.pl.length pc) (.slice qa r.i.ql.length qc) (.slice ba r.bl.length bc) a l.length cap g 0 l t.toNat (w.heap.size + 1 + 1 + 1 + 1 + 1) bs (w.heap.size + 1 + 1) (w.heap.size + 1 + 1 + 1) (w.heap.size + 1 + 1 + 1 + 1) w W hrk.1 hrk.2.1 hrk.2.2.1 hrk.2.2.2.1 hrk.2.2.2.2.1 ha hrk.2.2.2.2.2 rfl (by omega) HRA.out hB.size (fun k hk => hB.block k hk) hg hgw (by omega) (by omega) hne1 hne2 h1 h2 (by rw [ht7]; exact h3) h4 h5 hsc)
  have HNB := hid (show w.heap.size + 1 + 1 + 1 + 1 ≠ w.heap.size + 1 + 1 + 1 ∧ w.heap.size + 1 + 1 + 1 ≠ w.heap.size + 1 + 1 + 1 + 1 by omega)
  have HLN := hid (fun (hok : (rb && tb) = true) => (rinkOk_ok (show rinkOk r l = true by rw [HRB.out]; simp only [Bool.and_eq_true] at hok; exact hok.1)).2.2.2.2.2)
  have hmf := run_makeFunc
  clear hpv hqv hbv hs hrb htb hx hW1 hW1b hW2 hz1 hb1 hb1b p1 p2 p3 p4 p5 p6 hb2 hz2 e4 e5 hvl
  show Calls Tryz.prog 18 #[.agg #[.int .i64 r.i.cx, .int .i64 r.i.cy, .int .i64 r.i.sd, .int .i64 r.i.W, .int .i64 r.i.H, .slice pa r.i.pl.length pc, .slice qa r.i.ql.length qc], .agg #[.int .i64 r.g.fl, .int .i64 r.g.kn, .int .i64 r.g.a, .int .i64 r.g.b, .int .i64 r.g.c], .slice va l.length vc, .slice ba r.bl.length bc, .int .i64 r.who, .int .i64 r.el, .int .i64 t] w _
  go_enter Tryz.func18, Tryz.ntmps18
  go_upto_region 1 with fail
  rw [HW1.out, HW1b.out]
  have a0 := cellN (i := 0) (v := .int .i64 r.i.cx) HP12.out.1 rfl
  have a1 := cellN (i := 1) (v := .int .i64 r.i.cy) HP12.out.1 rfl
  have a2 := cellN (i := 2) (v := .int .i64 r.i.sd) HP12.out.1 rfl
  have a3 := cellN (i := 3) (v := .int .i64 r.i.W) HP12.out.1 rfl
  have a4 := cellN (i := 4) (v := .int .i64 r.i.H) HP12.out.1 rfl
  have a5 := cellN (i := 5) (v := .slice pa r.i.pl.length pc) HP12.out.1 rfl
  have a6 := cellN (i := 6) (v := .slice qa r.i.ql.length qc) HP12.out.1 rfl
  have b0 := cellN (i := 0) (v := .int .i64 r.g.fl) HP12.out.2 rfl
  have b1 := cellN (i := 1) (v := .int .i64 r.g.kn) HP12.out.2 rfl
  have b2 := cellN (i := 2) (v := .int .i64 r.g.a) HP12.out.2 rfl
  have b3 := cellN (i := 3) (v := .int .i64 r.g.b) HP12.out.2 rfl
  have b4 := cellN (i := 4) (v := .int .i64 r.g.c) HP12.out.2 rfl
  have he5 := HE5.out
  go_upto_region 2 with fail
  rw [HW2.out]
  clear a0 a1 a2 a3 a4 a5 a6 b0 b1 b2 b3 b4 he5 HW1 HW1b HW2 HP12 HE5
  have r0 := cellN (i := 0) (v := .int .i64 r.i.cx) HP5.out rfl
  have r1 := cellN (i := 1) (v := .int .i64 r.i.cy) HP5.out rfl
  have r2 := cellN (i := 2) (v := .int .i64 r.i.sd) HP5.out rfl
  have r3 := cellN (i := 3) (v := .int .i64 r.i.W) HP5.out rfl
  have r4 := cellN (i := 4) (v := .int .i64 r.i.H) HP5.out rfl
  have r5 := cellN (i := 5) (v := .slice pa r.i.pl.length pc) HP5.out rfl
  have r6 := cellN (i := 6) (v := .slice qa r.i.ql.length qc) HP5.out rfl
  have r7 := cellN (i := 7) (v := .int .i64 r.g.fl) HP5.out rfl
  have r8 := cellN (i := 8) (v := .int .i64 r.g.kn) HP5.out rfl
  have r9 := cellN (i := 9) (v := .int .i64 r.g.a) HP5.out rfl
  have r10 := cellN (i := 10) (v := .int .i64 r.g.b) HP5.out rfl
  have r11 := cellN (i := 11) (v := .int .i64 r.g.c) HP5.out rfl
  have r12 := cellN (i := 12) (v := .slice ba r.bl.length bc) HP5.out rfl
  have r13 := cellN (i := 13) (v := .int .i64 r.who) HP5.out rfl
  have r14 := cellN (i := 14) (v := .int .i64 r.el) HP5.out rfl
  have HRI := hid (show ∀ W, Below w.heap.size w W → Calls Tryz.prog 38 #[.agg #[.int .i64 r.i.cx, .int .i64 r.i.cy, .int .i64 r.i.sd, .int .i64 r.i.W, .int .i64 r.i.H, .slice pa r.i.pl.length pc, .slice qa r.i.ql.length qc, .int .i64 r.g.fl, .int .i64 r.g.kn, .int .i64 r.g.a, .int .i64 r.g.b, .int .i64 r.g.c, .slice ba r.bl.length bc, .int .i64 r.who, .int .i64 r.el], .slice va l.length vc] W fun e w' => e = .returned (.bool rb) ∧ Below W.heap.size W w' from HRI.out)
  have t3 := cellN (i := 0) (v := .int .i64 t) HP3.out rfl
  go_wp2_with fail
  refine (HRI.out _ HB2.out).mono ?_
  rintro e w3 ⟨rfl, hb3⟩
  have HB3 := hid (HB2.out.trans (hb3.mono HB2.out.size))
  have HP33 := hid (carry HP3.out hb3)
  have HPT3 := hid (carry HPT.out hb3)
  have HP43 := hid (carry HP4.out hb3)
  have HP53 := hid (carry HP5.out hb3)
  have HZ3 := hid (show w.heap.size + 6 ≤ w3.heap.size by have h1 := HZ2.out; have h2 := hb3.size; omega)
  clear hb3 r0 r1 r2 r3 r4 r5 r6 r7 r8 r9 r10 r11 r12 r13 r14 t3 HB2 HP3 HPT HP4 HP5 HZ2 HRI
  have REJ := hid (show x = .error 2 → ∀ (wq : World), Below w.heap.size w wq → wq.heap[w.heap.size + 1 + 1 + 1]? = some (.cells #[.int .i64 0] 3 (0, 0)) → wq.heap[w.heap.size + 1 + 1 + 1 + 1]? = some (.cells #[.slice none 0 0] 75 (0, 0)) →
      ShotX x w (.returned (.tuple #[.slice none 0 0, .int .i64 0, .slice none 0 0, .int .i64 2])) ((wq.setCell ⟨w.heap.size + 1 + 1 + 1, 0, none⟩ (.int .i64 0)).setCell ⟨w.heap.size + 1 + 1 + 1 + 1, 0, none⟩ (.slice none 0 0)) from fun h wq hB _ _ =>
    ShotX.err h ((hB.setCell (p := ⟨w.heap.size + 1 + 1 + 1, 0, none⟩) (by show w.heap.size ≤ w.heap.size + 1 + 1 + 1; omega) _).setCell (p := ⟨w.heap.size + 1 + 1 + 1 + 1, 0, none⟩) (by show w.heap.size ≤ w.heap.size + 1 + 1 + 1 + 1; omega) _))
  cases rb with
  | false =>
    have HXE := hid (show x = .error 2 by rw [← HX0.out]; rfl)
    have ct := cellN (i := 0) (v := .int .i64 0) HPT3.out rfl
    have ft := frozN (i := 0) HPT3.out
    have c4 := cellN (i := 0) (v := .slice none 0 0) HP43.out rfl
    have f4 := frozN (i := 0) HP43.out
    have hbn : w.heap.size + 1 + 1 + 1 ≠ w.heap.size + 1 + 1 + 1 + 1 := by omega
    have hbn2 : w.heap.size + 1 + 1 + 1 + 1 ≠ w.heap.size + 1 + 1 + 1 := by omega
    go_wp2_with fail
    have ht6 := (heap_setCell_other _ ⟨w.heap.size + 1 + 1 + 1 + 1, 0, none⟩ (w.heap.size + 1 + 1 + 1) (.slice none 0 0) HNB.out.2).trans (put1_same (.int .i64 0) HPT3.out)
    have hh6 := put1_same (.slice none 0 0) ((heap_setCell_other _ ⟨w.heap.size + 1 + 1 + 1, 0, none⟩ (w.heap.size + 1 + 1 + 1 + 1) (.int .i64 0) HNB.out.1).trans HP43.out)
    exact bodyPost_ret (results_tcct (a := 14) (p := 15) (q := 16) (u := 17) rfl _ _ (w.heap.size + 1 + 1 + 1) (w.heap.size + 1 + 1 + 1 + 1) (.int .i64 0) (.slice none 0 0) rfl rfl ht6 hh6) rfl (REJ.out HXE.out _ HB3.out HPT3.out HP43.out)
  | true =>
  have t3 := cellN (i := 0) (v := .int .i64 t) HP33.out rfl
  go_wp2_with fail
  refine (HWI.out _).mono ?_
  rintro e w4 ⟨rfl, hw4⟩
  subst hw4
  clear t3
  cases tb with
  | false =>
    have HXE := hid (show x = .error 2 by rw [← HX0.out]; rfl)
    have ct := cellN (i := 0) (v := .int .i64 0) HPT3.out rfl
    have ft := frozN (i := 0) HPT3.out
    have c4 := cellN (i := 0) (v := .slice none 0 0) HP43.out rfl
    have f4 := frozN (i := 0) HP43.out
    have hbn : w.heap.size + 1 + 1 + 1 ≠ w.heap.size + 1 + 1 + 1 + 1 := by omega
    have hbn2 : w.heap.size + 1 + 1 + 1 + 1 ≠ w.heap.size + 1 + 1 + 1 := by omega
    go_wp2_with fail
    have ht6 := (heap_setCell_other _ ⟨w.heap.size + 1 + 1 + 1 + 1, 0, none⟩ (w.heap.size + 1 + 1 + 1) (.slice none 0 0) HNB.out.2).trans (put1_same (.int .i64 0) HPT3.out)
    have hh6 := put1_same (.slice none 0 0) ((heap_setCell_other _ ⟨w.heap.size + 1 + 1 + 1, 0, none⟩ (w.heap.size + 1 + 1 + 1 + 1) (.int .i64 0) HNB.out.1).trans HP43.out)
    exact bodyPost_ret (results_tcct (a := 14) (p := 15) (q := 16) (u := 17) rfl _ _ (w.heap.size + 1 + 1 + 1) (w.heap.size + 1 + 1 + 1 + 1) (.int .i64 0) (.slice none 0 0) rfl rfl ht6 hh6) rfl (REJ.out HXE.out _ HB3.out HPT3.out HP43.out)
  | true =>
  have HX1 := hid (show runF r t.toNat 0 l [] = x by rw [← HX0.out]; rfl)
  have HT := hid (HT.out rfl)
  have HLN := hid (HLN.out rfl)
  go_wp2_with fail
  refine (of40_any _ l w4 (SlB.below HSB.out HB3.out) (by have := HLN.out; omega)).mono ?_
  rintro e w5 ⟨vs, rfl, hrow, hb5⟩
  obtain ⟨sa, sc, g, rfl, hga, hg0, hsc⟩ := scene_row (g0 := w.heap.size) hrow rfl
  have HB5 := hid (HB3.out.trans (hb5.mono HB3.out.size))
  have HP3 := hid (carry HP33.out hb5)
  have HPT := hid (carry HPT3.out hb5)
  have HP4 := hid (carry HP43.out hb5)
  have HP5 := hid (carry HP53.out hb5)
  have hz4 := HZ3.out
  have hz5 : w4.heap.size ≤ w5.heap.size := hb5.size
  have hgr : (g = w.heap.size ∨ w4.heap.size ≤ g) ∧ g < w5.heap.size := by
    by_cases h0 : l.length = 0
    · have := hg0 h0; omega
    · have := hga (by omega); omega
  have HG := hid (show g ≠ w.heap.size + 1 + 1 ∧ g ≠ w.heap.size + 1 + 1 + 1 ∧ g ≠ w.heap.size + 1 + 1 + 1 + 1 ∧ g ≠ w.heap.size + 1 + 1 + 1 + 1 + 1 ∧ w.heap.size ≤ g ∧ g < w5.heap.size by omega)
  have HGA := hid (fun h => (hga h).1)
  have HSC := hid hsc
  have HZ5 := hid (show w.heap.size + 6 ≤ w5.heap.size by omega)
  clear hga hg0 hsc hgr hz4 hz5 hb5 hrow HB3 HP33 HPT3 HP43 HP53 HZ3 HSB
  obtain ⟨W6, hW6⟩ : ∃ W6, w5.alloc (.cells #[.slice sa l.length sc] 121) = W6 := ⟨_, rfl⟩
  obtain ⟨b19, hb19⟩ : ∃ b, w5.heap.size = b := ⟨_, rfl⟩
  have H19 := hid (show W6.heap[b19]? = some (.cells #[.slice sa l.length sc] 121 (0, 0)) by rw [← hW6, ← hb19]; exact heap_alloc_new w5 _)
  have hb6 : Below w5.heap.size w5 W6 := by rw [← hW6]; exact (Below.refl _ _).alloc (Nat.le_refl _) _
  have HB6 := hid (HB5.out.trans (hb6.mono HB5.out.size))
  have HP3 := hid (carry HP3.out hb6)
  have HPT := hid (carry HPT.out hb6)
  have HP4 := hid (carry HP4.out hb6)
  have HP5 := hid (carry HP5.out hb6)
  have HSC := hid (HSC.out.below hb6)
  have HN19 := hid (show b19 ≠ g ∧ w.heap.size + 6 ≤ b19 by have h1 := HG.out; have h2 := HZ5.out; omega)
  have HGW := hid (show g < W6.heap.size by have h1 := HG.out; have h2 := hb6.size; omega)
  have HW6 := hid hW6
  clear hW6 hb6 HB5
  go_upto_region 5 with fail
  rw [HW6.out]
  clear HW6 hb19 HZ5
  have HTR := hid (tried_c 45 #[.pointer (some ⟨w.heap.size + 1 + 1 + 1 + 1 + 1, 0, none⟩), .pointer (some ⟨b19, 0, none⟩), .pointer (some ⟨w.heap.size + 1 + 1, 0, none⟩), .pointer (some ⟨w.heap.size + 1 + 1 + 1, 0, none⟩), .pointer (some ⟨w.heap.size + 1 + 1 + 1 + 1, 0, none⟩)]
    (fun W' => W'.heap[W6.heap.size]? = some (.cells #[.int .i64 0] 33 (0, 0)) ∧ Ch (fun k => k = g ∨ k = w.heap.size + 1 + 1 + 1 ∨ k = w.heap.size + 1 + 1 + 1 + 1) W6 W' ∧ ∃ p, x = .ok p ∧ W'.heap[w.heap.size + 1 + 1 + 1]? = some (.cells #[.int .i64 (p.2.1 : Nat)] 3 (0, 0)) ∧ (∃ vh, W'.heap[w.heap.size + 1 + 1 + 1 + 1]? = some (.cells #[vh] 75 (0, 0)) ∧ W'.ownsRow w.heap.size 86 3 vh p.2.2.length (p.2.2.flatMap HitD.cells)) ∧ SceneAt W' g 0 l.length p.1)
    (fun c W' => x = .error c ∧ (∃ z, W'.heap[w.heap.size + 1 + 1 + 1]? = some (.cells #[.int .i64 z] 3 (0, 0))) ∧ (∃ v, W'.heap[w.heap.size + 1 + 1 + 1 + 1]? = some (.cells #[v] 75 (0, 0))) ∧ Ch (fun k => k = g ∨ k = w.heap.size + 1 + 1 + 1 ∨ k = w.heap.size + 1 + 1 + 1 + 1) W6 W') W6
    (enters_of Tryz.func45 (by kernel_rfl) rfl)
    ((HT.out (W6.alloc (.cells #[.int .i64 0] 33)) (HB6.out.alloc HB6.out.size _) sa sc g HG.out.2.2.2.2.1 (by have := HGW.out; simp; omega) HGA.out (HSC.out.below ((Below.refl _ _).alloc (Nat.le_refl _) _)) b19 (fun e => HG.out.2.1 e.symm) (fun e => HG.out.2.2.1 e.symm) (carryA HP5.out _) (carryA H19.out _) (carryA HP3.out _) (carryA HPT.out _) (carryA HP4.out _)).mono (by
      intro e W' h
      have hca : Ch (fun k => k = g ∨ k = w.heap.size + 1 + 1 + 1 ∨ k = w.heap.size + 1 + 1 + 1 + 1) W6 (W6.alloc (.cells #[.int .i64 0] 33)) := Ch.of_below ((Below.refl _ W6).alloc (Nat.le_refl _) _)
      have hn := heap_alloc_new W6 (.cells #[.int .i64 0] 33)
      have hlt : W6.heap.size < (W6.alloc (.cells #[.int .i64 0] 33)).heap.size := by simp
      have hgw := HGW.out
      have hbw := (Array.getElem?_eq_some_iff.1 HP4.out).1
      have hbt := (Array.getElem?_eq_some_iff.1 HPT.out).1
      obtain ⟨hch, h⟩ := h
      have h33 := (hch.2 W6.heap.size hlt (by omega)).trans hn
      rw [HX1.out] at h
      cases x with
      | ok p =>
        obtain ⟨h1, h2, ⟨vh, h3, h4⟩, h5⟩ := h
        exact ⟨h33, .inl ⟨h1, h33, hca.trans hch, p, rfl, h2, ⟨vh, h3, own_base h4 (Nat.le_trans HB6.out.size (by simp))⟩, h5⟩⟩
      | error c =>
        obtain ⟨h1, h2, h3⟩ := h
        exact ⟨h33, .inr ⟨c, h1, rfl, h2, h3, hca.trans hch⟩⟩)))
  clear HT
  go_wp2_with fail
  refine HTR.out.mono ?_
  rintro e w6 ⟨c, W', rfl, hAB, hch⟩
  clear HTR
  have hbw := (Array.getElem?_eq_some_iff.1 HP4.out).1
  have hbt := (Array.getElem?_eq_some_iff.1 HPT.out).1
  have h19w := (Array.getElem?_eq_some_iff.1 H19.out).1
  rcases hAB with ⟨rfl, h33, h5, p, hx, ht2, ⟨vh, h2, h3⟩, h4⟩ | ⟨hx, ⟨z, h1⟩, ⟨v, h2⟩, h5⟩
  · obtain ⟨hva, hvc, rfl⟩ := own_slice' h3
    obtain ⟨hvn, hvne⟩ : ∃ n, p.2.2.length = n := ⟨_, rfl⟩
    have hsz := h5.1.size
    have hgw := HGW.out
    have hg1 := HG.out
    have HX := hid hx
    have kt6 := (hch.2 _ (Array.getElem?_eq_some_iff.1 ht2).1 (by omega)).trans ht2
    have kh6 := (hch.2 _ (Array.getElem?_eq_some_iff.1 h2).1 (by omega)).trans h2
    have hvh6 := own_ch h3 hch (fun e => by obtain ⟨_, cc, hcc⟩ := own_type h3 e; exact type_ne hcc h33 (by decide) rfl)
    have KT6 := hid kt6
    have KH6 := hid (show w6.heap[w.heap.size + 1 + 1 + 1 + 1]? = some (.cells #[.slice hva hvn hvc] 75 (0, 0)) by rw [← hvne]; exact kh6)
    have HVH6 := hid (show w6.ownsRow w.heap.size 86 3 (.slice hva hvn hvc) p.2.2.length (p.2.2.flatMap HitD.cells) by rw [← hvne]; exact hvh6)
    have HSC6 := hid (h4.keep (hch.2 g (by omega) (by omega)))
    have H196 := hid ((hch.2 b19 (by omega) (by omega)).trans ((h5.2 b19 h19w (by have := HN19.out; omega)).trans H19.out))
    have HB6' := hid (show Below w.heap.size w w6 from ⟨hch.1.os.trans (h5.1.os.trans HB6.out.os), hch.1.tape.trans (h5.1.tape.trans HB6.out.tape), hch.1.output.trans (h5.1.output.trans HB6.out.output), Nat.le_trans HB6.out.size (Nat.le_trans hsz hch.1.size), fun k hk => (hch.2 k (by omega) (by omega)).trans ((h5.2 k (by omega) (by omega)).trans (HB6.out.block k hk))⟩)
    have HLL := hid (show p.1.length = l.length from h4.1)
    have HBO := hid (fun (W : World) (hB : Below w.heap.size w W) (hS : SceneAt W g 0 l.length p.1) => (bodies44_any (.slice sa l.length sc) p.1 W (hS.slB (cap := sc) HGA.out HLN.out) (by have := HLN.out; have := HLL.out; omega)).mono (fun e W' h => (show ∃ v', e = .returned v' ∧ W'.ownsRow w.heap.size 72 8 v' p.1.length (p.1.flatMap BodyD.cells) ∧ Below W.heap.size W W' from by obtain ⟨v', h1, h2, h3⟩ := h; exact ⟨v', h1, own_base h2 hB.size, h3⟩)))
    have HQ := hid (show ∀ W : World, W.heap[b19]? = some (.cells #[.slice sa l.length sc] 121 (0, 0)) → W.heap[w.heap.size + 1 + 1 + 1]? = some (.cells #[.int .i64 (p.2.1 : Nat)] 3 (0, 0)) → W.heap[w.heap.size + 1 + 1 + 1 + 1]? = some (.cells #[.slice hva hvn hvc] 75 (0, 0)) → W.cell? ⟨b19, 0, none⟩ = some (.slice sa l.length sc) ∧ W.cell? ⟨w.heap.size + 1 + 1 + 1, 0, none⟩ = some (.int .i64 (p.2.1 : Int)) ∧ W.cell? ⟨w.heap.size + 1 + 1 + 1 + 1, 0, none⟩ = some (.slice hva hvn hvc) from fun W h1 h2 h3 => ⟨cellN h1 rfl, cellN h2 rfl, cellN h3 rfl⟩)
    have HB6 := hid HB6'.out
    clear HB6'
    have HN19 := hid (show b19 ≠ w.heap.size + 1 + 1 + 1 ∧ b19 ≠ w.heap.size + 1 + 1 + 1 + 1 by have := HN19.out; omega)
    clear hx h2 h3 h4 h5 ht2 kt6 kh6 hvh6 hvne hch h33 hsz hgw hg1 hbw hbt h19w HP3 HPT HP4 HP5 HSC HG HGW H19 REJ
    go_upto_region 8 with fail
    refine wp_region_held_drew (S := (fun W => W.cell? ⟨b19, 0, none⟩ = some (.slice sa l.length sc) ∧ W.cell? ⟨w.heap.size + 1 + 1 + 1, 0, none⟩ = some (.int .i64 (p.2.1 : Int)) ∧ W.cell? ⟨w.heap.size + 1 + 1 + 1 + 1, 0, none⟩ = some (.slice hva hvn hvc))) (by kernel_rfl) (HQ.out _ H196.out KT6.out KH6.out) (fun hH => ?_)
    obtain ⟨w7, hw7⟩ : ∃ w7, w7 = w6.drew := ⟨_, rfl⟩
    have HB7 := hid (show Below w.heap.size w w7 by rw [hw7]; exact HB6.out.drew)
    have HSC7 := hid (show SceneAt w7 g 0 l.length p.1 by rw [hw7]; exact HSC6.out)
    have H197 := hid (show w7.heap[b19]? = some (.cells #[.slice sa l.length sc] 121 (0, 0)) by rw [hw7]; exact H196.out)
    have KT7 := hid (show w7.heap[w.heap.size + 1 + 1 + 1]? = some (.cells #[.int .i64 (p.2.1 : Int)] 3 (0, 0)) by rw [hw7]; exact KT6.out)
    have KH7 := hid (show w7.heap[w.heap.size + 1 + 1 + 1 + 1]? = some (.cells #[.slice hva hvn hvc] 75 (0, 0)) by rw [hw7]; exact KH6.out)
    have HVH7 := hid (show w7.ownsRow w.heap.size 86 3 (.slice hva hvn hvc) p.2.2.length (p.2.2.flatMap HitD.cells) by rw [hw7]; exact HVH6.out)
    rw [← hw7] at hH ⊢
    clear hw7
    refine wpAnyH_take (i := 0) (oi := { dst := some 42, op := Go.Op.load 121 (Go.Operand.tmp 19), type := 121, pos := "contact.go:270", after := #[], guard := none }) (v := (.slice sa l.length sc)) rfl (by kernel_rfl) (by kernel_rfl) (by kernel_rfl) (fun _ _ _ h => h) (Or.inl ⟨by rfl, ?_⟩) hH ?_
    · intro w hSw
      (try dsimp only at hSw)
      go_simp
    (try simp only [Act.put, List.setIfInBounds_toArray, List.set_cons_zero, List.set_cons_succ])
    refine wpAnyH_take (i := 2) (oi := { dst := some 44, op := Go.Op.load 3 (Go.Operand.tmp 15), type := 3, pos := "contact.go:270", after := #[{ on := 4, ground := Go.Ground.gcOnly Go.Departure.lateStores }], guard := none }) (v := (.int .i64 (p.2.1 : Int))) rfl (by kernel_rfl) (by kernel_rfl) (by kernel_rfl) (fun _ _ _ h => h) (Or.inl ⟨by rfl, ?_⟩) hH ?_
    · intro w hSw
      (try dsimp only at hSw)
      go_simp
    (try simp only [Act.put, List.setIfInBounds_toArray, List.set_cons_zero, List.set_cons_succ])
    refine wpAnyH_take (i := 3) (oi := { dst := some 45, op := Go.Op.load 75 (Go.Operand.tmp 16), type := 75, pos := "contact.go:270", after := #[], guard := none }) (v := (.slice hva hvn hvc)) rfl (by kernel_rfl) (by kernel_rfl) (by kernel_rfl) (fun _ _ _ h => h) (Or.inl ⟨by rfl, ?_⟩) hH ?_
    · intro w hSw
      (try dsimp only at hSw)
      go_simp
    (try simp only [Act.put, List.setIfInBounds_toArray, List.set_cons_zero, List.set_cons_succ])
    refine wpAnyH_ready (rs := [1]) (by kernel_rfl) (by simp) ?_
    refine AllReadyH.cons rfl (fun K hK => ?_) AllReadyH.nil
    (try dsimp only at hH)
    go_simp
    refine (HBO.out _ HB7.out HSC7.out).mono ?_
    rintro e w8 ⟨vo, rfl, hvo, hb8⟩
    refine hK.out _ _ (HQ.out _ (carry H197.out hb8) (carry KT7.out hb8) (carry KH7.out hb8)) (fun hH1 => ?_)
    clear hK K
    have HVO := hid hvo
    have HB8 := hid (HB7.out.trans (hb8.mono HB7.out.size))
    have KT8 := hid (carry KT7.out hb8)
    have KH8 := hid (carry KH7.out hb8)
    have HVH8 := hid (own_below HVH7.out hb8)
    have H198 := hid (carry H197.out hb8)
    clear hb8 hvo
    (try simp only [Act.put, List.setIfInBounds_toArray, List.set_cons_zero, List.set_cons_succ])
    refine wpAnyH_take (i := 4) (oi := { dst := some 14, op := Go.Op.assign (Go.Operand.tmp 43), type := 74, pos := "contact.go:270", after := #[{ on := 1, ground := Go.Ground.data }, { on := 1, ground := Go.Ground.chain }, { on := 0, ground := Go.Ground.phase }, { on := 1, ground := Go.Ground.phase }, { on := 2, ground := Go.Ground.textOnly Go.Departure.lateStores }, { on := 3, ground := Go.Ground.textOnly Go.Departure.lateStoresUnsure }], guard := none }) (v := vo) rfl (by kernel_rfl) (by kernel_rfl) (by kernel_rfl) (fun _ _ _ h => h) (Or.inl ⟨by rfl, ?_⟩) hH1 ?_
    · intro w hSw
      (try dsimp only at hSw)
      go_simp
    (try simp only [Act.put, List.setIfInBounds_toArray, List.set_cons_zero, List.set_cons_succ])
    refine wpAnyH_ready (rs := [5]) (by kernel_rfl) (by simp) ?_
    refine AllReadyH.cons rfl (fun K hK => ?_) AllReadyH.nil
    (try dsimp only at hH1)
    have ct8 := cellN (i := 0) (v := .int .i64 (p.2.1 : Int)) KT8.out rfl
    have ft8 := frozN (i := 0) KT8.out
    go_simp
    refine hK.out _ _ (HQ.out _ ((heap_setCell_other w8 ⟨w.heap.size + 1 + 1 + 1, 0, none⟩ b19 (.int .i64 (p.2.1 : Int)) HN19.out.1).trans H198.out) (put1_same (.int .i64 (p.2.1 : Int)) KT8.out) ((heap_setCell_other w8 ⟨w.heap.size + 1 + 1 + 1, 0, none⟩ (w.heap.size + 1 + 1 + 1 + 1) (.int .i64 (p.2.1 : Int)) HNB.out.1).trans KH8.out)) (fun hH2 => ?_)
    clear hK K
    have KT9 := hid (put1_same (.int .i64 (p.2.1 : Int)) KT8.out)
    have KH9 := hid ((heap_setCell_other w8 ⟨w.heap.size + 1 + 1 + 1, 0, none⟩ (w.heap.size + 1 + 1 + 1 + 1) (.int .i64 (p.2.1 : Int)) HNB.out.1).trans KH8.out)
    have H199 := hid ((heap_setCell_other w8 ⟨w.heap.size + 1 + 1 + 1, 0, none⟩ b19 (.int .i64 (p.2.1 : Int)) HN19.out.1).trans H198.out)
    have HVO9 := hid (own_cell HVO.out KT8.out (by decide) (.int .i64 (p.2.1 : Int)))
    have HVH9 := hid (own_cell HVH8.out KT8.out (by decide) (.int .i64 (p.2.1 : Int)))
    have HB9 := hid (HB8.out.setCell (p := ⟨w.heap.size + 1 + 1 + 1, 0, none⟩) (by show w.heap.size ≤ w.heap.size + 1 + 1 + 1; omega) (.int .i64 (p.2.1 : Int)))
    clear ct8 ft8
    generalize w8.setCell ⟨w.heap.size + 1 + 1 + 1, 0, none⟩ (.int .i64 (p.2.1 : Int)) = w9 at *
    (try simp only [Act.put, List.setIfInBounds_toArray, List.set_cons_zero, List.set_cons_succ])
    refine wpAnyH_ready (rs := [6]) (by kernel_rfl) (by simp) ?_
    refine AllReadyH.cons rfl (fun K hK => ?_) AllReadyH.nil
    (try dsimp only at hH2)
    have ch9 := cellN (i := 0) (v := .slice hva hvn hvc) KH9.out rfl
    have fh9 := frozN (i := 0) KH9.out
    go_simp
    refine hK.out _ _ (HQ.out _ ((heap_setCell_other w9 ⟨w.heap.size + 1 + 1 + 1 + 1, 0, none⟩ b19 (.slice hva hvn hvc) HN19.out.2).trans H199.out) ((heap_setCell_other w9 ⟨w.heap.size + 1 + 1 + 1 + 1, 0, none⟩ (w.heap.size + 1 + 1 + 1) (.slice hva hvn hvc) HNB.out.2).trans KT9.out) (put1_same (.slice hva hvn hvc) KH9.out)) (fun hH3 => ?_)
    clear hK K
    have KHA := hid (put1_same (.slice hva hvn hvc) KH9.out)
    have KTA := hid ((heap_setCell_other w9 ⟨w.heap.size + 1 + 1 + 1 + 1, 0, none⟩ (w.heap.size + 1 + 1 + 1) (.slice hva hvn hvc) HNB.out.2).trans KT9.out)
    have HVOA := hid (own_cell HVO9.out KH9.out (by decide) (.slice hva hvn hvc))
    have HVHA := hid (own_cell HVH9.out KH9.out (by decide) (.slice hva hvn hvc))
    have HBA := hid (HB9.out.setCell (p := ⟨w.heap.size + 1 + 1 + 1 + 1, 0, none⟩) (by show w.heap.size ≤ w.heap.size + 1 + 1 + 1 + 1; omega) (.slice hva hvn hvc))
    clear ch9 fh9
    generalize w9.setCell ⟨w.heap.size + 1 + 1 + 1 + 1, 0, none⟩ (.slice hva hvn hvc) = w10 at *
    (try simp only [Act.put, List.setIfInBounds_toArray, List.set_cons_zero, List.set_cons_succ])
    refine wpAnyH_take (i := 7) (oi := { dst := some 17, op := Go.Op.assign (Go.Operand.const (Go.Value.int Go.IntKind.i64 0)), type := 33, pos := "contact.go:270", after := #[{ on := 6, ground := Go.Ground.chain }, { on := 0, ground := Go.Ground.phase }, { on := 1, ground := Go.Ground.phase }, { on := 2, ground := Go.Ground.phase }, { on := 3, ground := Go.Ground.phase }, { on := 4, ground := Go.Ground.phase }, { on := 5, ground := Go.Ground.phase }, { on := 6, ground := Go.Ground.phase }], guard := none }) (v := (.int .i64 0)) rfl (by kernel_rfl) (by kernel_rfl) (by kernel_rfl) (fun _ _ _ h => h) (Or.inl ⟨by rfl, ?_⟩) hH3 ?_
    · intro w hSw
      (try dsimp only at hSw)
      go_simp
    (try simp only [Act.put, List.setIfInBounds_toArray, List.set_cons_zero, List.set_cons_succ])
    refine wpAnyH_done (by kernel_rfl) ?_ _
    go_wp2_with fail
    exact bodyPost_ret (results_tcct (a := 14) (p := 15) (q := 16) (u := 17) rfl _ w10 (w.heap.size + 1 + 1 + 1) (w.heap.size + 1 + 1 + 1 + 1) (.int .i64 (p.2.1 : Int)) (.slice hva hvn hvc) rfl rfl KTA.out KHA.out) rfl (ShotX.ok HX.out HVOA.out HVHA.out HBA.out)
  · have hsz := h5.1.size
    have hgw := HGW.out
    have hg1 := HG.out
    have HX := hid hx
    have hcc : c = 3 ∨ c = 4 := runF_code (HX1.out.trans hx)
    have kt6 := (hch.2 _ (Array.getElem?_eq_some_iff.1 h1).1 (by omega)).trans h1
    have kh6 := (hch.2 _ (Array.getElem?_eq_some_iff.1 h2).1 (by omega)).trans h2
    have HB6' := hid (show Below w.heap.size w w6 from ⟨hch.1.os.trans (h5.1.os.trans HB6.out.os), hch.1.tape.trans (h5.1.tape.trans HB6.out.tape), hch.1.output.trans (h5.1.output.trans HB6.out.output), Nat.le_trans HB6.out.size (Nat.le_trans hsz hch.1.size), fun k hk => (hch.2 k (by omega) (by omega)).trans ((h5.2 k (by omega) (by omega)).trans (HB6.out.block k hk))⟩)
    have KT6 := hid kt6
    have KH6 := hid kh6
    have ct := cellN (i := 0) (v := .int .i64 z) kt6 rfl
    have ft := frozN (i := 0) kt6
    have c4 := cellN (i := 0) (v := v) kh6 rfl
    have f4 := frozN (i := 0) kh6
    have hbn : w.heap.size + 1 + 1 + 1 ≠ w.heap.size + 1 + 1 + 1 + 1 := by omega
    have hbn2 : w.heap.size + 1 + 1 + 1 + 1 ≠ w.heap.size + 1 + 1 + 1 := by omega
    clear hx h1 h2 h5 hch hsz hgw hg1 hbw hbt h19w kt6 kh6
    rcases hcc with rfl | rfl
    all_goals
      go_wp2_with fail
      have ht6 := (heap_setCell_other _ ⟨w.heap.size + 1 + 1 + 1 + 1, 0, none⟩ (w.heap.size + 1 + 1 + 1) (.slice none 0 0) HNB.out.2).trans (put1_same (.int .i64 0) KT6.out)
      have hh6 := put1_same (.slice none 0 0) ((heap_setCell_other _ ⟨w.heap.size + 1 + 1 + 1, 0, none⟩ (w.heap.size + 1 + 1 + 1 + 1) (.int .i64 0) HNB.out.1).trans KH6.out)
      have hb6 := (HB6'.out.setCell (p := ⟨w.heap.size + 1 + 1 + 1, 0, none⟩) (by show w.heap.size ≤ w.heap.size + 1 + 1 + 1; omega) (.int .i64 0)).setCell (p := ⟨w.heap.size + 1 + 1 + 1 + 1, 0, none⟩) (by show w.heap.size ≤ w.heap.size + 1 + 1 + 1 + 1; omega) (.slice none 0 0)
      exact bodyPost_ret (results_tcct (a := 14) (p := 15) (q := 16) (u := 17) rfl _ _ (w.heap.size + 1 + 1 + 1) (w.heap.size + 1 + 1 + 1 + 1) (.int .i64 0) (.slice none 0 0) rfl rfl ht6 hh6) rfl (ShotX.err HX.out hb6)
end Go.Proofs.YtolnhicngepnnaaGreat
/- TopParted: the plain law. -/
namespace Go.Proofs.YtolnhicngepnnaaGreat
open Go.RowKit

theorem runF_split {r : RinkD} {k : Nat} {R : List BodyD × Nat × List HitD} : ∀ {n t : Nat} {s : List BodyD} {hs : List HitD}, runF r (n + k) t s hs = .ok R → ∃ s1 t1 h1, runF r n t s hs = .ok (s1, t1, h1) ∧ runF r k t1 s1 h1 = .ok R ∧ t1 ≤ t + n
  | 0, t, s, hs, h => ⟨s, t, hs, rfl, by rw [Nat.zero_add] at h; exact h, by omega⟩
  | n + 1, t, s, hs, h => by
    rw [show n + 1 + k = (n + k) + 1 by omega] at h
    simp only [runF] at h ⊢
    by_cases hst : stillS s = true
    · rw [if_pos hst] at h ⊢
      exact ⟨s, t, hs, rfl, by rw [runF_stop (.inl hst)]; exact h, by omega⟩
    · rw [if_neg hst] at h ⊢
      cases hx : tickS r t s with
      | error c => rw [hx] at h; simp at h
      | ok p =>
        rw [hx] at h
        dsimp only at h ⊢
        by_cases hl : 4096 < (hs ++ p.2).length
        · rw [if_pos hl] at h; simp at h
        · rw [if_neg hl] at h ⊢
          obtain ⟨s1, t1, h1, e1, e2, e3⟩ := runF_split h
          exact ⟨s1, t1, h1, e1, e2, by omega⟩
/-- A hit, some ticks later. -/
def shH (a : Int) (h : HitD) : HitD := ⟨h.t + a, h.a, h.b⟩
def shR (a : Int) (q : RS) : RS := ⟨q.s, q.met, q.hits.map (shH a)⟩
def mapR (a : Int) (x : Except Int RS) : Except Int RS := match x with
  | .error c => .error c
  | .ok q => .ok (shR a q)
theorem pairS_shift (el t a : Int) (i j : Nat) (st : RS) : pairS el (t + a) i j (shR a st) = mapR a (pairS el t i j st) := by
  unfold pairS
  show (match st.s[i]?, st.s[j]? with | some x, some y => if touchB x y = true then pairM (t + a) i j (shR a st) (meetR el x y) else .ok (shR a st) | _, _ => .ok (shR a st)) = _
  cases st.s[i]? with
  | none => rfl
  | some x =>
    cases st.s[j]? with
    | none => rfl
    | some y =>
      dsimp only
      by_cases h : touchB x y = true
      · rw [if_pos h, if_pos h]
        cases meetR el x y with
        | error c => rfl
        | ok o =>
          cases o with
          | none => rfl
          | some p => simp only [pairM, mapR, shR, List.map_append, List.map_cons, List.map_nil, shH]
      · rw [if_neg h, if_neg h]; rfl
theorem thenR_shift {a : Int} {x : Except Int RS} {f g : RS → Except Int RS} (h : ∀ q, g (shR a q) = mapR a (f q)) : thenR (mapR a x) g = mapR a (thenR x f) := by
  cases x with
  | error c => rfl
  | ok q => exact h q
theorem innTo_shift (el t a : Int) (i : Nat) (st : RS) : ∀ n, innTo el (t + a) i (shR a st) n = mapR a (innTo el t i st n)
  | 0 => rfl
  | n + 1 => by
    simp only [innTo, innTo_shift el t a i st n]
    exact thenR_shift (fun q => pairS_shift el t a i _ q)
theorem outTo_shift (el t a : Int) (N : Nat) (st : RS) : ∀ n, outTo el (t + a) N (shR a st) n = mapR a (outTo el t N st n)
  | 0 => rfl
  | n + 1 => by
    simp only [outTo, outTo_shift el t a N st n]
    exact thenR_shift (fun q => innTo_shift el t a _ q _)
theorem passTo_shift (el t a : Int) (s : List BodyD) : ∀ n, passTo el (t + a) s n = mapR a (passTo el t s n)
  | 0 => rfl
  | n + 1 => by
    simp only [passTo, passTo_shift el t a s n]
    refine thenR_shift (fun q => ?_)
    unfold passS
    show (if q.met = true then roundS el (t + a) (shR a q) else .ok (shR a q)) = _
    by_cases h : q.met = true
    · rw [if_pos h, if_pos h]
      exact outTo_shift el t a q.s.length ⟨q.s, false, q.hits⟩ q.s.length
    · rw [if_neg h, if_neg h]; rfl
theorem glideTo_shift {r : RinkD} {bl : List Mach} {t a : Int} (h : strR bl t = strR r.bl (t + a)) (l : List BodyD) : ∀ k, glideTo r (t + a) l k = glideTo { r with bl := bl } t l k
  | 0 => rfl
  | k + 1 => by
    have hp : ∀ k, powR r (t + a) k = powR { r with bl := bl } t k := fun k => by unfold powR; rw [h]
    have ho : ∀ k b, oneT r (t + a) k b = oneT { r with bl := bl } t k b := fun k b => by unfold oneT; rw [hp]
    simp only [glideTo, glideTo_shift h l k]
    cases glideTo { r with bl := bl } t l k with
    | error c => rfl
    | ok s =>
      simp only [glideStep]
      cases s[k]? with
      | none => rfl
      | some b => dsimp only; rw [ho]
theorem tickS_shift {r : RinkD} {bl : List Mach} {t a : Int} (h : strR bl t = strR r.bl (t + a)) (l : List BodyD) :
    tickS r (t + a) l = match tickS { r with bl := bl } t l with
      | .error c => .error c
      | .ok p => .ok (p.1, p.2.map (shH a)) := by
  unfold tickS
  rw [glideTo_shift h]
  cases glideTo { r with bl := bl } t l l.length with
  | error c => rfl
  | ok s =>
    simp only [tickP]
    rw [passTo_shift]
    cases passTo r.el t s 8 with
    | error c => rfl
    | ok q => rfl
theorem runF_shift {r : RinkD} {bl : List Mach} {a : Nat} (h : ∀ j : Nat, strR bl (j : Int) = strR r.bl ((j : Int) + (a : Int))) {S : List BodyD} {T : Nat} {H h1 : List HitD} :
    ∀ {k j : Nat} {s : List BodyD} {hs : List HitD}, runF r k (j + a) s (h1 ++ hs.map (shH a)) = .ok (S, T, H) → ∃ h2, runF { r with bl := bl } k j s hs = .ok (S, T - a, h2) ∧ H = h1 ++ h2.map (shH a) ∧ a ≤ T
  | 0, j, s, hs, e => by
    simp only [runF, Except.ok.injEq, Prod.mk.injEq] at e
    obtain ⟨rfl, rfl, rfl⟩ := e
    exact ⟨hs, by simp [runF], rfl, by omega⟩
  | k + 1, j, s, hs, e => by
    simp only [runF] at e ⊢
    by_cases hst : stillS s = true
    · rw [if_pos hst] at e ⊢
      simp only [Except.ok.injEq, Prod.mk.injEq] at e
      obtain ⟨rfl, rfl, rfl⟩ := e
      exact ⟨hs, by simp, rfl, by omega⟩
    · rw [if_neg hst] at e ⊢
      have hts := tickS_shift (r := r) (bl := bl) (h j) s
      rw [show ((j + a : Nat) : Int) = (j : Int) + (a : Int) by omega, hts] at e
      cases hx : tickS { r with bl := bl } (j : Int) s with
      | error c => rw [hx] at e; simp at e
      | ok p =>
        rw [hx] at e
        dsimp only at e ⊢
        have hlen : (h1 ++ hs.map (shH a) ++ p.2.map (shH a)).length = h1.length + (hs ++ p.2).length := by simp
        by_cases hl : 4096 < (h1 ++ hs.map (shH a) ++ p.2.map (shH a)).length
        · rw [if_pos hl] at e; simp at e
        · rw [if_neg hl] at e
          rw [if_neg (by omega)]
          rw [show h1 ++ hs.map (shH a) ++ p.2.map (shH a) = h1 ++ (hs ++ p.2).map (shH a) by simp, show j + a + 1 = (j + 1) + a by omega] at e
          exact runF_shift h e
/-- Brooms, some ticks later. -/
def lat (a : Int) (b : Mach) : Mach := ⟨max 0 (b.cold - a), max 0 (b.power - a), b.start⟩
theorem strR_lat (l : List Mach) (a j : Nat) : strR (l.map (lat a)) (j : Int) = strR l ((j : Int) + (a : Int)) := by
  unfold strR
  rw [List.foldl_map]
  congr 1
  funext n x
  unfold strS lat
  have h : inB (j : Int) (max 0 (x.cold - a)) (max 0 (x.power - a) - 1) = inB ((j : Int) + (a : Int)) x.cold (x.power - 1) := by
    unfold inB
    have e1 : decide (max 0 (x.cold - (a : Int)) ≤ (j : Int)) = decide (x.cold ≤ (j : Int) + (a : Int)) := decide_eq_decide.2 (by omega)
    have e2 : decide ((j : Int) ≤ max 0 (x.power - (a : Int)) - 1) = decide ((j : Int) + (a : Int) ≤ x.power - 1) := decide_eq_decide.2 (by omega)
    rw [e1, e2]
  simp only [h]
theorem broomOk_mk {c p s : Int} (h1 : 0 ≤ c) (h2 : c ≤ p) (h3 : p ≤ 6000) (h4 : 0 ≤ s) (h5 : s ≤ 1000) : broomOk ⟨c, p, s⟩ = true := by
  simp [broomOk, inB, h1, h2, h3, h4, h5]
theorem broomsOk_lat {l : List Mach} (a : Nat) (h : broomsOk l = true) : broomsOk (l.map (lat a)) = true := by
  simp only [broomsOk, Bool.and_eq_true, Bool.not_eq_true', List.any_eq_false, List.length_map] at h ⊢
  refine ⟨h.1, fun x hx => ?_⟩
  obtain ⟨y, hy, rfl⟩ := List.mem_map.1 hx
  have hb : broomOk y = true := by simpa using h.2 y hy
  have : broomOk (lat a y) = true := by
    simp only [broomOk, inB, Bool.and_eq_true, decide_eq_true_eq] at hb
    obtain ⟨⟨b1, b2⟩, b3, b4, b5⟩ := hb
    have m1 : 0 ≤ max 0 (y.cold - (a : Int)) := Int.le_max_left _ _
    have m2 : max 0 (y.cold - (a : Int)) ≤ max 0 (y.power - (a : Int)) := Int.max_le.2 ⟨Int.le_max_left _ _, Int.le_trans (by omega) (Int.le_max_right _ _)⟩
    have m3 : max 0 (y.power - (a : Int)) ≤ 6000 := Int.max_le.2 ⟨by omega, by omega⟩
    exact broomOk_mk m1 m2 m3 b4 b5
  simp [this]
/-- All that is out rests. -/
def OutAll (s : List BodyD) : Prop := ∀ b ∈ s, outOk b = true
theorem OutAll.set {s : List BodyD} {k : Nat} {b : BodyD} (h : OutAll s) (hb : outOk b = true) : OutAll (s.set k b) := fun x hx => by
  rcases List.mem_or_eq_of_mem_set hx with h1 | rfl
  · exact h x h1
  · exact hb
theorem outOk_in {b : BodyD} (h : b.out = false) : outOk b = true := by simp [outOk, h]
theorem oneT_out {r : RinkD} {t : Int} {k : Nat} {b b' : BodyD} (hb : outOk b = true) (h : oneT r t k b = .ok b') : outOk b' = true := by
  unfold oneT at h
  split at h
  · obtain rfl : b = b' := by simpa using h
    exact hb
  · rename_i hn
    have ho : b.out = false := by
      cases e : b.out with
      | false => rfl
      | true => rw [e] at hn; simp at hn
    cases hx : tickI r.i r.g (powR r t k) b.m with
    | error c => rw [hx] at h; simp at h
    | ok m =>
      rw [hx] at h
      simp only [Except.ok.injEq] at h
      subst h
      exact outOk_in ho
theorem glideTo_out {r : RinkD} {t : Int} {l : List BodyD} (hl : OutAll l) : ∀ {k : Nat} {s : List BodyD}, glideTo r t l k = .ok s → OutAll s
  | 0, s, h => by simp only [glideTo, Except.ok.injEq] at h; subst h; exact hl
  | k + 1, s, h => by
    simp only [glideTo] at h
    cases hx : glideTo r t l k with
    | error c => rw [hx] at h; simp [glideStep] at h
    | ok q =>
      rw [hx] at h
      have hq := glideTo_out hl hx
      simp only [glideStep] at h
      cases hb : q[k]? with
      | none => rw [hb] at h; simp only [Except.ok.injEq] at h; subst h; exact hq
      | some b =>
        rw [hb] at h
        dsimp only at h
        cases ho : oneT r t k b with
        | error c => rw [ho] at h; simp [setOk] at h
        | ok b' =>
          rw [ho] at h
          simp only [setOk, Except.ok.injEq] at h
          subst h
          exact hq.set (oneT_out (hq b (List.mem_of_getElem? hb)) ho)
theorem touch_in {x y : BodyD} (h : touchB x y = true) : x.out = false ∧ y.out = false := by
  simp only [touchB, Bool.and_eq_true, Bool.not_eq_true'] at h
  exact ⟨h.1, h.2.1⟩
theorem pairS_out {el t : Int} {a b : Nat} {st q : RS} (hs : OutAll st.s) (h : pairS el t a b st = .ok q) : OutAll q.s := by
  unfold pairS at h
  split at h
  · rename_i x y hx hy
    split at h
    · rename_i ht
      cases hm : meetR el x y with
      | error c => rw [hm] at h; simp [pairM] at h
      | ok o =>
        rw [hm] at h
        cases o with
        | none => simp only [pairM, Except.ok.injEq] at h; subst h; exact hs
        | some p =>
          obtain ⟨rfl, h1, h2⟩ := meetR_ok hm
          simp only [pairM, Except.ok.injEq] at h
          subst h
          obtain ⟨i1, i2⟩ := touch_in ht
          exact (hs.set (outOk_in (b := meetA el x y) i1)).set (outOk_in (b := meetB el x y) i2)
    · simp only [Except.ok.injEq] at h; subst h; exact hs
  · simp only [Except.ok.injEq] at h; subst h; exact hs
theorem innTo_out {el t : Int} {a : Nat} {st : RS} (hs : OutAll st.s) : ∀ {n : Nat} {q : RS}, innTo el t a st n = .ok q → OutAll q.s
  | 0, q, h => by simp only [innTo, Except.ok.injEq] at h; subst h; exact hs
  | n + 1, q, h => by
    obtain ⟨p, h1, h2⟩ := thenR_ok h
    exact pairS_out (innTo_out hs h1) h2
theorem outTo_out {el t : Int} {N : Nat} {st : RS} (hs : OutAll st.s) : ∀ {n : Nat} {q : RS}, outTo el t N st n = .ok q → OutAll q.s
  | 0, q, h => by simp only [outTo, Except.ok.injEq] at h; subst h; exact hs
  | n + 1, q, h => by
    obtain ⟨p, h1, h2⟩ := thenR_ok h
    exact innTo_out (outTo_out hs h1) h2
theorem passTo_out {el t : Int} {s : List BodyD} (hs : OutAll s) : ∀ {n : Nat} {q : RS}, passTo el t s n = .ok q → OutAll q.s
  | 0, q, h => by simp only [passTo, Except.ok.injEq] at h; subst h; exact hs
  | n + 1, q, h => by
    obtain ⟨p, h1, h2⟩ := thenR_ok h
    have h3 := passTo_out hs h1
    unfold passS at h2
    split at h2
    · exact outTo_out (st := ⟨p.s, false, p.hits⟩) h3 h2
    · simp only [Except.ok.injEq] at h2; subst h2; exact h3
theorem tickS_out {r : RinkD} {t : Int} {l s : List BodyD} {hh : List HitD} (hl : OutAll l) (h : tickS r t l = .ok (s, hh)) : OutAll s := by
  unfold tickS at h
  cases hg : glideTo r t l l.length with
  | error c => rw [hg] at h; simp [tickP] at h
  | ok s1 =>
    rw [hg] at h
    simp only [tickP] at h
    cases hp : passTo r.el t s1 8 with
    | error c => rw [hp] at h; simp [afterS] at h
    | ok q =>
      rw [hp] at h
      simp only [afterS, Except.ok.injEq, Prod.mk.injEq] at h
      have h2 := passTo_out (glideTo_out hl hg) hp
      obtain ⟨rfl, rfl⟩ := h
      intro b hb
      obtain ⟨x, hx, rfl⟩ := List.mem_map.1 hb
      unfold outB
      split
      · simp [outOk, restM]
      · exact h2 x hx
theorem runF_like {r : RinkD} {l : List BodyD} : ∀ {n t : Nat} {s : List BodyD} {hs : List HitD} {R : List BodyD × Nat × List HitD}, Like l s → OutAll s → runF r n t s hs = .ok R → Like l R.1 ∧ OutAll R.1
  | 0, t, s, hs, R, h1, h2, h => by simp only [runF, Except.ok.injEq] at h; subst h; exact ⟨h1, h2⟩
  | n + 1, t, s, hs, R, h1, h2, h => by
    simp only [runF] at h
    split at h
    · simp only [Except.ok.injEq] at h; subst h; exact ⟨h1, h2⟩
    · cases hx : tickS r t s with
      | error c => rw [hx] at h; simp at h
      | ok p =>
        rw [hx] at h
        dsimp only at h
        split at h
        · simp at h
        · obtain ⟨s', hh⟩ := p
          have h4 := tickS_like h1.2.1 hx
          exact runF_like ⟨h4.1.trans h1.1, h4.2.1, h4.2.2.trans h1.2.2⟩ (tickS_out h2 hx) h
theorem bNames_like : ∀ {l s : List BodyD} {k : List (Int × Int)}, s.map nameB = l.map nameB → (∀ b ∈ s, b.m.ok = true ∧ outOk b = true) → bNames l k = true → bNames s k = true
  | [], [], _, _, _, _ => rfl
  | [], _ :: _, _, h, _, _ => by simp at h
  | _ :: _, [], _, h, _, _ => by simp at h
  | x :: l, y :: s, k, h, h2, h3 => by
    simp only [List.map_cons, List.cons.injEq] at h
    simp only [bNames, Bool.and_eq_true] at h3 ⊢
    have hy := h2 y (by simp)
    have hn : y.team = x.team ∧ y.n = x.n := by
      have := h.1
      simp only [nameB, Prod.mk.injEq] at this
      exact this
    refine ⟨⟨⟨?_, ?_⟩, hy.2⟩, ?_⟩
    · have hv := h3.1.1.1
      simp only [BodyD.valid, Bool.and_eq_true] at hv ⊢
      rw [hn.1, hn.2]
      exact ⟨hv.1, hv.2.1, hy.1⟩
    · rw [h.1]; exact h3.1.1.2
    · rw [h.1]; exact bNames_like h.2 (fun b hb => h2 b (by simp [hb])) h3.2
theorem bNames_out' : ∀ (l : List BodyD) (k : List (Int × Int)), bNames l k = true → ∀ b ∈ l, outOk b = true
  | [], _, _, b, hb => by simp at hb
  | x :: l, k, h, b, hb => by
    simp only [bNames, Bool.and_eq_true] at h
    rcases List.mem_cons.1 hb with rfl | hb
    · exact h.1.2
    · exact bNames_out' l _ h.2 b hb
theorem rinkOk_out {r : RinkD} {l : List BodyD} (h : rinkOk r l = true) : OutAll l := by
  simp only [rinkOk, Bool.and_eq_true, sceneOk] at h
  exact bNames_out' l [] h.2.2.1.2
/-- The law of TopParted. -/
theorem parted_law {r : RinkD} {l S : List BodyD} {n k T : Nat} {H : List HitD} (hn : n ≤ 30) (hk : k ≤ 30) (h : shotA r l ((n : Int) + (k : Int)) = .ok (S, T, H)) :
    ∃ (s1 : List BodyD) (a : Nat) (h1 h2 : List HitD), shotA r l (n : Int) = .ok (s1, a, h1) ∧ shotA { r with bl := r.bl.map (lat a) } s1 (k : Int) = .ok (S, T - a, h2) ∧ H = h1 ++ h2.map (shH a) ∧ a ≤ T ∧ a ≤ 30 ∧ T ≤ 60 := by
  unfold shotA at h
  split at h
  · rename_i hok
    simp only [Bool.and_eq_true] at hok
    have hrk := rinkOk_ok hok.1
    rw [show ((n : Int) + (k : Int)).toNat = n + k by omega] at h
    obtain ⟨s1, a, h1, e1, e2, e3⟩ := runF_split h
    have hlk := runF_like (Like.refl hrk.2.2.2.2.1) (rinkOk_out hok.1) e1
    obtain ⟨h2, f1, f2, f3⟩ := runF_shift (r := r) (bl := r.bl.map (lat a)) (a := a) (h1 := h1) (j := 0) (s := s1) (hs := []) (fun j => strR_lat r.bl a j) (by simpa using e2)
    obtain ⟨s9, t9, h9, g1, g2, g3⟩ := runF_split (k := 0) (n := n + k) h
    have hT : T ≤ 60 := by
      simp only [runF, Except.ok.injEq, Prod.mk.injEq] at g2
      omega
    refine ⟨s1, a, h1, h2, ?_, ?_, f2, f3, by omega, hT⟩
    · unfold shotA
      have hi : inB (n : Int) 0 6000 = true := by simp [inB]; omega
      rw [hok.1, hi]
      simp only [Bool.and_self, if_true]
      rw [show (n : Int).toNat = n by omega]; exact e1
    · unfold shotA
      have hi : inB (k : Int) 0 6000 = true := by simp [inB]; omega
      have hr2 : rinkOk { r with bl := r.bl.map (lat a) } s1 = true := by
        have h5 := hok.1
        simp only [rinkOk, Bool.and_eq_true, sceneOk, decide_eq_true_eq] at h5 ⊢
        refine ⟨h5.1, h5.2.1, ⟨by rw [hlk.1.1]; exact h5.2.2.1.1, bNames_like hlk.1.2.2 (fun b hb => ⟨hlk.1.2.1 b hb, hlk.2 b hb⟩) h5.2.2.1.2⟩, broomsOk_lat a h5.2.2.2.1, ?_, h5.2.2.2.2.2⟩
        rw [hlk.1.1]; exact h5.2.2.2.2.1
      rw [hr2, hi]
      simp only [Bool.and_self, if_true]
      rw [show (k : Int).toNat = k by omega]; exact f1
  · simp at h
end Go.Proofs.YtolnhicngepnnaaGreat
/- besomref05: Same and Hits of equal lists. -/
namespace Go.Proofs.YtolnhicngepnnaaGreat
open Go.RowKit

def SlH (w : World) (v : Value) (l : List HitD) : Prop := SlV w v l.length (l.flatMap HitD.cells)
theorem hit_get (l : List HitD) (j : Nat) (h : j < l.length) (c : Nat) (hc : c < 3) : (l.flatMap HitD.cells)[j * 3 + c]? = l[j].cells[c]? := flat_get HitD.cells 3 (fun _ => rfl) l j h c hc
theorem SlH.open {w : World} {v : Value} {l : List HitD} (h : SlH w v l) :
    ∃ a cap, v = .slice a l.length cap ∧ l.length ≤ 140737488351232 ∧ ∀ k, k < l.length → ∃ b off, a = some ⟨b, off, none⟩ ∧ b < w.heap.size ∧ ∀ j (h : j < l.length) c, c < 3 → w.cell? ⟨b, off + j * 3 + c, none⟩ = l[j].cells[c]? := by
  obtain ⟨a, cap, rfl, hn, hc⟩ := h
  refine ⟨a, cap, rfl, hn, fun k hk => ?_⟩
  rcases hc with hc | ⟨b, off, rfl, hlt, hc⟩
  · omega
  · refine ⟨b, off, rfl, hlt, fun j hj c hc8 => ?_⟩
    have h1 := hit_get l j hj c hc8
    have h8 : l[j].cells[c]? = some (l[j].cells[c]'(by simpa [HitD.cells] using hc8)) := List.getElem?_eq_getElem _
    rw [h8] at h1 ⊢
    obtain ⟨h2, h3⟩ := List.getElem?_eq_some_iff.1 h1
    rw [Nat.add_assoc, hc _ h2, h3]
theorem own_SlV {w : World} {base n sz : Nat} {t : TypeId} {v : Value} {xs : List Value} (h : w.ownsRow base t sz v n xs) (hn : n ≤ 140737488351232) : SlV w v n xs := by
  rcases h.2 with ⟨rfl, rfl⟩ | ⟨g, cap, cur, rfl, _, hg, hle, _, hsz, hx⟩
  · exact ⟨none, 0, rfl, hn, .inl rfl⟩
  · refine ⟨_, cap, rfl, hn, ?_⟩
    right
    refine ⟨g, 0, rfl, (Array.getElem?_eq_some_iff.1 hg).1, fun i hi => ?_⟩
    have h1 := h.1
    have h3 : xs[i]? = some xs[i] := List.getElem?_eq_getElem hi
    have hi2 : i < n * sz := by omega
    have h4 : (List.take (n * sz) cur.toList)[i]? = some xs[i] := by rw [hx]; exact h3
    rw [List.getElem?_take_of_lt hi2, Array.getElem?_toList] at h4
    rw [Nat.zero_add, World.cell?]
    simp only [hg]
    simpa using h4
set_option maxRecDepth 100000 in
set_option maxHeartbeats 4000000 in
/-- besomref05.Same of equal lists. -/
theorem same19_eq (v u : Value) (l : List BodyD) (w : World) (hs : SlB w v l) (ht : SlB w u l) : Calls Tryz.prog 19 #[v, u] w fun e w' => e = .returned (.bool true) ∧ Below w.heap.size w w' := by
  obtain ⟨a, cap, rfl, hl, hc⟩ := SlB.open hs
  obtain ⟨a2, cup, rfl, _, hd⟩ := SlB.open ht
  have HC := hid hc
  have HD := hid hd
  clear hs ht hc hd
  go_enter Tryz.func19, Tryz.ntmps19
  go_wp2_with fail
  go_loopw [5] (fun i wr => ∃ k : Nat, k ≤ l.length ∧ i = .int .i64 k ∧ Below w.heap.size w wr) (fun i _ => l.length - (intOf i).toNat)
  case atStart => exact ⟨0, Nat.zero_le _, rfl, Below.refl _ _⟩
  case round =>
    obtain ⟨k, hk, rfl, hb⟩ := hrel
    obtain ⟨wo, rfl⟩ : ∃ wo, wo = wr := ⟨_, rfl⟩
    have HBW := hid hb
    by_cases hlt : k < l.length
    · obtain ⟨b, off, rfl, hbl, hc⟩ := HC.out k hlt
      obtain ⟨d, oef, rfl, hdl, hd⟩ := HD.out k hlt
      have hx0 := (hb.cell (p := ⟨b, off + k * 8 + 0, none⟩) hbl).trans (hc k hlt 0 (by omega))
      have hx1 := (hb.cell (p := ⟨b, off + k * 8 + 1, none⟩) hbl).trans (hc k hlt 1 (by omega))
      have hx2 := (hb.cell (p := ⟨b, off + k * 8 + 2, none⟩) hbl).trans (hc k hlt 2 (by omega))
      have hx3 := (hb.cell (p := ⟨b, off + k * 8 + 3, none⟩) hbl).trans (hc k hlt 3 (by omega))
      have hx4 := (hb.cell (p := ⟨b, off + k * 8 + 4, none⟩) hbl).trans (hc k hlt 4 (by omega))
      have hx5 := (hb.cell (p := ⟨b, off + k * 8 + 5, none⟩) hbl).trans (hc k hlt 5 (by omega))
      have hx6 := (hb.cell (p := ⟨b, off + k * 8 + 6, none⟩) hbl).trans (hc k hlt 6 (by omega))
      have hx7 := (hb.cell (p := ⟨b, off + k * 8 + 7, none⟩) hbl).trans (hc k hlt 7 (by omega))
      have hy0 := (hb.cell (p := ⟨d, oef + k * 8 + 0, none⟩) hdl).trans (hd k hlt 0 (by omega))
      have hy1 := (hb.cell (p := ⟨d, oef + k * 8 + 1, none⟩) hdl).trans (hd k hlt 1 (by omega))
      have hy2 := (hb.cell (p := ⟨d, oef + k * 8 + 2, none⟩) hdl).trans (hd k hlt 2 (by omega))
      have hy3 := (hb.cell (p := ⟨d, oef + k * 8 + 3, none⟩) hdl).trans (hd k hlt 3 (by omega))
      have hy4 := (hb.cell (p := ⟨d, oef + k * 8 + 4, none⟩) hdl).trans (hd k hlt 4 (by omega))
      have hy5 := (hb.cell (p := ⟨d, oef + k * 8 + 5, none⟩) hdl).trans (hd k hlt 5 (by omega))
      have hy6 := (hb.cell (p := ⟨d, oef + k * 8 + 6, none⟩) hdl).trans (hd k hlt 6 (by omega))
      have hy7 := (hb.cell (p := ⟨d, oef + k * 8 + 7, none⟩) hdl).trans (hd k hlt 7 (by omega))
      obtain ⟨x, hxe⟩ : ∃ x, l[k] = x := ⟨_, rfl⟩
      rw [hxe] at hx0 hy0 hx1 hy1 hx2 hy2 hx3 hy3 hx4 hy4 hx5 hy5 hx6 hy6 hx7 hy7
      clear hxe hc hd hb
      obtain ⟨team, n, ⟨px, py, vx, vy, sp⟩, out⟩ := x
      have HSF := hid (show (fun W => W.cell? ⟨b, off + k * 8, none⟩ = some (.int .i64 team) ∧ W.cell? ⟨b, off + k * 8 + 1, none⟩ = some (.int .i64 n) ∧ W.cell? ⟨b, off + k * 8 + 2, none⟩ = some (.int .i64 px) ∧ W.cell? ⟨b, off + k * 8 + 3, none⟩ = some (.int .i64 py) ∧ W.cell? ⟨b, off + k * 8 + 4, none⟩ = some (.int .i64 vx) ∧ W.cell? ⟨b, off + k * 8 + 5, none⟩ = some (.int .i64 vy) ∧ W.cell? ⟨b, off + k * 8 + 6, none⟩ = some (.int .i64 sp) ∧ W.cell? ⟨b, off + k * 8 + 7, none⟩ = some (.bool out) ∧ W.cell? ⟨d, oef + k * 8, none⟩ = some (.int .i64 team) ∧ W.cell? ⟨d, oef + k * 8 + 1, none⟩ = some (.int .i64 n) ∧ W.cell? ⟨d, oef + k * 8 + 2, none⟩ = some (.int .i64 px) ∧ W.cell? ⟨d, oef + k * 8 + 3, none⟩ = some (.int .i64 py) ∧ W.cell? ⟨d, oef + k * 8 + 4, none⟩ = some (.int .i64 vx) ∧ W.cell? ⟨d, oef + k * 8 + 5, none⟩ = some (.int .i64 vy) ∧ W.cell? ⟨d, oef + k * 8 + 6, none⟩ = some (.int .i64 sp) ∧ W.cell? ⟨d, oef + k * 8 + 7, none⟩ = some (.bool out)) wo from ⟨hx0, hx1, hx2, hx3, hx4, hx5, hx6, hx7, hy0, hy1, hy2, hy3, hy4, hy5, hy6, hy7⟩)
      clear hx0 hy0 hx1 hy1 hx2 hy2 hx3 hy3 hx4 hy4 hx5 hy5 hx6 hy6 hx7 hy7
      go_upto_region 6 with fail
      refine wp_region_held_drew (S := (fun W => W.cell? ⟨b, off + k * 8, none⟩ = some (.int .i64 team) ∧ W.cell? ⟨b, off + k * 8 + 1, none⟩ = some (.int .i64 n) ∧ W.cell? ⟨b, off + k * 8 + 2, none⟩ = some (.int .i64 px) ∧ W.cell? ⟨b, off + k * 8 + 3, none⟩ = some (.int .i64 py) ∧ W.cell? ⟨b, off + k * 8 + 4, none⟩ = some (.int .i64 vx) ∧ W.cell? ⟨b, off + k * 8 + 5, none⟩ = some (.int .i64 vy) ∧ W.cell? ⟨b, off + k * 8 + 6, none⟩ = some (.int .i64 sp) ∧ W.cell? ⟨b, off + k * 8 + 7, none⟩ = some (.bool out) ∧ W.cell? ⟨d, oef + k * 8, none⟩ = some (.int .i64 team) ∧ W.cell? ⟨d, oef + k * 8 + 1, none⟩ = some (.int .i64 n) ∧ W.cell? ⟨d, oef + k * 8 + 2, none⟩ = some (.int .i64 px) ∧ W.cell? ⟨d, oef + k * 8 + 3, none⟩ = some (.int .i64 py) ∧ W.cell? ⟨d, oef + k * 8 + 4, none⟩ = some (.int .i64 vx) ∧ W.cell? ⟨d, oef + k * 8 + 5, none⟩ = some (.int .i64 vy) ∧ W.cell? ⟨d, oef + k * 8 + 6, none⟩ = some (.int .i64 sp) ∧ W.cell? ⟨d, oef + k * 8 + 7, none⟩ = some (.bool out))) (by kernel_rfl) (HSF.out) (fun hH => ?_)
      refine wpAnyH_take (i := 0) (oi := { dst := some 17, op := Go.Op.move (Go.Operand.tmp 0), type := 74, pos := "ref.go:313", after := #[], guard := none }) (v := (.slice (some ⟨b, off, none⟩) l.length cap)) rfl (by kernel_rfl) (by kernel_rfl) (by kernel_rfl) (fun _ _ _ h => h) (Or.inl ⟨by rfl, ?_⟩) hH ?_
      · intro w hSw
        (try dsimp only at hSw)
        go_simp
      (try simp only [Act.put, List.setIfInBounds_toArray, List.set_cons_zero, List.set_cons_succ])
      refine wpAnyH_take (i := 1) (oi := { dst := some 18, op := Go.Op.move (Go.Operand.tmp 5), type := 3, pos := "ref.go:313", after := #[], guard := none }) (v := (.int .i64 k)) rfl (by kernel_rfl) (by kernel_rfl) (by kernel_rfl) (fun _ _ _ h => h) (Or.inl ⟨by rfl, ?_⟩) hH ?_
      · intro w hSw
        (try dsimp only at hSw)
        go_simp
      (try simp only [Act.put, List.setIfInBounds_toArray, List.set_cons_zero, List.set_cons_succ])
      refine wpAnyH_take (i := 2) (oi := { dst := some 19, op := Go.Op.indexAddr 74 (Go.Operand.tmp 17) (Go.Operand.tmp 18), type := 0, pos := "ref.go:313", after := #[{ on := 0, ground := Go.Ground.data }, { on := 1, ground := Go.Ground.data }], guard := none }) (v := (.pointer (some ⟨b, off + k * 8, none⟩))) rfl (by kernel_rfl) (by kernel_rfl) (by kernel_rfl) (fun _ _ _ h => h) (Or.inl ⟨by rfl, ?_⟩) hH ?_
      · intro w hSw
        (try dsimp only at hSw)
        go_simp
      (try simp only [Act.put, List.setIfInBounds_toArray, List.set_cons_zero, List.set_cons_succ])
      refine wpAnyH_take (i := 3) (oi := { dst := some 20, op := Go.Op.load 72 (Go.Operand.tmp 19), type := 72, pos := "ref.go:313", after := #[{ on := 2, ground := Go.Ground.data }], guard := none }) (v := (.agg #[.int .i64 team, .int .i64 n, .int .i64 px, .int .i64 py, .int .i64 vx, .int .i64 vy, .int .i64 sp, .bool out])) rfl (by kernel_rfl) (by kernel_rfl) (by kernel_rfl) (fun _ _ _ h => h) (Or.inl ⟨by rfl, ?_⟩) hH ?_
      · intro w hSw
        (try dsimp only at hSw)
        go_simp
      (try simp only [Act.put, List.setIfInBounds_toArray, List.set_cons_zero, List.set_cons_succ])
      refine wpAnyH_take (i := 4) (oi := { dst := some 21, op := Go.Op.move (Go.Operand.tmp 1), type := 74, pos := "ref.go:313", after := #[], guard := none }) (v := (.slice (some ⟨d, oef, none⟩) l.length cup)) rfl (by kernel_rfl) (by kernel_rfl) (by kernel_rfl) (fun _ _ _ h => h) (Or.inl ⟨by rfl, ?_⟩) hH ?_
      · intro w hSw
        (try dsimp only at hSw)
        go_simp
      (try simp only [Act.put, List.setIfInBounds_toArray, List.set_cons_zero, List.set_cons_succ])
      refine wpAnyH_take (i := 5) (oi := { dst := some 22, op := Go.Op.move (Go.Operand.tmp 5), type := 3, pos := "ref.go:313", after := #[], guard := none }) (v := (.int .i64 k)) rfl (by kernel_rfl) (by kernel_rfl) (by kernel_rfl) (fun _ _ _ h => h) (Or.inl ⟨by rfl, ?_⟩) hH ?_
      · intro w hSw
        (try dsimp only at hSw)
        go_simp
      (try simp only [Act.put, List.setIfInBounds_toArray, List.set_cons_zero, List.set_cons_succ])
      refine wpAnyH_take (i := 6) (oi := { dst := some 23, op := Go.Op.indexAddr 74 (Go.Operand.tmp 21) (Go.Operand.tmp 22), type := 0, pos := "ref.go:313", after := #[{ on := 4, ground := Go.Ground.data }, { on := 5, ground := Go.Ground.data }], guard := none }) (v := (.pointer (some ⟨d, oef + k * 8, none⟩))) rfl (by kernel_rfl) (by kernel_rfl) (by kernel_rfl) (fun _ _ _ h => h) (Or.inl ⟨by rfl, ?_⟩) hH ?_
      · intro w hSw
        (try dsimp only at hSw)
        go_simp
      (try simp only [Act.put, List.setIfInBounds_toArray, List.set_cons_zero, List.set_cons_succ])
      refine wpAnyH_take (i := 7) (oi := { dst := some 24, op := Go.Op.load 72 (Go.Operand.tmp 23), type := 72, pos := "ref.go:313", after := #[{ on := 6, ground := Go.Ground.data }], guard := none }) (v := (.agg #[.int .i64 team, .int .i64 n, .int .i64 px, .int .i64 py, .int .i64 vx, .int .i64 vy, .int .i64 sp, .bool out])) rfl (by kernel_rfl) (by kernel_rfl) (by kernel_rfl) (fun _ _ _ h => h) (Or.inl ⟨by rfl, ?_⟩) hH ?_
      · intro w hSw
        (try dsimp only at hSw)
        go_simp
      (try simp only [Act.put, List.setIfInBounds_toArray, List.set_cons_zero, List.set_cons_succ])
      refine wpAnyH_take (i := 8) (oi := { dst := some 25, op := Go.Op.binOp Go.BinOp.neq 72 (Go.Operand.tmp 20) (Go.Operand.tmp 24) 72, type := 4, pos := "ref.go:313", after := #[{ on := 3, ground := Go.Ground.data }, { on := 7, ground := Go.Ground.data }], guard := none }) (v := (.bool false)) rfl (by kernel_rfl) (by kernel_rfl) (by kernel_rfl) (fun _ _ _ h => h) (Or.inl ⟨by rfl, ?_⟩) hH ?_
      · intro w hSw
        (try dsimp only at hSw)
        go_simp
      (try simp only [Act.put, List.setIfInBounds_toArray, List.set_cons_zero, List.set_cons_succ])
      refine wpAnyH_done (by kernel_rfl) ?_ _
      go_wp2_with fail
      exact ⟨⟨k + 1, by omega, by go_num, HBW.out.drew⟩, by simp only [intOf]; omega⟩
    · obtain rfl : k = l.length := by omega
      clear hb
      go_wp2_with fail
      go_ret
      exact ⟨rfl, HBW.out⟩
set_option maxRecDepth 100000 in
set_option maxHeartbeats 4000000 in
/-- besomref05.Hits of equal lists. -/
theorem hits20_eq (v u : Value) (l : List HitD) (w : World) (hs : SlH w v l) (ht : SlH w u l) : Calls Tryz.prog 20 #[v, u] w fun e w' => e = .returned (.bool true) ∧ Below w.heap.size w w' := by
  obtain ⟨a, cap, rfl, hl, hc⟩ := SlH.open hs
  obtain ⟨a2, cup, rfl, _, hd⟩ := SlH.open ht
  have HC := hid hc
  have HD := hid hd
  clear hs ht hc hd
  go_enter Tryz.func20, Tryz.ntmps20
  go_wp2_with fail
  go_loopw [5] (fun i wr => ∃ k : Nat, k ≤ l.length ∧ i = .int .i64 k ∧ Below w.heap.size w wr) (fun i _ => l.length - (intOf i).toNat)
  case atStart => exact ⟨0, Nat.zero_le _, rfl, Below.refl _ _⟩
  case round =>
    obtain ⟨k, hk, rfl, hb⟩ := hrel
    obtain ⟨wo, rfl⟩ : ∃ wo, wo = wr := ⟨_, rfl⟩
    have HBW := hid hb
    by_cases hlt : k < l.length
    · obtain ⟨b, off, rfl, hbl, hc⟩ := HC.out k hlt
      obtain ⟨d, oef, rfl, hdl, hd⟩ := HD.out k hlt
      have hx0 := (hb.cell (p := ⟨b, off + k * 3 + 0, none⟩) hbl).trans (hc k hlt 0 (by omega))
      have hx1 := (hb.cell (p := ⟨b, off + k * 3 + 1, none⟩) hbl).trans (hc k hlt 1 (by omega))
      have hx2 := (hb.cell (p := ⟨b, off + k * 3 + 2, none⟩) hbl).trans (hc k hlt 2 (by omega))
      have hy0 := (hb.cell (p := ⟨d, oef + k * 3 + 0, none⟩) hdl).trans (hd k hlt 0 (by omega))
      have hy1 := (hb.cell (p := ⟨d, oef + k * 3 + 1, none⟩) hdl).trans (hd k hlt 1 (by omega))
      have hy2 := (hb.cell (p := ⟨d, oef + k * 3 + 2, none⟩) hdl).trans (hd k hlt 2 (by omega))
      obtain ⟨x, hxe⟩ : ∃ x, l[k] = x := ⟨_, rfl⟩
      rw [hxe] at hx0 hy0 hx1 hy1 hx2 hy2
      clear hxe hc hd hb
      obtain ⟨ht, ha, hb⟩ := x
      have HSF := hid (show (fun W => W.cell? ⟨b, off + k * 3, none⟩ = some (.int .i64 ht) ∧ W.cell? ⟨b, off + k * 3 + 1, none⟩ = some (.int .i64 ha) ∧ W.cell? ⟨b, off + k * 3 + 2, none⟩ = some (.int .i64 hb) ∧ W.cell? ⟨d, oef + k * 3, none⟩ = some (.int .i64 ht) ∧ W.cell? ⟨d, oef + k * 3 + 1, none⟩ = some (.int .i64 ha) ∧ W.cell? ⟨d, oef + k * 3 + 2, none⟩ = some (.int .i64 hb)) wo from ⟨hx0, hx1, hx2, hy0, hy1, hy2⟩)
      clear hx0 hy0 hx1 hy1 hx2 hy2
      go_upto_region 6 with fail
      refine wp_region_held_drew (S := (fun W => W.cell? ⟨b, off + k * 3, none⟩ = some (.int .i64 ht) ∧ W.cell? ⟨b, off + k * 3 + 1, none⟩ = some (.int .i64 ha) ∧ W.cell? ⟨b, off + k * 3 + 2, none⟩ = some (.int .i64 hb) ∧ W.cell? ⟨d, oef + k * 3, none⟩ = some (.int .i64 ht) ∧ W.cell? ⟨d, oef + k * 3 + 1, none⟩ = some (.int .i64 ha) ∧ W.cell? ⟨d, oef + k * 3 + 2, none⟩ = some (.int .i64 hb))) (by kernel_rfl) (HSF.out) (fun hH => ?_)
      refine wpAnyH_take (i := 0) (oi := { dst := some 17, op := Go.Op.move (Go.Operand.tmp 0), type := 75, pos := "ref.go:325", after := #[], guard := none }) (v := (.slice (some ⟨b, off, none⟩) l.length cap)) rfl (by kernel_rfl) (by kernel_rfl) (by kernel_rfl) (fun _ _ _ h => h) (Or.inl ⟨by rfl, ?_⟩) hH ?_
      · intro w hSw
        (try dsimp only at hSw)
        go_simp
      (try simp only [Act.put, List.setIfInBounds_toArray, List.set_cons_zero, List.set_cons_succ])
      refine wpAnyH_take (i := 1) (oi := { dst := some 18, op := Go.Op.move (Go.Operand.tmp 5), type := 3, pos := "ref.go:325", after := #[], guard := none }) (v := (.int .i64 k)) rfl (by kernel_rfl) (by kernel_rfl) (by kernel_rfl) (fun _ _ _ h => h) (Or.inl ⟨by rfl, ?_⟩) hH ?_
      · intro w hSw
        (try dsimp only at hSw)
        go_simp
      (try simp only [Act.put, List.setIfInBounds_toArray, List.set_cons_zero, List.set_cons_succ])
      refine wpAnyH_take (i := 2) (oi := { dst := some 19, op := Go.Op.indexAddr 75 (Go.Operand.tmp 17) (Go.Operand.tmp 18), type := 0, pos := "ref.go:325", after := #[{ on := 0, ground := Go.Ground.data }, { on := 1, ground := Go.Ground.data }], guard := none }) (v := (.pointer (some ⟨b, off + k * 3, none⟩))) rfl (by kernel_rfl) (by kernel_rfl) (by kernel_rfl) (fun _ _ _ h => h) (Or.inl ⟨by rfl, ?_⟩) hH ?_
      · intro w hSw
        (try dsimp only at hSw)
        go_simp
      (try simp only [Act.put, List.setIfInBounds_toArray, List.set_cons_zero, List.set_cons_succ])
      refine wpAnyH_take (i := 3) (oi := { dst := some 20, op := Go.Op.load 86 (Go.Operand.tmp 19), type := 86, pos := "ref.go:325", after := #[{ on := 2, ground := Go.Ground.data }], guard := none }) (v := (.agg #[.int .i64 ht, .int .i64 ha, .int .i64 hb])) rfl (by kernel_rfl) (by kernel_rfl) (by kernel_rfl) (fun _ _ _ h => h) (Or.inl ⟨by rfl, ?_⟩) hH ?_
      · intro w hSw
        (try dsimp only at hSw)
        go_simp
      (try simp only [Act.put, List.setIfInBounds_toArray, List.set_cons_zero, List.set_cons_succ])
      refine wpAnyH_take (i := 4) (oi := { dst := some 21, op := Go.Op.move (Go.Operand.tmp 1), type := 75, pos := "ref.go:325", after := #[], guard := none }) (v := (.slice (some ⟨d, oef, none⟩) l.length cup)) rfl (by kernel_rfl) (by kernel_rfl) (by kernel_rfl) (fun _ _ _ h => h) (Or.inl ⟨by rfl, ?_⟩) hH ?_
      · intro w hSw
        (try dsimp only at hSw)
        go_simp
      (try simp only [Act.put, List.setIfInBounds_toArray, List.set_cons_zero, List.set_cons_succ])
      refine wpAnyH_take (i := 5) (oi := { dst := some 22, op := Go.Op.move (Go.Operand.tmp 5), type := 3, pos := "ref.go:325", after := #[], guard := none }) (v := (.int .i64 k)) rfl (by kernel_rfl) (by kernel_rfl) (by kernel_rfl) (fun _ _ _ h => h) (Or.inl ⟨by rfl, ?_⟩) hH ?_
      · intro w hSw
        (try dsimp only at hSw)
        go_simp
      (try simp only [Act.put, List.setIfInBounds_toArray, List.set_cons_zero, List.set_cons_succ])
      refine wpAnyH_take (i := 6) (oi := { dst := some 23, op := Go.Op.indexAddr 75 (Go.Operand.tmp 21) (Go.Operand.tmp 22), type := 0, pos := "ref.go:325", after := #[{ on := 4, ground := Go.Ground.data }, { on := 5, ground := Go.Ground.data }], guard := none }) (v := (.pointer (some ⟨d, oef + k * 3, none⟩))) rfl (by kernel_rfl) (by kernel_rfl) (by kernel_rfl) (fun _ _ _ h => h) (Or.inl ⟨by rfl, ?_⟩) hH ?_
      · intro w hSw
        (try dsimp only at hSw)
        go_simp
      (try simp only [Act.put, List.setIfInBounds_toArray, List.set_cons_zero, List.set_cons_succ])
      refine wpAnyH_take (i := 7) (oi := { dst := some 24, op := Go.Op.load 86 (Go.Operand.tmp 23), type := 86, pos := "ref.go:325", after := #[{ on := 6, ground := Go.Ground.data }], guard := none }) (v := (.agg #[.int .i64 ht, .int .i64 ha, .int .i64 hb])) rfl (by kernel_rfl) (by kernel_rfl) (by kernel_rfl) (fun _ _ _ h => h) (Or.inl ⟨by rfl, ?_⟩) hH ?_
      · intro w hSw
        (try dsimp only at hSw)
        go_simp
      (try simp only [Act.put, List.setIfInBounds_toArray, List.set_cons_zero, List.set_cons_succ])
      refine wpAnyH_take (i := 8) (oi := { dst := some 25, op := Go.Op.binOp Go.BinOp.neq 86 (Go.Operand.tmp 20) (Go.Operand.tmp 24) 86, type := 4, pos := "ref.go:325", after := #[{ on := 3, ground := Go.Ground.data }, { on := 7, ground := Go.Ground.data }], guard := none }) (v := (.bool false)) rfl (by kernel_rfl) (by kernel_rfl) (by kernel_rfl) (fun _ _ _ h => h) (Or.inl ⟨by rfl, ?_⟩) hH ?_
      · intro w hSw
        (try dsimp only at hSw)
        go_simp
      (try simp only [Act.put, List.setIfInBounds_toArray, List.set_cons_zero, List.set_cons_succ])
      refine wpAnyH_done (by kernel_rfl) ?_ _
      go_wp2_with fail
      exact ⟨⟨k + 1, by omega, by go_num, HBW.out.drew⟩, by simp only [intOf]; omega⟩
    · obtain rfl : k = l.length := by omega
      clear hb
      go_wp2_with fail
      go_ret
      exact ⟨rfl, HBW.out⟩
end Go.Proofs.YtolnhicngepnnaaGreat
