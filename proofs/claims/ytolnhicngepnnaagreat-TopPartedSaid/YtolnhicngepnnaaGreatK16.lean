/- besomtop.TopParted, walked. -/
import Derived.Test.YtolnhicngepnnaaGreatK15
namespace Go.Proofs.YtolnhicngepnnaaGreat
open Go.RowKit

def AllT (t : Int) (hs : List HitD) : Prop := ∀ h ∈ hs, h.t = t
theorem pairS_t {el t : Int} {a b : Nat} {st q : RS} (hs : AllT t st.hits) (h : pairS el t a b st = .ok q) : AllT t q.hits := by
  unfold pairS at h
  split at h
  · rename_i x y _ _
    split at h
    · cases hm : meetR el x y with
      | error c => rw [hm] at h; simp [pairM] at h
      | ok o =>
        rw [hm] at h
        cases o with
        | none => simp only [pairM, Except.ok.injEq] at h; subst h; exact hs
        | some p =>
          simp only [pairM, Except.ok.injEq] at h
          subst h
          intro x hx
          rcases List.mem_append.1 hx with h1 | h1
          · exact hs x h1
          · obtain rfl : x = ⟨t, a, b⟩ := by simpa using h1
            rfl
    · simp only [Except.ok.injEq] at h; subst h; exact hs
  · simp only [Except.ok.injEq] at h; subst h; exact hs
theorem innTo_t {el t : Int} {a : Nat} {st : RS} (hs : AllT t st.hits) : ∀ {n : Nat} {q : RS}, innTo el t a st n = .ok q → AllT t q.hits
  | 0, q, h => by simp only [innTo, Except.ok.injEq] at h; subst h; exact hs
  | n + 1, q, h => by
    obtain ⟨p, h1, h2⟩ := thenR_ok h
    exact pairS_t (innTo_t hs h1) h2
theorem outTo_t {el t : Int} {N : Nat} {st : RS} (hs : AllT t st.hits) : ∀ {n : Nat} {q : RS}, outTo el t N st n = .ok q → AllT t q.hits
  | 0, q, h => by simp only [outTo, Except.ok.injEq] at h; subst h; exact hs
  | n + 1, q, h => by
    obtain ⟨p, h1, h2⟩ := thenR_ok h
    exact innTo_t (outTo_t hs h1) h2
theorem passTo_t {el t : Int} {s : List BodyD} : ∀ {n : Nat} {q : RS}, passTo el t s n = .ok q → AllT t q.hits
  | 0, q, h => by simp only [passTo, Except.ok.injEq] at h; subst h; intro x hx; simp at hx
  | n + 1, q, h => by
    obtain ⟨p, h1, h2⟩ := thenR_ok h
    have h3 := passTo_t h1
    unfold passS at h2
    split at h2
    · exact outTo_t (st := ⟨p.s, false, p.hits⟩) h3 h2
    · simp only [Except.ok.injEq] at h2; subst h2; exact h3
theorem tickS_t {r : RinkD} {t : Int} {l s : List BodyD} {hh : List HitD} (h : tickS r t l = .ok (s, hh)) : AllT t hh := by
  unfold tickS at h
  cases hg : glideTo r t l l.length with
  | error c => rw [hg] at h; simp [tickP] at h
  | ok s1 =>
    rw [hg] at h
    simp only [tickP] at h
    cases hp : passTo r.el t s1 8 with
    | error c => rw [hp] at h; simp [afterS] at h
    | ok q =>
      rw [hp] at h
      simp only [afterS, Except.ok.injEq, Prod.mk.injEq] at h
      obtain ⟨-, rfl⟩ := h
      exact passTo_t hp
theorem runF_t {r : RinkD} {M : Nat} : ∀ {n t : Nat} {s : List BodyD} {hs : List HitD} {R : List BodyD × Nat × List HitD}, t + n ≤ M → (∀ h ∈ hs, 0 ≤ h.t ∧ h.t ≤ M) → runF r n t s hs = .ok R → ∀ h ∈ R.2.2, 0 ≤ h.t ∧ h.t ≤ M
  | 0, t, s, hs, R, h1, h2, h => by simp only [runF, Except.ok.injEq] at h; subst h; exact h2
  | n + 1, t, s, hs, R, h1, h2, h => by
    simp only [runF] at h
    split at h
    · simp only [Except.ok.injEq] at h; subst h; exact h2
    · cases hx : tickS r t s with
      | error c => rw [hx] at h; simp at h
      | ok p =>
        rw [hx] at h
        dsimp only at h
        split at h
        · simp at h
        · obtain ⟨s', hh⟩ := p
          refine runF_t (by omega) (fun y hy => ?_) h
          rcases List.mem_append.1 hy with h3 | h3
          · exact h2 y h3
          · have := tickS_t hx y h3
            omega
theorem shotA_t {r : RinkD} {l S : List BodyD} {k : Nat} {T : Nat} {H : List HitD} (h : shotA r l (k : Int) = .ok (S, T, H)) (hk : k ≤ 6000) : ∀ x ∈ H, 0 ≤ x.t ∧ x.t ≤ 6000 := by
  unfold shotA at h
  split at h
  · exact runF_t (M := 6000) (by omega) (by intro x hx; simp at hx) h
  · simp at h
theorem runF_len {r : RinkD} : ∀ {n t : Nat} {s : List BodyD} {hs : List HitD} {R : List BodyD × Nat × List HitD}, hs.length ≤ 4096 → runF r n t s hs = .ok R → R.2.2.length ≤ 4096
  | 0, t, s, hs, R, h1, h => by simp only [runF, Except.ok.injEq] at h; subst h; exact h1
  | n + 1, t, s, hs, R, h1, h => by
    simp only [runF] at h
    split at h
    · simp only [Except.ok.injEq] at h; subst h; exact h1
    · cases hx : tickS r t s with
      | error c => rw [hx] at h; simp at h
      | ok p =>
        rw [hx] at h
        dsimp only at h
        split at h
        · simp at h
        · exact runF_len (by omega) h
theorem shotA_len {r : RinkD} {l S : List BodyD} {m : Int} {T : Nat} {H : List HitD} (h : shotA r l m = .ok (S, T, H)) : S.length ≤ 16 ∧ H.length ≤ 4096 ∧ broomsOk r.bl = true := by
  unfold shotA at h
  split at h
  · rename_i hok
    simp only [Bool.and_eq_true] at hok
    have hrk := rinkOk_ok hok.1
    have h1 := runF_like (Like.refl hrk.2.2.2.2.1) (rinkOk_out hok.1) h
    exact ⟨by rw [h1.1.1]; exact hrk.2.2.2.2.2, runF_len (by simp) h, hrk.2.2.1⟩
  · simp at h
theorem broom_b {l : List Mach} (h : broomsOk l = true) (k : Nat) (hk : k < l.length) : 0 ≤ l[k].cold ∧ l[k].cold ≤ 6000 ∧ 0 ≤ l[k].power ∧ l[k].power ≤ 6000 := by
  simp only [broomsOk, Bool.and_eq_true, Bool.not_eq_true', List.any_eq_false] at h
  have hb : broomOk l[k] = true := by simpa using h.2 l[k] (List.getElem_mem _)
  simp only [broomOk, inB, Bool.and_eq_true, decide_eq_true_eq] at hb
  omega
theorem ShotX.form {x : Except Int (List BodyD × Nat × List HitD)} {w : World} {e : Ending} {w' : World} (h : ShotX x w e w') : ∃ vo z vh c, e = .returned (.tuple #[vo, .int .i64 z, vh, .int .i64 c]) ∧ Below w.heap.size w w' := by
  obtain ⟨hb, h⟩ := h
  cases x with
  | error c => exact ⟨_, _, _, _, h, hb⟩
  | ok p =>
    obtain ⟨vo, vh, h1, _⟩ := h
    exact ⟨_, _, _, _, h1, hb⟩
theorem own_ch2 {w w' : World} {base sz n : Nat} {t : TypeId} {v : Value} {xs : List Value} {S : Nat → Prop} (h : w.ownsRow base t sz v n xs) (hc : Ch S w w') (hn : ∀ j, v.ownBlock = some j → ¬ S j) : w'.ownsRow base t sz v n xs := by
  refine ⟨h.1, ?_⟩
  rcases h.2 with h1 | ⟨q, cap, cur, rfl, hb, hg, h3⟩
  · exact .inl h1
  · exact .inr ⟨q, cap, cur, rfl, hb, (hc.2 q (Array.getElem?_eq_some_iff.1 hg).1 (hn q rfl)).trans hg, h3⟩
theorem info83 : (Tryz.prog.info? 83).map (fun i => (i.zero, i.size, i.bytes)) = some (some (.agg #[.int .i64 0, .int .i64 0, .int .i64 0]), 3, 24) := by kernel_rfl
theorem made_broom (w : World) (base : Nat) (x y z : Int) (hb : base ≤ w.heap.size) : (w.alloc (.cells #[.int .i64 x, .int .i64 y, .int .i64 z] 83)).ownsRow base 83 3 (.slice (some ⟨w.heap.size, 0, none⟩) 1 1) 1 [.int .i64 x, .int .i64 y, .int .i64 z] :=
  ⟨rfl, .inr ⟨w.heap.size, 1, _, rfl, hb, heap_alloc_new w _, Nat.le_refl _, by decide, rfl, rfl⟩⟩
set_option maxRecDepth 100000 in
set_option maxHeartbeats 16000000 in
theorem parted6_any (r : RinkD) (pv qv bv v : Value) (l : List BodyD) (some' more : Nat) (w : World) (hr : RinkAt w r pv qv bv) (hs : SlB w v l) (h1s : some' < 256) (h1m : more < 256) :
    Calls Tryz.prog 6 #[.agg (r.arr pv qv bv), v, .int .u8 (some' : Int), .int .u8 (more : Int)] w fun e w' => e = .returned (.bool true) ∧ Below w.heap.size w w' := by
  have HRA := hid hr
  have HSB := hid hs
  obtain ⟨⟨hpv, hqv⟩, hbv⟩ := hr
  have HBM := hid hbv
  obtain ⟨pa, pc, rfl, -, -⟩ := hpv.open
  obtain ⟨qa, qc, rfl, -, -⟩ := hqv.open
  obtain ⟨ba, bc, rfl, -, -⟩ := hbv.open
  obtain ⟨va, vc, rfl, -, -⟩ := hs.open
  have HGT := hid (fun (W : World) (hB : Below w.heap.size w W) => great16_any r.i (.slice pa r.i.pl.length pc) (.slice qa r.i.ql.length qc) 200 W (IceAt.below ⟨hpv, hqv⟩ hB))
  have HICE := hid (fun (W : World) (hB : Below w.heap.size w W) => (IceAt.below ⟨hpv, hqv⟩ hB : IceAt W r.i (.slice pa r.i.pl.length pc) (.slice qa r.i.ql.length qc)))
  clear hpv hqv hbv hs
  obtain ⟨n, hn⟩ : ∃ n : Nat, some' % 31 = n := ⟨_, rfl⟩
  obtain ⟨k, hk⟩ : ∃ k : Nat, more % 31 = k := ⟨_, rfl⟩
  have hn30 : n ≤ 30 := by omega
  have hk30 : k ≤ 30 := by omega
  have hnI : (some' : Int) % 31 = (n : Int) := by omega
  have hkI : (more : Int) % 31 = (k : Int) := by omega
  have hsI : ((some' : Nat) : Int) < 256 := by omega
  have hmI : ((more : Nat) : Int) < 256 := by omega
  clear hn hk
  have HS := hid (fun (m : Int) (W : World) (hB : Below w.heap.size w W) => shot18_any r (.slice pa r.i.pl.length pc) (.slice qa r.i.ql.length qc) (.slice ba r.bl.length bc) (.slice va l.length vc) l m W (HRA.out.below hB) (SlB.below HSB.out hB))
  have HLAW := hid (fun (S : List BodyD) (T : Nat) (H : List HitD) (h : shotA r l ((n : Int) + (k : Int)) = .ok (S, T, H)) => parted_law hn30 hk30 h)
  obtain ⟨gb, hgb⟩ : ∃ g, greatI r.i 200 = g := ⟨_, rfl⟩
  rw [hgb] at HGT
  clear hgb
  have hb1 : Below w.heap.size w (w.alloc (.cells #[.int .i64 r.i.cx, .int .i64 r.i.cy, .int .i64 r.i.sd, .int .i64 r.i.W, .int .i64 r.i.H, .slice pa r.i.pl.length pc, .slice qa r.i.ql.length qc, .int .i64 r.g.fl, .int .i64 r.g.kn, .int .i64 r.g.a, .int .i64 r.g.b, .int .i64 r.g.c, .slice ba r.bl.length bc, .int .i64 r.who, .int .i64 r.el] 70)) := (Below.refl _ _).alloc (Nat.le_refl _) _
  have hp1 := heap_alloc_new w (.cells #[.int .i64 r.i.cx, .int .i64 r.i.cy, .int .i64 r.i.sd, .int .i64 r.i.W, .int .i64 r.i.H, .slice pa r.i.pl.length pc, .slice qa r.i.ql.length qc, .int .i64 r.g.fl, .int .i64 r.g.kn, .int .i64 r.g.a, .int .i64 r.g.b, .int .i64 r.g.c, .slice ba r.bl.length bc, .int .i64 r.who, .int .i64 r.el] 70)
  obtain ⟨W1, hW1⟩ : ∃ W1, w.alloc (.cells #[.int .i64 r.i.cx, .int .i64 r.i.cy, .int .i64 r.i.sd, .int .i64 r.i.W, .int .i64 r.i.H, .slice pa r.i.pl.length pc, .slice qa r.i.ql.length qc, .int .i64 r.g.fl, .int .i64 r.g.kn, .int .i64 r.g.a, .int .i64 r.g.b, .int .i64 r.g.c, .slice ba r.bl.length bc, .int .i64 r.who, .int .i64 r.el] 70) = W1 := ⟨_, rfl⟩
  rw [hW1] at hb1 hp1
  have HW1 := hid hW1
  have HB1 := hid hb1
  have HP1 := hid hp1
  clear hW1 hb1 hp1
  have HGT := hid (show ∀ W, Below w.heap.size w W → Calls Tryz.prog 16 #[.agg #[.int .i64 r.i.cx, .int .i64 r.i.cy, .int .i64 r.i.sd, .int .i64 r.i.W, .int .i64 r.i.H, .slice pa r.i.pl.length pc, .slice qa r.i.ql.length qc], .int .i64 200] W fun e w' => e = .returned (.bool gb) ∧ Below W.heap.size W w' from HGT.out)
  show Calls Tryz.prog 6 #[.agg #[.int .i64 r.i.cx, .int .i64 r.i.cy, .int .i64 r.i.sd, .int .i64 r.i.W, .int .i64 r.i.H, .slice pa r.i.pl.length pc, .slice qa r.i.ql.length qc, .int .i64 r.g.fl, .int .i64 r.g.kn, .int .i64 r.g.a, .int .i64 r.g.b, .int .i64 r.g.c, .slice ba r.bl.length bc, .int .i64 r.who, .int .i64 r.el], .slice va l.length vc, .int .u8 (some' : Int), .int .u8 (more : Int)] w _
  go_enter Tryz.func6, Tryz.ntmps6
  go_upto_region 1 with fail
  rw [HW1.out]
  clear HW1
  have r0 := cellN (i := 0) (v := .int .i64 r.i.cx) HP1.out rfl
  have r1 := cellN (i := 1) (v := .int .i64 r.i.cy) HP1.out rfl
  have r2 := cellN (i := 2) (v := .int .i64 r.i.sd) HP1.out rfl
  have r3 := cellN (i := 3) (v := .int .i64 r.i.W) HP1.out rfl
  have r4 := cellN (i := 4) (v := .int .i64 r.i.H) HP1.out rfl
  have r5 := cellN (i := 5) (v := .slice pa r.i.pl.length pc) HP1.out rfl
  have r6 := cellN (i := 6) (v := .slice qa r.i.ql.length qc) HP1.out rfl
  go_wp2_with fail
  refine (HGT.out _ HB1.out).mono ?_
  rintro e w2 ⟨rfl, hb2⟩
  have HB2 := hid (HB1.out.trans (hb2.mono HB1.out.size))
  have HP1 := hid (carry HP1.out hb2)
  clear hb2 r0 r1 r2 r3 r4 r5 r6 HGT HB1
  cases gb with
  | true =>
    go_wp2_with fail
    refine (sound_any _).mono ?_
    rintro e ws ⟨rfl, hbs⟩
    go_wp2_with fail
    go_ret
    exact ⟨rfl, (HB2.out).trans (hbs.mono (HB2.out).size)⟩
  | false =>
  have r12 := cellN (i := 12) (v := .slice ba r.bl.length bc) HP1.out rfl
  by_cases h66 : (66 : Int) < (r.bl.length : Int)
  · go_wp2_with fail
    refine (sound_any _).mono ?_
    rintro e ws ⟨rfl, hbs⟩
    go_wp2_with fail
    go_ret
    exact ⟨rfl, HB2.out.trans (hbs.mono HB2.out.size)⟩
  by_cases h18 : (18 : Int) < (l.length : Int)
  · go_wp2_with fail
    refine (sound_any _).mono ?_
    rintro e ws ⟨rfl, hbs⟩
    go_wp2_with fail
    go_ret
    exact ⟨rfl, HB2.out.trans (hbs.mono HB2.out.size)⟩
  have r0 := cellN (i := 0) (v := .int .i64 r.i.cx) HP1.out rfl
  have r1 := cellN (i := 1) (v := .int .i64 r.i.cy) HP1.out rfl
  have r2 := cellN (i := 2) (v := .int .i64 r.i.sd) HP1.out rfl
  have r3 := cellN (i := 3) (v := .int .i64 r.i.W) HP1.out rfl
  have r4 := cellN (i := 4) (v := .int .i64 r.i.H) HP1.out rfl
  have r5 := cellN (i := 5) (v := .slice pa r.i.pl.length pc) HP1.out rfl
  have r6 := cellN (i := 6) (v := .slice qa r.i.ql.length qc) HP1.out rfl
  have r7 := cellN (i := 7) (v := .int .i64 r.g.fl) HP1.out rfl
  have r8 := cellN (i := 8) (v := .int .i64 r.g.kn) HP1.out rfl
  have r9 := cellN (i := 9) (v := .int .i64 r.g.a) HP1.out rfl
  have r10 := cellN (i := 10) (v := .int .i64 r.g.b) HP1.out rfl
  have r11 := cellN (i := 11) (v := .int .i64 r.g.c) HP1.out rfl
  have r12 := cellN (i := 12) (v := .slice ba r.bl.length bc) HP1.out rfl
  have r13 := cellN (i := 13) (v := .int .i64 r.who) HP1.out rfl
  have r14 := cellN (i := 14) (v := .int .i64 r.el) HP1.out rfl
  obtain ⟨res, hres⟩ : ∃ x, shotA r l ((n : Int) + (k : Int)) = x := ⟨_, rfl⟩
  have HRES := hid hres
  have HT1 := hid (show Calls Tryz.prog 18 #[.agg #[.int .i64 r.i.cx, .int .i64 r.i.cy, .int .i64 r.i.sd, .int .i64 r.i.W, .int .i64 r.i.H, .slice pa r.i.pl.length pc, .slice qa r.i.ql.length qc], .agg #[.int .i64 r.g.fl, .int .i64 r.g.kn, .int .i64 r.g.a, .int .i64 r.g.b, .int .i64 r.g.c], .slice va l.length vc, .slice ba r.bl.length bc, .int .i64 r.who, .int .i64 r.el, .int .i64 ((n : Int) + (k : Int))] w2 fun e w' => ShotX res w2 e w' from by
    have h := HS.out ((n : Int) + (k : Int)) w2 HB2.out
    rw [hres] at h
    exact h)
  clear hres
  go_wp2_with fail
  refine HT1.out.mono ?_
  rintro e w3 hx
  have HX := hid hx
  have hb3 : Below w2.heap.size w2 w3 := hx.1
  have HB3 := hid (HB2.out.trans (hb3.mono HB2.out.size))
  have HP1 := hid (carry HP1.out hb3)
  have HZ3 := hid hb3.size
  clear hx hb3 r0 r1 r2 r3 r4 r5 r6 r7 r8 r9 r10 r11 r12 r13 r14 HT1
  have r0 := cellN (i := 0) (v := .int .i64 r.i.cx) HP1.out rfl
  have r1 := cellN (i := 1) (v := .int .i64 r.i.cy) HP1.out rfl
  have r2 := cellN (i := 2) (v := .int .i64 r.i.sd) HP1.out rfl
  have r3 := cellN (i := 3) (v := .int .i64 r.i.W) HP1.out rfl
  have r4 := cellN (i := 4) (v := .int .i64 r.i.H) HP1.out rfl
  have r5 := cellN (i := 5) (v := .slice pa r.i.pl.length pc) HP1.out rfl
  have r6 := cellN (i := 6) (v := .slice qa r.i.ql.length qc) HP1.out rfl
  have r7 := cellN (i := 7) (v := .int .i64 r.g.fl) HP1.out rfl
  have r8 := cellN (i := 8) (v := .int .i64 r.g.kn) HP1.out rfl
  have r9 := cellN (i := 9) (v := .int .i64 r.g.a) HP1.out rfl
  have r10 := cellN (i := 10) (v := .int .i64 r.g.b) HP1.out rfl
  have r11 := cellN (i := 11) (v := .int .i64 r.g.c) HP1.out rfl
  have r12 := cellN (i := 12) (v := .slice ba r.bl.length bc) HP1.out rfl
  have r13 := cellN (i := 13) (v := .int .i64 r.who) HP1.out rfl
  have r14 := cellN (i := 14) (v := .int .i64 r.el) HP1.out rfl
  have HT2 := hid (show Calls Tryz.prog 18 #[.agg #[.int .i64 r.i.cx, .int .i64 r.i.cy, .int .i64 r.i.sd, .int .i64 r.i.W, .int .i64 r.i.H, .slice pa r.i.pl.length pc, .slice qa r.i.ql.length qc], .agg #[.int .i64 r.g.fl, .int .i64 r.g.kn, .int .i64 r.g.a, .int .i64 r.g.b, .int .i64 r.g.c], .slice va l.length vc, .slice ba r.bl.length bc, .int .i64 r.who, .int .i64 r.el, .int .i64 (n : Int)] w3 fun e w' => ShotX (shotA r l (n : Int)) w3 e w' from HS.out (n : Int) w3 HB3.out)
  cases res with
  | error c =>
    have hcc := shotA_code HRES.out
    obtain rfl := HX.out.2
    go_wp2_with fail
    refine HT2.out.mono ?_
    rintro e w4 hx
    obtain ⟨vo, z, vh, d, rfl, hb4⟩ := hx.form
    have HB4 := hid (HB3.out.trans (hb4.mono HB3.out.size))
    clear hx hb4 r0 r1 r2 r3 r4 r5 r6 r7 r8 r9 r10 r11 r12 r13 r14 HT2
    rcases hcc with rfl | rfl | rfl
    all_goals
      go_wp2_with fail
      refine (sound_any _).mono ?_
      rintro e ws ⟨rfl, hbs⟩
      go_wp2_with fail
      go_ret
      exact ⟨rfl, HB4.out.trans (hbs.mono HB4.out.size)⟩
  | ok p =>
  obtain ⟨S, T, H⟩ := p
  obtain ⟨s1, a, hh1, hh2, e1, e2, e3, e4, e5, e6⟩ := HLAW.out S T H HRES.out
  obtain ⟨vo1, vh1, rfl, ho1, hv1⟩ := HX.out.2
  rw [e1] at HT2
  dsimp only at ho1 hv1
  obtain ⟨o1a, o1c, rfl⟩ := own_slice' ho1
  obtain ⟨v1a, v1c, rfl⟩ := own_slice' hv1
  have HO1 := hid ho1
  have HV1 := hid hv1
  have HE2 := hid e2
  have HE3 := hid e3
  have HE1 := hid e1
  clear ho1 hv1 e1 e2 e3 HX
  go_wp2_with fail
  refine HT2.out.mono ?_
  rintro e w4 ⟨hb4, vo2, vh2, rfl, ho2, hv2⟩
  dsimp only at ho2 hv2
  obtain ⟨o2a, o2c, rfl⟩ := own_slice' ho2
  obtain ⟨v2a, v2c, rfl⟩ := own_slice' hv2
  have HV1B := hid (show ∀ j, (Value.slice v1a H.length v1c).ownBlock = some j → j < w3.heap.size from fun j hj => by
    obtain ⟨_, cur, hc⟩ := own_type HV1.out hj
    exact (Array.getElem?_eq_some_iff.1 hc).1)
  have HO1 := hid (own_below HO1.out hb4)
  have HV1 := hid (own_below HV1.out hb4)
  have HO2 := hid ho2
  have HV2 := hid hv2
  have HB4 := hid (HB3.out.trans (hb4.mono HB3.out.size))
  have HP1 := hid (carry HP1.out hb4)
  have HZ4 := hid hb4.size
  clear ho2 hv2 hb4 r0 r1 r2 r3 r4 r5 r6 r7 r8 r9 r10 r11 r12 r13 r14 HT2
  have r12 := cellN (i := 12) (v := .slice ba r.bl.length bc) HP1.out rfl
  have hbo := (shotA_len HE1.out).2.2
  have HBO := hid hbo
  obtain ⟨ba', bc', hbe, -, hbc⟩ := HBM.out.open
  have HBC := hid hbc
  clear hbo hbc
  obtain ⟨rfl, rfl⟩ : ba = ba' ∧ bc = bc' := by
    have := Value.slice.inj hbe
    exact ⟨this.1, this.2.2⟩
  clear hbe
  have HBK := hid (show r.bl.length ≤ 66 by omega)
  clear h66 h18
  go_wp2_with fail
  go_loopw [101, 19] (fun i u wq => ∃ m : Nat, m ≤ r.bl.length ∧ i = .int .i64 m ∧ wq.ownsRow w4.heap.size 83 3 u m (((r.bl.take m).map (lat a)).flatMap Mach.cells) ∧ Below w4.heap.size w4 wq) (fun i _ _ => r.bl.length - (intOf i).toNat)
  case atStart => exact ⟨0, Nat.zero_le _, rfl, World.ownsRow_nil _ _ _ _, Below.refl _ _⟩
  case round =>
    clear r12
    obtain ⟨m, hm, rfl, hrow, hb⟩ := hrel
    obtain ⟨wo, rfl⟩ : ∃ wo, wo = wr := ⟨_, rfl⟩
    have HB5 := hid hb
    have HBW := hid (HB4.out.trans (hb.mono HB4.out.size))
    clear hb
    by_cases hlt : m < r.bl.length
    · have hm66 : m < 66 := by have := HBK.out; omega
      obtain ⟨b, off, rfl, hbl, hc⟩ := HBC.out m hlt
      have hx0 := (HBW.out.cell (p := ⟨b, off + m * 3, none⟩) hbl).trans (hc m hlt).1
      have hx1 := (HBW.out.cell (p := ⟨b, off + m * 3 + 1, none⟩) hbl).trans (hc m hlt).2.1
      have hx2 := (HBW.out.cell (p := ⟨b, off + m * 3 + 2, none⟩) hbl).trans (hc m hlt).2.2
      have hbb := broom_b HBO.out m hlt
      have HT3 := hid (show ((r.bl.take (m + 1)).map (lat a)).flatMap Mach.cells = ((r.bl.take m).map (lat a)).flatMap Mach.cells ++ (lat a r.bl[m]).cells by
        rw [List.take_succ_eq_append_getElem hlt, List.map_append, List.flatMap_append]; simp)
      obtain ⟨x, hxe⟩ : ∃ x, r.bl[m] = x := ⟨_, rfl⟩
      rw [hxe] at hx0 hx1 hx2 hbb HT3
      clear hxe hc
      obtain ⟨cold, power, start⟩ := x
      dsimp only at hx0 hx1 hx2 hbb
      obtain ⟨W1, hW1⟩ : ∃ W1, wo.alloc (.cells #[.int .i64 cold, .int .i64 power, .int .i64 start] 83) = W1 := ⟨_, rfl⟩
      have HN1 := hid (show W1.heap[wo.heap.size]? = some (.cells #[.int .i64 cold, .int .i64 power, .int .i64 start] 83 (0, 0)) by rw [← hW1]; exact heap_alloc_new wo _)
      have HBW1 := hid (show Below wo.heap.size wo W1 by rw [← hW1]; exact (Below.refl _ _).alloc (Nat.le_refl _) _)
      have HW1 := hid hW1
      have hrow1 := own_below hrow HBW1.out
      have HBX := hid (HB5.out.trans (HBW1.out.mono HB5.out.size))
      have HSX := hid HBX.out.size
      have HFIN := hid (show ∀ (v' : Value) (w5 : World) (z1 z2 : Int), w5.ownsRow w4.heap.size 83 3 v' (m + 1) (((r.bl.take m).map (lat a)).flatMap Mach.cells ++ [.int .i64 z1, .int .i64 z2, .int .i64 start]) → z1 = max 0 (cold - (a : Int)) → z2 = max 0 (power - (a : Int)) → w5.ownsRow w4.heap.size 83 3 v' (m + 1) (((r.bl.take (m + 1)).map (lat a)).flatMap Mach.cells) from fun v' w5 z1 z2 h h1 h2 => by
        rw [HT3.out]
        subst h1 h2
        exact h)
      clear hW1 hrow
      have ha30 : (a : Int) ≤ 30 := by omega
      go_upto_region 12 with fail
      rw [HW1.out]
      clear HW1 hx0 hx1 hx2
      have c0 := cellN (i := 0) (v := .int .i64 cold) HN1.out rfl
      have c1 := cellN (i := 1) (v := .int .i64 power) HN1.out rfl
      have c2 := cellN (i := 2) (v := .int .i64 start) HN1.out rfl
      obtain ⟨i0, hinf, hz0, hz1, hz2⟩ := info_parts info83
      generalize ((r.bl.take m).map (lat a)).flatMap Mach.cells = xs at *
      by_cases hc1 : (0 : Int) < cold - (a : Int)
      · by_cases hc2 : (0 : Int) < power - (a : Int)
        · have hmade := made_broom W1 w4.heap.size (cold - (a : Int)) (power - (a : Int)) start HSX.out
          go_wp2_with (at_builtin; refine wpList_append_own _ rfl _ _ 68 rfl w4.heap.size 83 i0 (.agg #[.int .i64 0, .int .i64 0, .int .i64 0]) 3 24 Tryz.underlying68 hinf hz0 hz1 hz2 rfl (by decide) _ _ _ rfl (hrow1.alloc _) ⟨W1.heap.size, 0, none⟩ 1 1 [.int .i64 (cold - (a : Int)), .int .i64 (power - (a : Int)), .int .i64 start] rfl rfl (hmade.cells rfl) (by intro u hu; simp at hu; rcases hu with rfl | rfl | rfl <;> rfl) (by have := HBK.out; unfold maxLen; omega) (by have := HBK.out; omega) (by simp; have := HSX.out; omega) ?_; intro v' w5 hown5 hgrow5 _)
          exact ⟨⟨m + 1, hlt, by go_num, HFIN.out v' w5 (cold - (a : Int)) (power - (a : Int)) hown5 ((Int.max_eq_right (by omega)).symm) ((Int.max_eq_right (by omega)).symm), (HBX.out.alloc HSX.out _).grown hgrow5 (by simp; have := HSX.out; omega) (fun q e => (hrow1.lt q e).1)⟩, by simp only [intOf]; omega⟩
        · have hmade := made_broom W1 w4.heap.size (cold - (a : Int)) (0) start HSX.out
          go_wp2_with (at_builtin; refine wpList_append_own _ rfl _ _ 68 rfl w4.heap.size 83 i0 (.agg #[.int .i64 0, .int .i64 0, .int .i64 0]) 3 24 Tryz.underlying68 hinf hz0 hz1 hz2 rfl (by decide) _ _ _ rfl (hrow1.alloc _) ⟨W1.heap.size, 0, none⟩ 1 1 [.int .i64 (cold - (a : Int)), .int .i64 (0), .int .i64 start] rfl rfl (hmade.cells rfl) (by intro u hu; simp at hu; rcases hu with rfl | rfl | rfl <;> rfl) (by have := HBK.out; unfold maxLen; omega) (by have := HBK.out; omega) (by simp; have := HSX.out; omega) ?_; intro v' w5 hown5 hgrow5 _)
          exact ⟨⟨m + 1, hlt, by go_num, HFIN.out v' w5 (cold - (a : Int)) (0) hown5 ((Int.max_eq_right (by omega)).symm) ((Int.max_eq_left (by omega)).symm), (HBX.out.alloc HSX.out _).grown hgrow5 (by simp; have := HSX.out; omega) (fun q e => (hrow1.lt q e).1)⟩, by simp only [intOf]; omega⟩
      · by_cases hc2 : (0 : Int) < power - (a : Int)
        · have hmade := made_broom W1 w4.heap.size (0) (power - (a : Int)) start HSX.out
          go_wp2_with (at_builtin; refine wpList_append_own _ rfl _ _ 68 rfl w4.heap.size 83 i0 (.agg #[.int .i64 0, .int .i64 0, .int .i64 0]) 3 24 Tryz.underlying68 hinf hz0 hz1 hz2 rfl (by decide) _ _ _ rfl (hrow1.alloc _) ⟨W1.heap.size, 0, none⟩ 1 1 [.int .i64 (0), .int .i64 (power - (a : Int)), .int .i64 start] rfl rfl (hmade.cells rfl) (by intro u hu; simp at hu; rcases hu with rfl | rfl | rfl <;> rfl) (by have := HBK.out; unfold maxLen; omega) (by have := HBK.out; omega) (by simp; have := HSX.out; omega) ?_; intro v' w5 hown5 hgrow5 _)
          exact ⟨⟨m + 1, hlt, by go_num, HFIN.out v' w5 (0) (power - (a : Int)) hown5 ((Int.max_eq_left (by omega)).symm) ((Int.max_eq_right (by omega)).symm), (HBX.out.alloc HSX.out _).grown hgrow5 (by simp; have := HSX.out; omega) (fun q e => (hrow1.lt q e).1)⟩, by simp only [intOf]; omega⟩
        · have hmade := made_broom W1 w4.heap.size (0) (0) start HSX.out
          go_wp2_with (at_builtin; refine wpList_append_own _ rfl _ _ 68 rfl w4.heap.size 83 i0 (.agg #[.int .i64 0, .int .i64 0, .int .i64 0]) 3 24 Tryz.underlying68 hinf hz0 hz1 hz2 rfl (by decide) _ _ _ rfl (hrow1.alloc _) ⟨W1.heap.size, 0, none⟩ 1 1 [.int .i64 (0), .int .i64 (0), .int .i64 start] rfl rfl (hmade.cells rfl) (by intro u hu; simp at hu; rcases hu with rfl | rfl | rfl <;> rfl) (by have := HBK.out; unfold maxLen; omega) (by have := HBK.out; omega) (by simp; have := HSX.out; omega) ?_; intro v' w5 hown5 hgrow5 _)
          exact ⟨⟨m + 1, hlt, by go_num, HFIN.out v' w5 (0) (0) hown5 ((Int.max_eq_left (by omega)).symm) ((Int.max_eq_left (by omega)).symm), (HBX.out.alloc HSX.out _).grown hgrow5 (by simp; have := HSX.out; omega) (fun q e => (hrow1.lt q e).1)⟩, by simp only [intOf]; omega⟩
    · obtain rfl : m = r.bl.length := by omega
      rw [List.take_length] at hrow
      obtain ⟨la, lc, rfl⟩ := own_slice' hrow
      have HP1 := hid (carry HP1.out HB5.out)
      have HO1 := hid (own_below HO1.out HB5.out)
      have HV1 := hid (own_below HV1.out HB5.out)
      have HO2 := hid (own_below HO2.out HB5.out)
      have HV2 := hid (own_below HV2.out HB5.out)
      have hbl := HBK.out
      have hs1 := shotA_len HE1.out
      have hS := shotA_len HRES.out
      have hh2l := (shotA_len HE2.out).2.1
      have hh2t := shotA_t HE2.out (by omega)
      have HLN := hid (And.intro hs1.1 (And.intro hs1.2.1 (And.intro hS.1 (And.intro hS.2.1 hh2l))))
      have HHT := hid hh2t
      have HZ5 := hid (show w4.heap.size ≤ wo.heap.size from HB5.out.size)
      have HT4 := hid (show Calls Tryz.prog 18 #[.agg #[.int .i64 r.i.cx, .int .i64 r.i.cy, .int .i64 r.i.sd, .int .i64 r.i.W, .int .i64 r.i.H, .slice pa r.i.pl.length pc, .slice qa r.i.ql.length qc], .agg #[.int .i64 r.g.fl, .int .i64 r.g.kn, .int .i64 r.g.a, .int .i64 r.g.b, .int .i64 r.g.c], .slice o2a s1.length o2c, .slice la r.bl.length lc, .int .i64 r.who, .int .i64 r.el, .int .i64 (k : Int)] wo fun e w' => ShotX (.ok (S, T - a, hh2)) wo e w' from by
        have hsl : SlM wo (.slice la r.bl.length lc) (r.bl.map (lat a)) := by
          have h := own_SlV hrow (by omega)
          unfold SlM
          rw [List.length_map]
          exact h
        have h := shot18_any ⟨r.i, r.g, r.bl.map (lat a), r.who, r.el⟩ (.slice pa r.i.pl.length pc) (.slice qa r.i.ql.length qc) (.slice la r.bl.length lc) (.slice o2a s1.length o2c) s1 (k : Int) wo ⟨HICE.out wo HBW.out, hsl⟩ (own_SlV HO2.out (by omega))
        rw [HE2.out] at h
        exact h)
      obtain ⟨b9, hb9⟩ : ∃ z, T - a = z := ⟨_, rfl⟩
      rw [hb9] at HT4
      have hab : (a : Int) + (b9 : Int) = (T : Int) := by omega
      have hT60 : (T : Int) ≤ 60 := by omega
      clear hrow hbl hs1 hS hh2l hh2t hb9 hlt hm
      have r0 := cellN (i := 0) (v := .int .i64 r.i.cx) HP1.out rfl
      have r1 := cellN (i := 1) (v := .int .i64 r.i.cy) HP1.out rfl
      have r2 := cellN (i := 2) (v := .int .i64 r.i.sd) HP1.out rfl
      have r3 := cellN (i := 3) (v := .int .i64 r.i.W) HP1.out rfl
      have r4 := cellN (i := 4) (v := .int .i64 r.i.H) HP1.out rfl
      have r5 := cellN (i := 5) (v := .slice pa r.i.pl.length pc) HP1.out rfl
      have r6 := cellN (i := 6) (v := .slice qa r.i.ql.length qc) HP1.out rfl
      have r7 := cellN (i := 7) (v := .int .i64 r.g.fl) HP1.out rfl
      have r8 := cellN (i := 8) (v := .int .i64 r.g.kn) HP1.out rfl
      have r9 := cellN (i := 9) (v := .int .i64 r.g.a) HP1.out rfl
      have r10 := cellN (i := 10) (v := .int .i64 r.g.b) HP1.out rfl
      have r11 := cellN (i := 11) (v := .int .i64 r.g.c) HP1.out rfl
      have r12 := cellN (i := 12) (v := .slice ba r.bl.length bc) HP1.out rfl
      have r13 := cellN (i := 13) (v := .int .i64 r.who) HP1.out rfl
      have r14 := cellN (i := 14) (v := .int .i64 r.el) HP1.out rfl
      go_wp2_with fail
      refine HT4.out.mono ?_
      rintro e w6 ⟨hb6, vo3, vh3, rfl, ho3, hv3⟩
      dsimp only at ho3 hv3
      obtain ⟨o3a, o3c, rfl⟩ := own_slice' ho3
      obtain ⟨v3a, v3c, rfl⟩ := own_slice' hv3
      have HB6 := hid (HBW.out.trans (hb6.mono HBW.out.size))
      have HV2B := hid (show ∀ j, (Value.slice v2a hh1.length v2c).ownBlock = some j → j < wo.heap.size from fun j hj => by
        obtain ⟨_, cur, hc⟩ := own_type HV2.out hj
        exact (Array.getElem?_eq_some_iff.1 hc).1)
      have HO1 := hid (own_below HO1.out hb6)
      have HV1 := hid (own_below HV1.out hb6)
      have HV2 := hid (own_below HV2.out hb6)
      have HO3 := hid ho3
      have HV3 := hid hv3
      have HZ6 := hid hb6.size
      clear hb6 ho3 hv3 HT4 r0 r1 r2 r3 r4 r5 r6 r7 r8 r9 r10 r11 r12 r13 r14
      have HSM := hid (same19_eq (.slice o3a S.length o3c) (.slice o1a S.length o1c) S w6 (own_SlV HO3.out (by have := HLN.out; omega)) (own_SlV HO1.out (by have := HLN.out; omega)))
      go_wp2_with fail
      refine HSM.out.mono ?_
      rintro e w7 ⟨rfl, hb7⟩
      have HB7 := hid (HB6.out.trans (hb7.mono HB6.out.size))
      have HV1 := hid (own_below HV1.out hb7)
      have HV2 := hid (own_below HV2.out hb7)
      have HV3 := hid (own_below HV3.out hb7)
      have HZ7 := hid hb7.size
      clear hb7 HSM HO1 HO2 HO3 hab
      have HFR := hid (show ∀ (i : Nat), hh2.length = i → True from fun _ _ => trivial)
      have hl2 : hh2.length ≤ 4096 := HLN.out.2.2.2.2
      have hl1 : hh1.length ≤ 4096 := HLN.out.2.1
      clear HFR
      go_wp2_with fail
      go_loopw [156, 17] (fun i u wq => ∃ m : Nat, m ≤ hh2.length ∧ i = .int .i64 m ∧ wq.ownsRow w3.heap.size 86 3 u (hh1.length + m) ((hh1 ++ (hh2.take m).map (shH a)).flatMap HitD.cells) ∧ (∀ j, u.ownBlock = some j → j < wo.heap.size ∨ w7.heap.size ≤ j) ∧ Ch (fun j => w3.heap.size ≤ j ∧ j < wo.heap.size) w7 wq) (fun i _ _ => hh2.length - (intOf i).toNat)
      case atStart => exact ⟨0, Nat.zero_le _, rfl, by simpa using HV2.out, fun j hj => .inl (HV2B.out j hj), Ch.of_below (Below.refl _ _)⟩
      case round =>
        obtain ⟨m, hm, rfl, hrow, hown, hch⟩ := hrel
        obtain ⟨wz, rfl⟩ : ∃ wz, wz = wr := ⟨_, rfl⟩
        have HOW := hid hown
        have HCH := hid hch
        clear hown hch
        by_cases hlt : m < hh2.length
        · obtain ⟨x, hxe⟩ : ∃ x, hh2[m] = x := ⟨_, rfl⟩
          have hxt := HHT.out hh2[m] (List.getElem_mem _)
          obtain ⟨va3, vc3, hva, -, hc⟩ := SlH.open (own_SlV HV3.out (by omega))
          obtain ⟨rfl, rfl⟩ : v3a = va3 ∧ v3c = vc3 := by
            have := Value.slice.inj hva
            exact ⟨this.1, this.2.2⟩
          obtain ⟨b3, off, rfl, hbl3, hc⟩ := hc m hlt
          obtain ⟨hb3lo, cur3, hcur3⟩ := own_type HV3.out rfl
          dsimp only at hb3lo
          have hblk : wz.heap[b3]? = w7.heap[b3]? := HCH.out.2 b3 hbl3 (by omega)
          have hx0 : wz.cell? ⟨b3, off + m * 3, none⟩ = _ := (World.cell?_of_block (a := ⟨b3, off + m * 3, none⟩) hblk).trans (hc m hlt 0 (by omega))
          have hx1 : wz.cell? ⟨b3, off + m * 3 + 1, none⟩ = _ := (World.cell?_of_block (a := ⟨b3, off + m * 3 + 1, none⟩) hblk).trans (hc m hlt 1 (by omega))
          have hx2 : wz.cell? ⟨b3, off + m * 3 + 2, none⟩ = _ := (World.cell?_of_block (a := ⟨b3, off + m * 3 + 2, none⟩) hblk).trans (hc m hlt 2 (by omega))
          rw [hxe] at hx0 hx1 hx2 hxt
          have HTK := hid (show (hh1 ++ (hh2.take (m + 1)).map (shH a)).flatMap HitD.cells = (hh1 ++ (hh2.take m).map (shH a)).flatMap HitD.cells ++ (shH a x).cells by
            rw [List.take_succ_eq_append_getElem hlt, hxe, List.map_append, ← List.append_assoc, List.flatMap_append]; simp)
          clear hxe hc hva
          obtain ⟨ht, ha3, hb3⟩ := x
          have y0 : wz.cell? ⟨b3, off + m * 3, none⟩ = some (.int .i64 ht) := hx0
          have y1 : wz.cell? ⟨b3, off + m * 3 + 1, none⟩ = some (.int .i64 ha3) := hx1
          have y2 : wz.cell? ⟨b3, off + m * 3 + 2, none⟩ = some (.int .i64 hb3) := hx2
          clear hx0 hx1 hx2
          dsimp only at hxt
          have ha30 : (a : Int) ≤ 30 := by omega
          obtain ⟨W1, hW1⟩ : ∃ W1, wz.alloc (.cells #[.int .i64 (ht + (a : Int)), .int .i64 ha3, .int .i64 hb3] 86) = W1 := ⟨_, rfl⟩
          have HN1 := hid (show W1.heap[wz.heap.size]? = some (.cells #[.int .i64 (ht + (a : Int)), .int .i64 ha3, .int .i64 hb3] 86 (0, 0)) by rw [← hW1]; exact heap_alloc_new wz _)
          have HBW1 := hid (show Below wz.heap.size wz W1 by rw [← hW1]; exact (Below.refl _ _).alloc (Nat.le_refl _) _)
          have HW1 := hid hW1
          have hrow1 := own_below hrow HBW1.out
          have hzz : w7.heap.size ≤ wz.heap.size := HCH.out.1.size
          have hzz1 : wz.heap.size ≤ W1.heap.size := HBW1.out.size
          have hz34 := HZ4.out
          have hz45 := HZ5.out
          have hz56 := HZ6.out
          have hz67 := HZ7.out
          have HSZ := hid (show w3.heap.size ≤ W1.heap.size ∧ w7.heap.size ≤ W1.heap.size by omega)
          have hml : hh1.length + m ≤ 8192 := by omega
          clear hW1 hrow hzz hzz1 hz34 hz45 hz56 hz67 hblk hcur3
          go_upto_region 21 with fail
          rw [HW1.out]
          clear HW1 y0 y1 y2
          have c0 := cellN (i := 0) (v := .int .i64 (ht + (a : Int))) HN1.out rfl
          have c1 := cellN (i := 1) (v := .int .i64 ha3) HN1.out rfl
          have c2 := cellN (i := 2) (v := .int .i64 hb3) HN1.out rfl
          obtain ⟨i0, hinf, hz0, hz1, hz2⟩ := info_parts info86
          have hmade := made_hit W1 w3.heap.size (ht + (a : Int)) ha3 hb3 HSZ.out.1
          generalize (hh1 ++ (hh2.take m).map (shH a)).flatMap HitD.cells = xs at *
          go_wp2_with (at_builtin; refine wpList_append_lies _ rfl _ _ 75 rfl w3.heap.size 86 i0 (.agg #[.int .i64 0, .int .i64 0, .int .i64 0]) 3 24 Tryz.underlying75 hinf hz0 hz1 hz2 rfl (by decide) _ (hh1.length + m) xs rfl (hrow1.alloc _) ⟨W1.heap.size, 0, none⟩ 1 1 [.int .i64 (ht + (a : Int)), .int .i64 ha3, .int .i64 hb3] rfl rfl (hmade.cells rfl) (by intro u hu; simp at hu; rcases hu with rfl | rfl | rfl <;> rfl) (by omega) (by unfold maxLen; omega) (by omega) (by simp; have := HSZ.out; omega) (W1.heap.size + 1) (by simp) ?_; intro g5 cap5 w5 hown5 hgrow5 hat5 hlt5)
          refine ⟨⟨m + 1, hlt, by go_num, ?_, ?_, ?_⟩, by simp only [intOf]; omega⟩
          · rw [HTK.out]; exact hown5
          · intro j hj
            obtain rfl : g5 = j := by simpa [Value.ownBlock] using hj
            rcases hat5 with h | h
            · exact HOW.out _ h
            · right; have := HSZ.out; omega
          · refine ⟨((HCH.out.1.trans (HBW1.out.mono (Nat.zero_le _))).alloc (Nat.zero_le _) _).grown hgrow5 (Nat.zero_le _) (fun _ _ => Nat.zero_le _), fun j hj hne => ?_⟩
            have h1 := HSZ.out
            have h2 := HCH.out.1.size
            refine ((hgrow5.block j (by simp; omega) (fun e => ?_)).trans (Below.heap_alloc _ _ _ (by omega))).trans ((HBW1.out.block j (by omega)).trans (HCH.out.2 j hj hne))
            have h3 := HOW.out j e.symm
            have h4 := (own_type hrow1 e.symm).1
            exact hne ⟨h4, by omega⟩
        · obtain rfl : m = hh2.length := by omega
          rw [List.take_length] at hrow
          have hH : hh1 ++ hh2.map (shH a) = H := HE3.out.symm
          have hHL : hh1.length + hh2.length = H.length := by rw [← hH]; simp
          obtain ⟨ea, ec, rfl⟩ := own_slice' hrow
          have HHE := hid (show SlH wz (.slice ea (hh1.length + hh2.length) ec) H by
            have h := own_SlV hrow (by omega)
            rw [hH, hHL] at h
            rw [hHL]
            exact h)
          have HHV := hid (show SlH wz (.slice v1a H.length v1c) H from own_SlV (own_ch2 HV1.out HCH.out (fun j hj => by have := HV1B.out j hj; omega)) (by have := HLN.out; omega))
          have HHC := hid (hits20_eq _ _ H wz HHE.out HHV.out)
          have HBZ := hid (ch_below HB7.out HCH.out (fun j hj => by have h1 := HB3.out.size; omega))
          clear hrow hH hHL HOW
          go_wp2_with fail
          refine HHC.out.mono ?_
          rintro e w8 ⟨rfl, hb8⟩
          have HB8 := hid (HBZ.out.trans (hb8.mono HBZ.out.size))
          clear hb8
          go_wp2_with fail
          refine (sound_any _).mono ?_
          rintro e ws ⟨rfl, hbs⟩
          go_wp2_with fail
          go_ret
          exact ⟨rfl, HB8.out.trans (hbs.mono HB8.out.size)⟩
end Go.Proofs.YtolnhicngepnnaaGreat
