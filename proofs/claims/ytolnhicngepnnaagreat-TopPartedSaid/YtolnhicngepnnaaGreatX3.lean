/- contact: rink.tick. -/
import Derived.Test.YtolnhicngepnnaaGreatK3
import Derived.WalkMore
import Derived.Deep.CutBlock
namespace Go.Proofs.YtolnhicngepnnaaGreat
open Go.RowKit

theorem RowB.setO {cur : Array Value} {o : Nat} {b : BodyD} (h : RowB cur o b) (v : Bool) : RowB (cur.setIfInBounds (o + 7) (.bool v)) o { b with out := v } := by
  have hl := h.lt
  intro c hc
  have h0 := h c hc
  obtain ⟨team, n, ⟨px, py, ux, uy, sp0⟩, out⟩ := b
  simp only [Array.getElem?_setIfInBounds]
  have : c = 0 ∨ c = 1 ∨ c = 2 ∨ c = 3 ∨ c = 4 ∨ c = 5 ∨ c = 6 ∨ c = 7 := by omega
  rcases this with rfl | rfl | rfl | rfl | rfl | rfl | rfl | rfl
  all_goals
    first
      | (rw [if_neg (by omega)]; exact h0)
      | (rw [if_pos (by omega), if_pos (by omega)]; rfl)
theorem setO_out {cur : Array Value} {o : Nat} (v : Value) {i : Nat} (h : i < o ∨ o + 8 ≤ i) : (cur.setIfInBounds (o + 7) v)[i]? = cur[i]? := by
  simp only [Array.getElem?_setIfInBounds]
  rw [if_neg (by omega)]
/-- The scene while bodies are taken out. -/
def outK (s : List BodyD) (k : Nat) : List BodyD := (s.take k).map outB ++ s.drop k
theorem outK_zero (s : List BodyD) : outK s 0 = s := rfl
theorem outK_len (s : List BodyD) (k : Nat) : (outK s k).length = s.length := by simp [outK]; omega
theorem outK_all (s : List BodyD) : outK s s.length = s.map outB := by simp [outK]
theorem outK_get {s : List BodyD} {k : Nat} {b : BodyD} (h : s[k]? = some b) : (outK s k)[k]? = some b := by
  obtain ⟨h1, h2⟩ := List.getElem?_eq_some_iff.1 h
  unfold outK
  rw [List.getElem?_append_right (by simp; omega)]
  simp only [List.length_map, List.length_take, List.getElem?_drop]
  rw [show k + (k - min k s.length) = k by omega]
  exact h
theorem outK_next {s : List BodyD} {k : Nat} {b : BodyD} (h : s[k]? = some b) : outK s (k + 1) = (outK s k).set k (outB b) := by
  obtain ⟨h1, h2⟩ := List.getElem?_eq_some_iff.1 h
  unfold outK
  rw [List.set_append, if_neg (by simp; omega)]
  simp only [List.length_map, List.length_take]
  rw [show k - min k s.length = 0 by omega, List.take_succ_eq_append_getElem h1, h2, List.drop_eq_getElem_cons h1, List.set_cons_zero]
  simp
theorem outK_stay {s : List BodyD} {k : Nat} {b : BodyD} (h : s[k]? = some b) (hb : outB b = b) : outK s (k + 1) = outK s k := by
  rw [outK_next h, hb]
  apply List.ext_getElem?
  intro i
  by_cases e : k = i
  · subst e; rw [List.getElem?_set_self', outK_get h]; rfl
  · rw [List.getElem?_set_ne e]
theorem roundS_hits {el t : Int} {st q : RS} (hl : st.s.length ≤ 16) (h : roundS el t st = .ok q) : q.hits.length ≤ st.hits.length + 256 := by
  have h1 := outTo_hits h
  have h2 : st.s.length * st.s.length ≤ 16 * 16 := Nat.mul_le_mul hl hl
  dsimp only at h1
  omega
theorem passTo_hits {el t : Int} {s : List BodyD} (hs : ∀ b ∈ s, b.m.ok = true) (hl : s.length ≤ 16) : ∀ {n : Nat} {q : RS}, passTo el t s n = .ok q → q.hits.length ≤ n * 256
  | 0, q, h => by simp only [passTo, Except.ok.injEq] at h; subst h; exact Nat.zero_le _
  | n + 1, q, h => by
    obtain ⟨p, h1, h2⟩ := thenR_ok h
    have h3 := passTo_hits hs hl h1
    have h4 := passTo_like (Like.refl hs) h1
    unfold passS at h2
    split at h2
    · have := roundS_hits (by rw [h4.1]; exact hl) h2
      omega
    · simp only [Except.ok.injEq] at h2; subst h2
      exact Nat.le_trans h3 (Nat.mul_le_mul_right _ (Nat.le_succ n))
/-- How a tick of a scene ends. -/
def TickE (x : Except Int (List BodyD × List HitD)) (g off N : Nat) (w : World) (e : Ending) (w' : World) : Prop :=
  match x with
  | .error c => e = .panicked (cmisfit c) ∧ Ch (fun k => k = g) w w'
  | .ok p => ∃ v, e = .returned v ∧ w'.ownsRow w.heap.size 86 3 v p.2.length (p.2.flatMap HitD.cells) ∧ SceneAt w' g off N p.1 ∧ Ch (fun k => k = g) w w'
theorem TickE.err {x : Except Int (List BodyD × List HitD)} {c : Int} {g off N : Nat} {w w' : World} (h : x = .error c) (hc : Ch (fun k => k = g) w w') : TickE x g off N w (.panicked (cmisfit c)) w' := by rw [h]; exact ⟨rfl, hc⟩
theorem TickE.fine {x : Except Int (List BodyD × List HitD)} {s : List BodyD} {hs : List HitD} {v : Value} {g off N : Nat} {w w' : World} (h : x = .ok (s, hs)) (hr : w'.ownsRow w.heap.size 86 3 v hs.length (hs.flatMap HitD.cells)) (h2 : SceneAt w' g off N s) (hc : Ch (fun k => k = g) w w') : TickE x g off N w (.returned v) w' := by rw [h]; exact ⟨v, rfl, hr, h2, hc⟩
set_option maxRecDepth 100000 in
set_option maxHeartbeats 16000000 in
theorem tick43_any (r : RinkD) (pv qv bv : Value) (a : Option Addr) (N cap g off : Nat) (l : List BodyD) (t : Int) (w0 w : World)
    (hr : RinkAt w0 r pv qv bv) (hb : Below w0.heap.size w0 w) (hg : w0.heap.size ≤ g) (hgw : g < w.heap.size) (hi : r.i.ok = true) (hgr : r.g.ok = true) (hbr : broomsOk r.bl = true) (hel : 0 ≤ r.el ∧ r.el ≤ 1000) (ht : 0 ≤ t ∧ t ≤ 6000) (hl : ∀ b ∈ l, b.m.ok = true)
    (ha : 0 < N → a = some ⟨g, off, none⟩) (hN : N ≤ 16) (hsc : SceneAt w g off N l) :
    Calls Tryz.prog 43 #[.agg (r.arr pv qv bv), .slice a N cap, .int .i64 t] w fun e w' => TickE (tickS r t l) g off N w e w' := by
  obtain ⟨ans, hans⟩ : ∃ x, tickS r t l = x := ⟨_, rfl⟩
  rw [hans]
  have hln : l.length = N := hsc.1
  have HANS := hid (show tickP r t (glideTo r t l N) = ans by rw [← hans, ← hln]; rfl)
  have HGL := hid (fun (W : World) (hB : Below w0.heap.size w0 W) (hW : g < W.heap.size) (hS : SceneAt W g off N l) => glide79_any r pv qv bv a N cap g off l t w0 W hr hB hg hW hi hgr hbr ht hl ha hN hS)
  have HLK := hid (fun (s : List BodyD) (h : glideTo r t l N = .ok s) => glideTo_like hl h)
  obtain ⟨⟨hpv, hqv⟩, hbv⟩ := hr
  obtain ⟨pa, pc, rfl, -, -⟩ := hpv.open
  obtain ⟨qa, qc, rfl, -, -⟩ := hqv.open
  obtain ⟨ba, bc, rfl, -, -⟩ := hbv.open
  obtain ⟨W1, hW1, hz1, hb1, p1, p2, p3⟩ := three_new w (.cells #[.int .i64 r.i.cx, .int .i64 r.i.cy, .int .i64 r.i.sd, .int .i64 r.i.W, .int .i64 r.i.H, .slice pa r.i.pl.length pc, .slice qa r.i.ql.length qc, .int .i64 r.g.fl, .int .i64 r.g.kn, .int .i64 r.g.a, .int .i64 r.g.b, .int .i64 r.g.c, .slice ba r.bl.length bc, .int .i64 r.who, .int .i64 r.el] 118) (.cells #[.slice a N cap] 121) (.cells #[.int .i64 t] 3)
  have HW1 := hid hW1
  have HB1 := hid hb1
  have HZ1 := hid hz1
  have HP1 := hid p1
  have HP2 := hid p2
  have HP3 := hid p3
  have HBW := hid (hb.trans (hb1.mono hb.size))
  have HSC1 := hid (hsc.below hb1)
  have HGW := hid hgw
  have HA := hid ha
  have HHN := hid hN
  have HEL := hid hel
  clear hpv hqv hbv hans hi hgr hbr hel ht hl hb hg hgw hsc ha hN hW1 hz1 hb1 p1 p2 p3 hln
  show Calls Tryz.prog 43 #[.agg #[.int .i64 r.i.cx, .int .i64 r.i.cy, .int .i64 r.i.sd, .int .i64 r.i.W, .int .i64 r.i.H, .slice pa r.i.pl.length pc, .slice qa r.i.ql.length qc, .int .i64 r.g.fl, .int .i64 r.g.kn, .int .i64 r.g.a, .int .i64 r.g.b, .int .i64 r.g.c, .slice ba r.bl.length bc, .int .i64 r.who, .int .i64 r.el], .slice a N cap, .int .i64 t] w _
  go_enter Tryz.func43, Tryz.ntmps43
  go_upto_region 1 with fail
  rw [HW1.out]
  clear HW1
  go_step3
  have r0 := cellN (i := 0) (v := .int .i64 r.i.cx) HP1.out rfl
  have r1 := cellN (i := 1) (v := .int .i64 r.i.cy) HP1.out rfl
  have r2 := cellN (i := 2) (v := .int .i64 r.i.sd) HP1.out rfl
  have r3 := cellN (i := 3) (v := .int .i64 r.i.W) HP1.out rfl
  have r4 := cellN (i := 4) (v := .int .i64 r.i.H) HP1.out rfl
  have r5 := cellN (i := 5) (v := .slice pa r.i.pl.length pc) HP1.out rfl
  have r6 := cellN (i := 6) (v := .slice qa r.i.ql.length qc) HP1.out rfl
  have r7 := cellN (i := 7) (v := .int .i64 r.g.fl) HP1.out rfl
  have r8 := cellN (i := 8) (v := .int .i64 r.g.kn) HP1.out rfl
  have r9 := cellN (i := 9) (v := .int .i64 r.g.a) HP1.out rfl
  have r10 := cellN (i := 10) (v := .int .i64 r.g.b) HP1.out rfl
  have r11 := cellN (i := 11) (v := .int .i64 r.g.c) HP1.out rfl
  have r12 := cellN (i := 12) (v := .slice ba r.bl.length bc) HP1.out rfl
  have r13 := cellN (i := 13) (v := .int .i64 r.who) HP1.out rfl
  have r14 := cellN (i := 14) (v := .int .i64 r.el) HP1.out rfl
  have c1 := cellN (i := 0) (v := .slice a N cap) HP2.out rfl
  have c2 := cellN (i := 0) (v := .int .i64 t) HP3.out rfl
  have HGL := hid (show Calls Tryz.prog 79 #[.agg #[.int .i64 r.i.cx, .int .i64 r.i.cy, .int .i64 r.i.sd, .int .i64 r.i.W, .int .i64 r.i.H, .slice pa r.i.pl.length pc, .slice qa r.i.ql.length qc, .int .i64 r.g.fl, .int .i64 r.g.kn, .int .i64 r.g.a, .int .i64 r.g.b, .int .i64 r.g.c, .slice ba r.bl.length bc, .int .i64 r.who, .int .i64 r.el], .slice a N cap, .int .i64 t] W1 fun e w' => GlideE (glideTo r t l N) g off N W1 e w' from HGL.out W1 HBW.out (by have := HGW.out; have := HZ1.out; omega) HSC1.out)
  obtain ⟨x, hx⟩ : ∃ x, glideTo r t l N = x := ⟨_, rfl⟩
  rw [hx] at HGL HANS HLK
  clear hx
  go_wp2_with fail
  refine HGL.out.mono ?_
  obtain ⟨rc, hrc⟩ : ∃ rc : Array Value, #[.int .i64 r.i.cx, .int .i64 r.i.cy, .int .i64 r.i.sd, .int .i64 r.i.W, .int .i64 r.i.H, .slice pa r.i.pl.length pc, .slice qa r.i.ql.length qc, .int .i64 r.g.fl, .int .i64 r.g.kn, .int .i64 r.g.a, .int .i64 r.g.b, .int .i64 r.g.c, .slice ba r.bl.length bc, .int .i64 r.who, .int .i64 r.el] = rc := ⟨_, rfl⟩
  have HRC := hid (show rc[14]? = some (.int .i64 r.el) by rw [← hrc]; rfl)
  rw [hrc] at HP1
  clear hrc HGL r0 r1 r2 r3 r4 r5 r6 r7 r8 r9 r10 r11 r12 r13 r14 c1 c2
  rintro e w2 he
  cases x with
  | error c =>
    obtain ⟨rfl, hc⟩ := he
    exact ⟨rfl, TickE.err HANS.out.symm ((Ch.of_below HB1.out).trans hc)⟩
  | ok s =>
  obtain ⟨rfl, hsc2, hc2⟩ := he
  have lt : ∀ {k : Nat} {o : Obj}, W1.heap[k]? = some o → k < W1.heap.size := fun h => (Array.getElem?_eq_some_iff.1 h).1
  have hp1 := (hc2.2 _ (lt HP1.out) (by have := HGW.out; omega)).trans HP1.out
  have hp2 := (hc2.2 _ (lt HP2.out) (by have := HGW.out; omega)).trans HP2.out
  have hp3 := (hc2.2 _ (lt HP3.out) (by have := HGW.out; omega)).trans HP3.out
  have hc3 : Ch (fun k => k = g) w w2 := (Ch.of_below HB1.out).trans hc2
  obtain ⟨W3, hW3⟩ : ∃ W3, w2.alloc (.cells #[.slice none 0 0] 75) = W3 := ⟨_, rfl⟩
  obtain ⟨bh, hbh⟩ : ∃ bh, w2.heap.size = bh := ⟨_, rfl⟩
  have hp4 : W3.heap[bh]? = some (.cells #[.slice none 0 0] 75 (0, 0)) := by rw [← hW3, ← hbh]; exact heap_alloc_new w2 _
  have hb3 : Below w2.heap.size w2 W3 := by rw [← hW3]; exact (Below.refl _ _).alloc (Nat.le_refl _) _
  have HI := hid (show RInv w W3 g off N (.slice a N cap) rc t (w.heap.size + 1) w.heap.size bh (w.heap.size + 1 + 1) ⟨s, true, []⟩ from
    ⟨carry hp2 hb3, carry hp1 hb3, carry hp3 hb3, ⟨_, hp4, World.ownsRow_nil _ _ _ _⟩, hsc2.below hb3, hc3.trans (Ch.of_below hb3)⟩)
  have HBH := hid (show w.heap.size ≤ bh by have h1 := hc3.1.size; omega)
  have HW3 := hid hW3
  have HSL := hid (HLK.out s rfl)
  have HANS := hid (show afterS (passTo r.el t s 8) = ans from HANS.out)
  clear hW3 hp4 hb3 hc3 hp1 hp2 hp3 hc2 hsc2 HP1 HP2 HP3 HLK HB1 HZ1 HBW HSC1
  have HRD := hid (fun (W : World) (q : RS) (n : Nat) (h : passTo r.el t s n = .ok q) (hn : n ≤ 8) (hI : RInv w W g off N (.slice a N cap) rc t (w.heap.size + 1) w.heap.size bh (w.heap.size + 1 + 1) q) =>
    round80_any w W g off N cap a rc t r.el (w.heap.size + 1) w.heap.size bh (w.heap.size + 1 + 1) q.s q.met q.hits HA.out HHN.out HRC.out HEL.out (passTo_like (Like.refl HSL.out.2.1) h).2.1 HBH.out (by have := passTo_hits HSL.out.2.1 (by have := HI.out.sc.1; have := HHN.out; dsimp only at *; omega) h; omega) hI)
  have hmf := run_makeFunc
  go_upto_region 3 with fail
  rw [HW3.out]
  clear HW3 hbh
  go_wp2_with fail
  go_step3
  clear hmf
  go_upto_block 0 with fail
  go_cut [16] (fun v wx => ∃ q, passTo r.el t s 8 = .ok q ∧ RInv w wx g off N (.slice a N cap) rc t (w.heap.size + 1) w.heap.size bh (w.heap.size + 1 + 1) q)
  case first =>
    go_wp2_with fail
    go_loopw [16] (fun i wr => ∃ (n : Nat) (q : RS), n ≤ 8 ∧ i = .int .i64 n ∧ passTo r.el t s n = .ok q ∧ q.met = true ∧ RInv w wr g off N (.slice a N cap) rc t (w.heap.size + 1) w.heap.size bh (w.heap.size + 1 + 1) q) (fun i _ => 8 - (intOf i).toNat)
    case atStart => exact ⟨0, _, Nat.zero_le _, rfl, rfl, rfl, HI.out⟩
    case round =>
      clear HI
      obtain ⟨n, q, hn, rfl, hp, hm, hri⟩ := hrel
      have HP := hid hp
      have HM := hid hm
      have HRI := hid hri
      clear hp hm hri
      by_cases hlt : n < 8
      · have HC := hid (HRD.out wr q n HP.out hn HRI.out)
        have HPN := hid (show passTo r.el t s (n + 1) = roundS r.el t q by simp only [passTo, HP.out, thenR, passS]; rw [if_pos HM.out])
        have HC := hid (show Calls Tryz.prog 80 #[.pointer (some ⟨w.heap.size + 1, 0, none⟩), .pointer (some ⟨w.heap.size, 0, none⟩), .pointer (some ⟨bh, 0, none⟩), .pointer (some ⟨w.heap.size + 1 + 1, 0, none⟩)] wr fun e w' => RoundE (roundS r.el t q) w g off N (.slice a N cap) rc t (w.heap.size + 1) w.heap.size bh (w.heap.size + 1 + 1) e w' from HC.out)
        obtain ⟨x, hx⟩ : ∃ x, roundS r.el t q = x := ⟨_, rfl⟩
        rw [hx] at HC HPN
        clear hx
        go_wp2_with fail
        refine HC.out.mono ?_
        rintro e w4 he
        cases x with
        | error c =>
          obtain ⟨rfl, hc⟩ := he
          have hans : ans = .error c := by rw [← HANS.out, passTo_err HPN.out 8 hlt]; rfl
          exact ⟨rfl, TickE.err hans hc⟩
        | ok q2 =>
          obtain ⟨rfl, hri2⟩ := he
          have HR2 := hid hri2
          clear hri2
          obtain ⟨m2, hm2⟩ : ∃ b, q2.met = b := ⟨_, rfl⟩
          rw [hm2]
          have HM2 := hid hm2
          clear hm2
          cases m2 with
          | true =>
            go_wp2_with fail
            exact ⟨⟨n + 1, q2, hlt, by go_num, HPN.out, HM2.out, HR2.out⟩, by simp only [intOf]; omega⟩
          | false =>
            have HL := hid (passTo_stop HPN.out HM2.out 8 hlt)
            go_wp2_with fail
            go_meet
            exact ⟨q2, HL.out, HR2.out⟩
      · obtain rfl : n = 8 := by omega
        go_wp2_with fail
        go_meet
        exact ⟨q, HP.out, HRI.out⟩
  case rest =>
    clear HI HRD
    obtain ⟨q, hp8, hri⟩ := hcut
    obtain ⟨wx, rfl⟩ := hri.name
    have HP8 := hid hp8
    have HRI := hid hri
    have HQS := hid (passTo_like (Like.refl HSL.out.2.1) hp8).2.1
    have HQL := hid (show q.s.length = N from hri.sc.1)
    have c1 := cellN (i := 0) (v := .slice a N cap) hri.s0 rfl
    clear hp8 hri
    go_wp2_with fail
    clear c1
    go_loopw [24] (fun i wr => ∃ k : Nat, k ≤ N ∧ i = .int .i64 k ∧ RInv w wr g off N (.slice a N cap) rc t (w.heap.size + 1) w.heap.size bh (w.heap.size + 1 + 1) ⟨outK q.s k, q.met, q.hits⟩) (fun i _ => N - (intOf i).toNat)
    case atStart => exact ⟨0, Nat.zero_le _, rfl, HRI.out⟩
    case round =>
      clear HRI
      obtain ⟨k, hk, rfl, hri⟩ := hrel
      by_cases hlt : k < N
      · have hk16 : k < 16 := Nat.lt_of_lt_of_le hlt HHN.out
        obtain rfl := HA.out (Nat.lt_of_le_of_lt (Nat.zero_le _) hlt)
        obtain ⟨cur, hcu, hrw⟩ := hri.sc.2 (Nat.lt_of_le_of_lt (Nat.zero_le _) hlt)
        obtain ⟨b, hbk⟩ : ∃ b, q.s[k]? = some b := ⟨_, List.getElem?_eq_getElem (by rw [HQL.out]; exact hlt)⟩
        have hmok := HQS.out b (List.mem_of_getElem? hbk)
        have HRW0 := hid (hrw k b (outK_get hbk))
        have HPUT := hid (show ∀ (W : World) (cur' : Array Value) (b' : BodyD), W.heap[g]? = some (.cells cur' 174 (0, 0)) → Ch (fun k => k = g) wr W → RowB cur' (off + k * 8) b' → (∀ i, i < off + k * 8 ∨ off + k * 8 + 8 ≤ i → cur'[i]? = cur[i]?) → RInv w W g off N (.slice (some ⟨g, off, none⟩) N cap) rc t (w.heap.size + 1) w.heap.size bh (w.heap.size + 1 + 1) ⟨(outK q.s k).set k b', q.met, q.hits⟩ from
          fun W cur' b' h1 h2 h3 h4 => hri.scene hcu h2 (hri.sc.put (outK_get hbk) hcu h1 h3 h4))
        have hx := (movOk_b hmok).1.1
        have HCU := hid hcu
        have HRI := hid hri
        have HBK := hid hbk
        have hc1 := cellN (i := 0) (v := .slice (some ⟨g, off, none⟩) N cap) hri.s0 rfl
        clear hcu hrw hri hbk hmok
        obtain ⟨team, n, ⟨px, py, vx, vy, sp⟩, out⟩ := b
        go_upto_region 12 with fail
        clear hc1
        obtain ⟨o, ho⟩ : ∃ o, off + k * 8 = o := ⟨_, rfl⟩
        rw [ho] at HRW0 HPUT
        rw [ho]
        have HRW := hid HRW0.out
        clear ho HRW0
        have y0 : wr.cell? ⟨g, o, none⟩ = some (.int .i64 team) := cellN HCU.out (HRW.out 0 (by omega))
        have y1 : wr.cell? ⟨g, o + 1, none⟩ = some (.int .i64 n) := cellN HCU.out (HRW.out 1 (by omega))
        have y2 : wr.cell? ⟨g, o + 2, none⟩ = some (.int .i64 px) := cellN HCU.out (HRW.out 2 (by omega))
        have y3 : wr.cell? ⟨g, o + 3, none⟩ = some (.int .i64 py) := cellN HCU.out (HRW.out 3 (by omega))
        have y4 : wr.cell? ⟨g, o + 4, none⟩ = some (.int .i64 vx) := cellN HCU.out (HRW.out 4 (by omega))
        have y5 : wr.cell? ⟨g, o + 5, none⟩ = some (.int .i64 vy) := cellN HCU.out (HRW.out 5 (by omega))
        have y6 : wr.cell? ⟨g, o + 6, none⟩ = some (.int .i64 sp) := cellN HCU.out (HRW.out 6 (by omega))
        have y7 : wr.cell? ⟨g, o + 7, none⟩ = some (.bool out) := cellN HCU.out (HRW.out 7 (by omega))
        cases out with
        | true =>
          have HNX := hid (outK_stay HBK.out (show outB ⟨team, n, ⟨px, py, vx, vy, sp⟩, true⟩ = _ from rfl))
          go_wp2_with fail
          exact ⟨⟨k + 1, hlt, by go_num, by rw [HNX.out]; exact HRI.out⟩, by simp only [intOf]; omega⟩
        | false =>
        have HGO := hid (show ∀ W, Calls Tryz.prog 83 #[.agg #[.int .i64 team, .int .i64 n, .int .i64 px, .int .i64 py, .int .i64 vx, .int .i64 vy, .int .i64 sp, .bool false]] W fun e w' => e = .returned (.bool (goneM ⟨px, py, vx, vy, sp⟩)) ∧ Below W.heap.size W w' from fun W => gone83_any ⟨team, n, ⟨px, py, vx, vy, sp⟩, false⟩ W hx)
        have HOB := hid (show outB ⟨team, n, ⟨px, py, vx, vy, sp⟩, false⟩ = if goneM ⟨px, py, vx, vy, sp⟩ = true then ⟨team, n, ⟨px, py, 0, 0, 0⟩, true⟩ else ⟨team, n, ⟨px, py, vx, vy, sp⟩, false⟩ from rfl)
        clear hx
        obtain ⟨gb, hgb⟩ : ∃ x, goneM ⟨px, py, vx, vy, sp⟩ = x := ⟨_, rfl⟩
        rw [hgb] at HGO HOB
        clear hgb
        go_wp2_with fail
        refine (HGO.out _).mono ?_
        rintro e w5 ⟨rfl, hb5⟩
        have HRI5 := hid (HRI.out.below hb5)
        have HCU5 := hid (carry HCU.out hb5)
        have HC5 := hid (show Ch (fun k => k = g) wr w5 from Ch.of_below hb5)
        clear hb5 HRI HCU HGO y0 y1 y2 y3 y4 y5 y6 y7
        cases gb with
        | false =>
          have HNX := hid (outK_stay HBK.out (show outB ⟨team, n, ⟨px, py, vx, vy, sp⟩, false⟩ = _ by rw [HOB.out]; rfl))
          go_wp2_with fail
          exact ⟨⟨k + 1, hlt, by go_num, by rw [HNX.out]; exact HRI5.out⟩, by simp only [intOf]; omega⟩
        | true =>
          have HNX := hid (show outK q.s (k + 1) = (outK q.s k).set k ⟨team, n, ⟨px, py, 0, 0, 0⟩, true⟩ by rw [outK_next HBK.out, HOB.out]; rfl)
          have y0 : w5.cell? ⟨g, o, none⟩ = some (.int .i64 team) := cellN HCU5.out (HRW.out 0 (by omega))
          have y1 : w5.cell? ⟨g, o + 1, none⟩ = some (.int .i64 n) := cellN HCU5.out (HRW.out 1 (by omega))
          have y2 : w5.cell? ⟨g, o + 2, none⟩ = some (.int .i64 px) := cellN HCU5.out (HRW.out 2 (by omega))
          have y3 : w5.cell? ⟨g, o + 3, none⟩ = some (.int .i64 py) := cellN HCU5.out (HRW.out 3 (by omega))
          have y4 : w5.cell? ⟨g, o + 4, none⟩ = some (.int .i64 vx) := cellN HCU5.out (HRW.out 4 (by omega))
          have y5 : w5.cell? ⟨g, o + 5, none⟩ = some (.int .i64 vy) := cellN HCU5.out (HRW.out 5 (by omega))
          have y6 : w5.cell? ⟨g, o + 6, none⟩ = some (.int .i64 sp) := cellN HCU5.out (HRW.out 6 (by omega))
          have y7 : w5.cell? ⟨g, o + 7, none⟩ = some (.bool false) := cellN HCU5.out (HRW.out 7 (by omega))
          have f2 : w5.frozen? ⟨g, o + 2, none⟩ = false := frozN HCU5.out
          have f3 : w5.frozen? ⟨g, o + 3, none⟩ = false := frozN HCU5.out
          have f4 : w5.frozen? ⟨g, o + 4, none⟩ = false := frozN HCU5.out
          have f5 : w5.frozen? ⟨g, o + 5, none⟩ = false := frozN HCU5.out
          have f6 : w5.frozen? ⟨g, o + 6, none⟩ = false := frozN HCU5.out
          have f7 : w5.frozen? ⟨g, o + 7, none⟩ = false := frozN HCU5.out
          go_wp2_with fail
          have hG6 := heap_setCell_same w5 g (o + 7) _ _ (.bool true) HCU5.out
          have hC6 : Ch (fun k => k = g) wr (w5.setCell ⟨g, o + 7, none⟩ (.bool true)) := ⟨HC5.out.1.setCell (p := ⟨g, o + 7, none⟩) (Nat.zero_le _) _, fun k hk hne => by rw [heap_setCell_other _ _ k _ hne]; exact HC5.out.2 k hk hne⟩
          have hG8 := setMv_heap (o := o) hG6 px py 0 0 0
          have hC8 := setMv_ch (g := g) (o := o) (fun k => k = g) rfl px py 0 0 0 hC6
          have hr8 := (HRW.out.setO true).setMv px py 0 0 0
          exact ⟨⟨k + 1, hlt, by go_num, by rw [HNX.out]; exact HPUT.out _ _ _ hG8 hC8 hr8 (fun i hi => (setMv_out px py 0 0 0 hi).trans (setO_out _ hi))⟩, by simp only [intOf]; omega⟩
      · obtain rfl : k = N := by omega
        have hans : ans = .ok (q.s.map outB, q.hits) := by rw [← HANS.out, HP8.out]; rfl
        have hre : outK q.s k = q.s.map outB := by rw [← HQL.out]; exact outK_all _
        have HAN := hid hans
        rw [hre] at hri
        obtain ⟨v, hv, hrow⟩ := hri.h0
        have HRI := hid hri
        have HROW := hid hrow
        have cv := cellN (i := 0) (v := v) hv rfl
        clear hans hre hri hrow hv
        go_wp2_with fail
        try rw [Exit.noGoto_ret]
        go_ret
        have h9 : TickE ans g off k w (.returned v) wr := TickE.fine HAN.out HROW.out HRI.out.sc HRI.out.ch
        exact h9
end Go.Proofs.YtolnhicngepnnaaGreat
/- contact.Tick. -/
namespace Go.Proofs.YtolnhicngepnnaaGreat
open Go.RowKit

theorem oneT_err {r : RinkD} {t c : Int} {k : Nat} {b : BodyD} (h : oneT r t k b = .error c) : c = 4 := by
  unfold oneT at h
  split at h
  · simp at h
  · cases hx : tickI r.i r.g (powR r t k) b.m with
    | ok m => rw [hx] at h; simp at h
    | error d => rw [hx] at h; simp only [Except.error.injEq] at h; subst h; exact tickI_err hx
theorem glideTo_four {r : RinkD} {t c : Int} {l : List BodyD} : ∀ {k : Nat}, glideTo r t l k = .error c → c = 4
  | 0, h => by simp [glideTo] at h
  | k + 1, h => by
    simp only [glideTo] at h
    cases hx : glideTo r t l k with
    | error d => rw [hx] at h; simp only [glideStep, Except.error.injEq] at h; subst h; exact glideTo_four hx
    | ok s =>
      rw [hx] at h
      simp only [glideStep] at h
      cases hs : s[k]? with
      | none => rw [hs] at h; simp at h
      | some b =>
        rw [hs] at h
        dsimp only at h
        cases ho : oneT r t k b with
        | ok b' => rw [ho] at h; simp [setOk] at h
        | error d => rw [ho] at h; simp only [setOk, Except.error.injEq] at h; subst h; exact oneT_err ho
theorem meetR_four {el c : Int} {x y : BodyD} (h : meetR el x y = .error c) : c = 4 := by
  unfold meetR at h
  split at h
  · simp at h
  · split at h
    · simp at h
    · simpa using h.symm
theorem pairS_four {el t c : Int} {a b : Nat} {st : RS} (h : pairS el t a b st = .error c) : c = 4 := by
  unfold pairS at h
  split at h
  · rename_i x y _ _
    split at h
    · cases hm : meetR el x y with
      | error d => rw [hm] at h; simp only [pairM, Except.error.injEq] at h; subst h; exact meetR_four hm
      | ok o => rw [hm] at h; cases o <;> simp [pairM] at h
    · simp at h
  · simp at h
theorem thenR_four {x : Except Int RS} {f : RS → Except Int RS} {c : Int} (h : thenR x f = .error c) (h1 : ∀ d, x = .error d → d = 4) (h2 : ∀ q d, f q = .error d → d = 4) : c = 4 := by
  cases x with
  | error d => simp only [thenR, Except.error.injEq] at h; subst h; exact h1 _ rfl
  | ok q => exact h2 q c h
theorem innTo_four {el t : Int} {a : Nat} {st : RS} : ∀ {n : Nat} {c : Int}, innTo el t a st n = .error c → c = 4
  | 0, c, h => by simp [innTo] at h
  | n + 1, c, h => thenR_four h (fun d => innTo_four) (fun q d => pairS_four)
theorem outTo_four {el t : Int} {N : Nat} {st : RS} : ∀ {n : Nat} {c : Int}, outTo el t N st n = .error c → c = 4
  | 0, c, h => by simp [outTo] at h
  | n + 1, c, h => thenR_four h (fun d => outTo_four) (fun q d => innTo_four)
theorem passTo_four {el t : Int} {s : List BodyD} : ∀ {n : Nat} {c : Int}, passTo el t s n = .error c → c = 4
  | 0, c, h => by simp [passTo] at h
  | n + 1, c, h => thenR_four h (fun d => passTo_four) (fun q d h2 => by
    unfold passS at h2
    split at h2
    · exact outTo_four h2
    · simp at h2)
theorem tickS_four {r : RinkD} {t c : Int} {l : List BodyD} (h : tickS r t l = .error c) : c = 4 := by
  unfold tickS at h
  cases hg : glideTo r t l l.length with
  | error d => rw [hg] at h; simp only [tickP, Except.error.injEq] at h; subst h; exact glideTo_four hg
  | ok s =>
    rw [hg] at h
    simp only [tickP] at h
    cases hp : passTo r.el t s 8 with
    | error d => rw [hp] at h; simp only [afterS, Except.error.injEq] at h; subst h; exact passTo_four hp
    | ok q => rw [hp] at h; simp [afterS] at h
theorem results_tct {fn : Func} {a p u : Tmp} (h : fn.results = #[.tmp a, .cell p 75, .tmp u]) (tmps : Array Value) (w : World) (b : Nat) (x : Value) (hp : tmps.getD p undef = .pointer (some ⟨b, 0, none⟩)) (hl : w.heap[b]? = some (.cells #[x] 75 (0, 0))) :
    (results fn tmps).run Tryz.prog w = .ok (.tuple #[tmps.getD a undef, x, tmps.getD u undef]) w := by
  have e : (asAddr (tmps[p]?.getD undef)).run Tryz.prog w = .ok ⟨b, 0, none⟩ w := by
    rw [show tmps[p]?.getD undef = tmps.getD p undef by simp, hp]; simp [go_sem]
  have l1 : (loadVar 75 ⟨b, 0, none⟩).run Tryz.prog w = .ok x w := by simp [go_sem, World.cell?, hl]
  simp only [results, h]
  simp [Sem.run_bind, Result.andThen, e, l1]
theorem scene_row {w : World} {base n g0 : Nat} {v : Value} {l : List BodyD} (h : w.ownsRow base 174 8 v n (l.flatMap BodyD.cells)) (hn : n = l.length) : ∃ a cap g, v = .slice a n cap ∧ (0 < n → a = some ⟨g, 0, none⟩ ∧ base ≤ g ∧ g < w.heap.size) ∧ (n = 0 → g = g0) ∧ SceneAt w g 0 n l := by
  rcases h.2 with ⟨rfl, h0⟩ | ⟨g, cap, cur, rfl, hb, hg, _, _, _, hx⟩
  · subst h0
    exact ⟨none, 0, g0, rfl, fun h => absurd h (by omega), fun _ => rfl, hn.symm, fun h => absurd h (by omega)⟩
  · by_cases h0 : n = 0
    · subst h0
      exact ⟨_, cap, g0, rfl, fun h => absurd h (by omega), fun _ => rfl, hn.symm, fun h => absurd h (by omega)⟩
    · refine ⟨_, cap, g, rfl, fun _ => ⟨rfl, hb, (Array.getElem?_eq_some_iff.1 hg).1⟩, fun e => absurd e h0, hn.symm, fun _ => ⟨cur, hg, fun k b hk c hc => ?_⟩⟩
      obtain ⟨h1, h2⟩ := List.getElem?_eq_some_iff.1 hk
      have h3 := body_get l k h1 c hc
      rw [← hx, List.getElem?_take_of_lt (by omega), Array.getElem?_toList] at h3
      rw [h2] at h3
      rw [Nat.zero_add]
      exact h3
theorem SceneAt.slB {w : World} {g off N cap : Nat} {a : Option Addr} {s : List BodyD} (h : SceneAt w g off N s) (ha : 0 < N → a = some ⟨g, off, none⟩) (hN : N ≤ 16) : SlB w (.slice a N cap) s := by
  obtain ⟨hl, hr⟩ := h
  refine ⟨a, cap, by rw [hl], by rw [hl]; omega, ?_⟩
  by_cases h0 : N = 0
  · left; rw [hl, h0]
  · right
    obtain ⟨cur, hc, hrw⟩ := hr (by omega)
    refine ⟨g, off, ha (by omega), (Array.getElem?_eq_some_iff.1 hc).1, fun i hi => ?_⟩
    have hlen : (s.flatMap BodyD.cells).length = s.length * 8 := by
      clear hrw hr hl hi
      induction s with
      | nil => rfl
      | cons b s ih => rw [List.flatMap_cons, List.length_append, ih]; simp [BodyD.cells]; omega
    have hk : i / 8 < s.length := by omega
    have hr8 := hrw (i / 8) s[i / 8] (List.getElem?_eq_getElem hk) (i % 8) (by omega)
    have hb := body_get s (i / 8) hk (i % 8) (by omega)
    rw [← hb] at hr8
    rw [show off + i / 8 * 8 + i % 8 = off + i by omega, show i / 8 * 8 + i % 8 = i by omega] at hr8
    rw [World.cell?]
    simp only [hc]
    rw [List.getElem?_eq_getElem hi] at hr8
    simpa using hr8
/-- How Tick$1 ends. -/
def Tick1E (x : Except Int (List BodyD × List HitD)) (g off N bh : Nat) (w : World) (e : Ending) (w' : World) : Prop :=
  match x with
  | .error c => e = .panicked (cmisfit c) ∧ w'.heap[bh]? = w.heap[bh]? ∧ Ch (fun k => k = g ∨ k = bh) w w'
  | .ok p => e = .returned (.tuple #[]) ∧ (∃ v, w'.heap[bh]? = some (.cells #[v] 75 (0, 0)) ∧ w'.ownsRow w.heap.size 86 3 v p.2.length (p.2.flatMap HitD.cells)) ∧ SceneAt w' g off N p.1 ∧ Ch (fun k => k = g ∨ k = bh) w w'
theorem SceneAt.cell {w : World} {g off N b : Nat} {s : List BodyD} {x : Value} {t : TypeId} (h : SceneAt w g off N s) (hb : w.heap[b]? = some (.cells #[x] t (0, 0))) (ht : t ≠ 174) (u : Value) : SceneAt (w.setCell ⟨b, 0, none⟩ u) g off N s :=
  ⟨h.1, fun hN => by
    obtain ⟨c, h1, h2⟩ := h.2 hN
    exact ⟨c, by rw [heap_setCell_other _ _ g _ (type_ne h1 hb (fun e => ht e.symm))]; exact h1, h2⟩⟩
theorem own_cell {w : World} {base n sz b : Nat} {t u : TypeId} {v x : Value} {xs : List Value} (h : w.ownsRow base t sz v n xs) (hb : w.heap[b]? = some (.cells #[x] u (0, 0))) (ht : t ≠ u) (y : Value) : (w.setCell ⟨b, 0, none⟩ y).ownsRow base t sz v n xs :=
  ownsRow_setCell_other h (fun e => by obtain ⟨_, cc, hcc⟩ := own_type h e; exact type_ne hcc hb ht rfl) _
set_option maxRecDepth 100000 in
set_option maxHeartbeats 4000000 in
theorem tick42_any (r : RinkD) (pv qv bv : Value) (a : Option Addr) (N cap g off : Nat) (l : List BodyD) (t : Int) (br bs bt bh : Nat) (w0 w : World)
    (hr : RinkAt w0 r pv qv bv) (hb : Below w0.heap.size w0 w) (hg : w0.heap.size ≤ g) (hgw : g < w.heap.size) (hi : r.i.ok = true) (hgr : r.g.ok = true) (hbr : broomsOk r.bl = true) (hel : 0 ≤ r.el ∧ r.el ≤ 1000) (ht : 0 ≤ t ∧ t ≤ 6000) (hl : ∀ b ∈ l, b.m.ok = true)
    (ha : 0 < N → a = some ⟨g, off, none⟩) (hN : N ≤ 16) (hsc : SceneAt w g off N l) (hne : bh ≠ g)
    (h1 : w.heap[br]? = some (.cells (r.arr pv qv bv) 118 (0, 0))) (h2 : w.heap[bs]? = some (.cells #[.slice a N cap] 121 (0, 0))) (h3 : w.heap[bt]? = some (.cells #[.int .i64 t] 3 (0, 0))) (h4 : w.heap[bh]? = some (.cells #[.slice none 0 0] 75 (0, 0))) :
    Calls Tryz.prog 42 #[.pointer (some ⟨br, 0, none⟩), .pointer (some ⟨bs, 0, none⟩), .pointer (some ⟨bt, 0, none⟩), .pointer (some ⟨bh, 0, none⟩)] w fun e w' => Tick1E (tickS r t l) g off N bh w e w' := by
  have HT := hid (tick43_any r pv qv bv a N cap g off l t w0 w hr hb hg hgw hi hgr hbr hel ht hl ha hN hsc)
  obtain ⟨ans, hans⟩ : ∃ x, tickS r t l = x := ⟨_, rfl⟩
  rw [hans] at HT ⊢
  clear hans
  obtain ⟨⟨hpv, hqv⟩, hbv⟩ := hr
  obtain ⟨pa, pc, rfl, -, -⟩ := hpv.open
  obtain ⟨qa, qc, rfl, -, -⟩ := hqv.open
  obtain ⟨ba, bc, rfl, -, -⟩ := hbv.open
  have HNE := hid hne
  have H1 := hid h1
  have H4 := hid h4
  have c2 := cellN (i := 0) (v := .slice a N cap) h2 rfl
  have c3 := cellN (i := 0) (v := .int .i64 t) h3 rfl
  clear hpv hqv hbv hi hgr hbr hel ht hl hb hg hgw hsc ha hN h1 h2 h3 h4 hne
  have r0 := cellN (i := 0) (v := .int .i64 r.i.cx) H1.out rfl
  have r1 := cellN (i := 1) (v := .int .i64 r.i.cy) H1.out rfl
  have r2 := cellN (i := 2) (v := .int .i64 r.i.sd) H1.out rfl
  have r3 := cellN (i := 3) (v := .int .i64 r.i.W) H1.out rfl
  have r4 := cellN (i := 4) (v := .int .i64 r.i.H) H1.out rfl
  have r5 := cellN (i := 5) (v := .slice pa r.i.pl.length pc) H1.out rfl
  have r6 := cellN (i := 6) (v := .slice qa r.i.ql.length qc) H1.out rfl
  have r7 := cellN (i := 7) (v := .int .i64 r.g.fl) H1.out rfl
  have r8 := cellN (i := 8) (v := .int .i64 r.g.kn) H1.out rfl
  have r9 := cellN (i := 9) (v := .int .i64 r.g.a) H1.out rfl
  have r10 := cellN (i := 10) (v := .int .i64 r.g.b) H1.out rfl
  have r11 := cellN (i := 11) (v := .int .i64 r.g.c) H1.out rfl
  have r12 := cellN (i := 12) (v := .slice ba r.bl.length bc) H1.out rfl
  have r13 := cellN (i := 13) (v := .int .i64 r.who) H1.out rfl
  have r14 := cellN (i := 14) (v := .int .i64 r.el) H1.out rfl
  have HT := hid (show Calls Tryz.prog 43 #[.agg #[.int .i64 r.i.cx, .int .i64 r.i.cy, .int .i64 r.i.sd, .int .i64 r.i.W, .int .i64 r.i.H, .slice pa r.i.pl.length pc, .slice qa r.i.ql.length qc, .int .i64 r.g.fl, .int .i64 r.g.kn, .int .i64 r.g.a, .int .i64 r.g.b, .int .i64 r.g.c, .slice ba r.bl.length bc, .int .i64 r.who, .int .i64 r.el], .slice a N cap, .int .i64 t] w fun e w' => TickE ans g off N w e w' from HT.out)
  go_enter Tryz.func42, Tryz.ntmps42
  go_wp2_with fail
  refine HT.out.mono ?_
  rintro e w2 he
  clear HT H1 r0 r1 r2 r3 r4 r5 r6 r7 r8 r9 r10 r11 r12 r13 r14 c2 c3
  cases ans with
  | error c =>
    obtain ⟨rfl, hc⟩ := he
    exact ⟨rfl, rfl, hc.2 bh (Array.getElem?_eq_some_iff.1 H4.out).1 HNE.out, hc.1, fun k hk hne => hc.2 k hk (fun e => hne (.inl e))⟩
  | ok p =>
    obtain ⟨v, rfl, hrow, hsc, hc⟩ := he
    have h5 := (hc.2 bh (Array.getElem?_eq_some_iff.1 H4.out).1 HNE.out).trans H4.out
    have c4 := cellN (i := 0) (v := .slice none 0 0) h5 rfl
    have f4 := frozN (i := 0) h5
    have H5 := hid h5
    have HR := hid hrow
    have HS := hid hsc
    have HC := hid hc
    clear hc hsc hrow h5
    obtain ⟨va, vn, vc, rfl⟩ : ∃ va vn vc, v = .slice va vn vc := by
      rcases HR.out.2 with ⟨h, _⟩ | ⟨g1, cap1, cur1, h, _⟩
      · exact ⟨_, _, _, h⟩
      · exact ⟨_, _, _, h⟩
    go_wp2_with fail
    have h6 := heap_setCell_same w2 bh 0 _ _ (.slice va vn vc) H5.out
    go_end0
    exact ⟨rfl, ⟨.slice va vn vc, by rw [h6]; simp, own_cell HR.out H5.out (by decide) _⟩, HS.out.cell H5.out (by decide) _, HC.out.1.setCell (p := ⟨bh, 0, none⟩) (Nat.zero_le _) _, fun k hk hne => by
      rw [heap_setCell_other _ _ k _ (fun e => hne (.inr e))]
      exact HC.out.2 k hk (fun e => hne (.inl e))⟩
end Go.Proofs.YtolnhicngepnnaaGreat
/- contact.Tick, of any things. -/
namespace Go.Proofs.YtolnhicngepnnaaGreat
open Go.RowKit

/-- What Tick answers. -/
def tickA (r : RinkD) (l : List BodyD) (t : Int) : Except Int (List BodyD × List HitD) :=
  if (rinkOk r l && inB t 0 6000) = true then tickS r t l else .error 2
def TickX (x : Except Int (List BodyD × List HitD)) (w : World) (e : Ending) (w' : World) : Prop :=
  Below w.heap.size w w' ∧ match x with
  | .error c => e = .returned (.tuple #[.slice none 0 0, .slice none 0 0, .int .i64 c])
  | .ok p => ∃ vo vh, e = .returned (.tuple #[vo, vh, .int .i64 0]) ∧ w'.ownsRow w.heap.size 72 8 vo p.1.length (p.1.flatMap BodyD.cells) ∧ w'.ownsRow w.heap.size 86 3 vh p.2.length (p.2.flatMap HitD.cells)
theorem TickX.err {x : Except Int (List BodyD × List HitD)} {w w' : World} {c : Int} (h : x = .error c) (hb : Below w.heap.size w w') : TickX x w (.returned (.tuple #[.slice none 0 0, .slice none 0 0, .int .i64 c])) w' := ⟨hb, by rw [h]⟩
theorem own_base {w : World} {B C n sz : Nat} {t : TypeId} {v : Value} {xs : List Value} (h : w.ownsRow C t sz v n xs) (hc : B ≤ C) : w.ownsRow B t sz v n xs := by
  refine ⟨h.1, ?_⟩
  rcases h.2 with h1 | ⟨g, cap, cur, h2, hb, h3⟩
  · exact .inl h1
  · exact .inr ⟨g, cap, cur, h2, Nat.le_trans hc hb, h3⟩
theorem TickX.ok {x : Except Int (List BodyD × List HitD)} {p : List BodyD × List HitD} {w w' : World} {vo vh : Value} (h : x = .ok p) (ho : w'.ownsRow w.heap.size 72 8 vo p.1.length (p.1.flatMap BodyD.cells)) (hh : w'.ownsRow w.heap.size 86 3 vh p.2.length (p.2.flatMap HitD.cells)) (hb : Below w.heap.size w w') :
    TickX x w (.returned (.tuple #[vo, vh, .int .i64 0])) w' := ⟨hb, by rw [h]; exact ⟨vo, vh, rfl, ho, hh⟩⟩
theorem bNames_ok : ∀ (l : List BodyD) (k : List (Int × Int)), bNames l k = true → ∀ b ∈ l, b.valid = true
  | [], _, _, b, hb => by simp at hb
  | x :: l, k, h, b, hb => by
    simp only [bNames, Bool.and_eq_true] at h
    rcases List.mem_cons.1 hb with rfl | hb
    · exact h.1.1.1
    · exact bNames_ok l _ h.2 b hb
theorem rinkOk_ok {r : RinkD} {l : List BodyD} (h : rinkOk r l = true) : r.i.ok = true ∧ r.g.ok = true ∧ broomsOk r.bl = true ∧ (0 ≤ r.el ∧ r.el ≤ 1000) ∧ (∀ b ∈ l, b.m.ok = true) ∧ l.length ≤ 16 := by
  simp only [rinkOk, Bool.and_eq_true, sceneOk, decide_eq_true_eq, inB] at h
  exact ⟨h.1, h.2.1, h.2.2.2.1, h.2.2.2.2.2, fun b hb => valid_ok (bNames_ok l [] h.2.2.1.2 b hb), h.2.2.1.1⟩
set_option maxRecDepth 100000 in
set_option maxHeartbeats 8000000 in
theorem tick17_any (r : RinkD) (pv qv bv v : Value) (l : List BodyD) (t : Int) (w : World) (hr : RinkAt w r pv qv bv) (hs : SlB w v l) :
    Calls Tryz.prog 17 #[r.i.v pv qv, r.g.v, v, bv, .int .i64 r.who, .int .i64 r.el, .int .i64 t] w fun e w' => TickX (tickA r l t) w e w' := by
  have HRA := hid hr
  have HSB := hid hs
  obtain ⟨⟨hpv, hqv⟩, hbv⟩ := hr
  have HRI := hid (fun (W : World) (hb : Below w.heap.size w W) => right38_any r pv qv bv v l W (HRA.out.below hb) (SlB.below hs hb))
  obtain ⟨pa, pc, hpe, -, -⟩ := hpv.open
  obtain ⟨qa, qc, hqe, -, -⟩ := hqv.open
  obtain ⟨ba, bc, hbe, -, -⟩ := hbv.open
  obtain ⟨va, vc, hve, hvl, -⟩ := hs.open
  obtain ⟨rb, hrb⟩ : ∃ b, rinkOk r l = b := ⟨_, rfl⟩
  obtain ⟨tb, htb⟩ : ∃ b, inB t 0 6000 = b := ⟨_, rfl⟩
  have HWI := hid (fun W => within39_any t 0 6000 W)
  obtain ⟨x, hx⟩ : ∃ x, tickA r l t = x := ⟨_, rfl⟩
  rw [hx]
  have HX0 := hid (show (if (rb && tb) = true then tickS r t l else .error 2) = x by rw [← hx, ← hrb, ← htb]; rfl)
  have HRB := hid hrb
  have HTB := hid htb
  rw [hrb] at HRI
  rw [htb] at HWI
  obtain ⟨W1, hW1, hz1, hb1, p1, p2, p3, p4⟩ := four_new w (.cells #[.int .i64 r.i.cx, .int .i64 r.i.cy, .int .i64 r.i.sd, .int .i64 r.i.W, .int .i64 r.i.H, .slice pa r.i.pl.length pc, .slice qa r.i.ql.length qc] 31) (.cells #[.int .i64 r.g.fl, .int .i64 r.g.kn, .int .i64 r.g.a, .int .i64 r.g.b, .int .i64 r.g.c] 24) (.cells #[.int .i64 t] 3) (.cells #[.slice none 0 0] 75)
  obtain ⟨W2, hW2⟩ : ∃ W2, W1.alloc (.cells #[.int .i64 r.i.cx, .int .i64 r.i.cy, .int .i64 r.i.sd, .int .i64 r.i.W, .int .i64 r.i.H, .slice pa r.i.pl.length pc, .slice qa r.i.ql.length qc, .int .i64 r.g.fl, .int .i64 r.g.kn, .int .i64 r.g.a, .int .i64 r.g.b, .int .i64 r.g.c, .slice ba r.bl.length bc, .int .i64 r.who, .int .i64 r.el] 118) = W2 := ⟨_, rfl⟩
  have e5 : W1.heap.size = w.heap.size + 1 + 1 + 1 + 1 := by omega
  have p5 := heap_alloc_new W1 (.cells #[.int .i64 r.i.cx, .int .i64 r.i.cy, .int .i64 r.i.sd, .int .i64 r.i.W, .int .i64 r.i.H, .slice pa r.i.pl.length pc, .slice qa r.i.ql.length qc, .int .i64 r.g.fl, .int .i64 r.g.kn, .int .i64 r.g.a, .int .i64 r.g.b, .int .i64 r.g.c, .slice ba r.bl.length bc, .int .i64 r.who, .int .i64 r.el] 118)
  rw [e5, hW2] at p5
  have hb2 : Below w.heap.size w W2 := by rw [← hW2]; exact hb1.alloc hb1.size _
  have hz2 : W2.heap.size = w.heap.size + 5 := by rw [← hW2]; simp; omega
  have HB2 := hid hb2
  have HZ2 := hid hz2
  have HE5 := hid e5
  have HW1 := hid hW1
  have HW2 := hid hW2
  have HP12 := hid (And.intro p1 p2)
  have HP3 := hid (show W2.heap[w.heap.size + 1 + 1]? = some (.cells #[.int .i64 t] 3 (0, 0)) by rw [← hW2]; exact carryA p3 _)
  have HP4 := hid (show W2.heap[w.heap.size + 1 + 1 + 1]? = some (.cells #[.slice none 0 0] 75 (0, 0)) by rw [← hW2]; exact carryA p4 _)
  have HP5 := hid p5
  subst hpe hqe hbe hve
  have HT := hid (fun (hok : (rb && tb) = true) (W : World) (hB : Below w.heap.size w W) (a : Option Addr) (cap g : Nat) (hg : w.heap.size ≤ g) (hgw : g < W.heap.size) (ha : 0 < l.length → a = some ⟨g, 0, none⟩) (hsc : SceneAt W g 0 l.length l) (bs : Nat) (hne : w.heap.size + 1 + 1 + 1 ≠ g) h1 h2 h3 h4 =>
    tick42_any r (.slice pa r.i.pl.length pc) (.slice qa r.i.ql.length qc) (.slice ba r.bl.length bc) a l.length cap g 0 l t (w.heap.size + 1 + 1 + 1 + 1) bs (w.heap.size + 1 + 1) (w.heap.size + 1 + 1 + 1) w W HRA.out hB hg hgw
      (rinkOk_ok (show rinkOk r l = true by rw [HRB.out]; simp only [Bool.and_eq_true] at hok; exact hok.1)).1 (rinkOk_ok (show rinkOk r l = true by rw [HRB.out]; simp only [Bool.and_eq_true] at hok; exact hok.1)).2.1
      (rinkOk_ok (show rinkOk r l = true by rw [HRB.out]; simp only [Bool.and_eq_true] at hok; exact hok.1)).2.2.1 (rinkOk_ok (show rinkOk r l = true by rw [HRB.out]; simp only [Bool.and_eq_true] at hok; exact hok.1)).2.2.2.1
      (by have h9 : inB t 0 6000 = true := by { rw [HTB.out]; simp only [Bool.and_eq_true] at hok; exact hok.2 }
          simpa [inB] using h9)
      (rinkOk_ok (show rinkOk r l = true by rw [HRB.out]; simp only [Bool.and_eq_true] at hok; exact hok.1)).2.2.2.2.1 ha (rinkOk_ok (show rinkOk r l = true by rw [HRB.out]; simp only [Bool.and_eq_true] at hok; exact hok.1)).2.2.2.2.2 hsc hne h1 h2 h3 h4)
  have HLN := hid (fun (hok : (rb && tb) = true) => (rinkOk_ok (show rinkOk r l = true by rw [HRB.out]; simp only [Bool.and_eq_true] at hok; exact hok.1)).2.2.2.2.2)
  have hmf := run_makeFunc
  clear hpv hqv hbv hs hrb htb hx hW1 hW2 hz1 hb1 p1 p2 p3 p4 p5 hb2 hz2 e5 hvl
  show Calls Tryz.prog 17 #[.agg #[.int .i64 r.i.cx, .int .i64 r.i.cy, .int .i64 r.i.sd, .int .i64 r.i.W, .int .i64 r.i.H, .slice pa r.i.pl.length pc, .slice qa r.i.ql.length qc], .agg #[.int .i64 r.g.fl, .int .i64 r.g.kn, .int .i64 r.g.a, .int .i64 r.g.b, .int .i64 r.g.c], .slice va l.length vc, .slice ba r.bl.length bc, .int .i64 r.who, .int .i64 r.el, .int .i64 t] w _
  go_enter Tryz.func17, Tryz.ntmps17
  go_upto_region 1 with fail
  rw [HW1.out]
  have a0 := cellN (i := 0) (v := .int .i64 r.i.cx) HP12.out.1 rfl
  have a1 := cellN (i := 1) (v := .int .i64 r.i.cy) HP12.out.1 rfl
  have a2 := cellN (i := 2) (v := .int .i64 r.i.sd) HP12.out.1 rfl
  have a3 := cellN (i := 3) (v := .int .i64 r.i.W) HP12.out.1 rfl
  have a4 := cellN (i := 4) (v := .int .i64 r.i.H) HP12.out.1 rfl
  have a5 := cellN (i := 5) (v := .slice pa r.i.pl.length pc) HP12.out.1 rfl
  have a6 := cellN (i := 6) (v := .slice qa r.i.ql.length qc) HP12.out.1 rfl
  have b0 := cellN (i := 0) (v := .int .i64 r.g.fl) HP12.out.2 rfl
  have b1 := cellN (i := 1) (v := .int .i64 r.g.kn) HP12.out.2 rfl
  have b2 := cellN (i := 2) (v := .int .i64 r.g.a) HP12.out.2 rfl
  have b3 := cellN (i := 3) (v := .int .i64 r.g.b) HP12.out.2 rfl
  have b4 := cellN (i := 4) (v := .int .i64 r.g.c) HP12.out.2 rfl
  have he5 := HE5.out
  go_upto_region 2 with fail
  rw [HW2.out]
  clear a0 a1 a2 a3 a4 a5 a6 b0 b1 b2 b3 b4 he5 HW1 HW2 HP12 HE5
  have r0 := cellN (i := 0) (v := .int .i64 r.i.cx) HP5.out rfl
  have r1 := cellN (i := 1) (v := .int .i64 r.i.cy) HP5.out rfl
  have r2 := cellN (i := 2) (v := .int .i64 r.i.sd) HP5.out rfl
  have r3 := cellN (i := 3) (v := .int .i64 r.i.W) HP5.out rfl
  have r4 := cellN (i := 4) (v := .int .i64 r.i.H) HP5.out rfl
  have r5 := cellN (i := 5) (v := .slice pa r.i.pl.length pc) HP5.out rfl
  have r6 := cellN (i := 6) (v := .slice qa r.i.ql.length qc) HP5.out rfl
  have r7 := cellN (i := 7) (v := .int .i64 r.g.fl) HP5.out rfl
  have r8 := cellN (i := 8) (v := .int .i64 r.g.kn) HP5.out rfl
  have r9 := cellN (i := 9) (v := .int .i64 r.g.a) HP5.out rfl
  have r10 := cellN (i := 10) (v := .int .i64 r.g.b) HP5.out rfl
  have r11 := cellN (i := 11) (v := .int .i64 r.g.c) HP5.out rfl
  have r12 := cellN (i := 12) (v := .slice ba r.bl.length bc) HP5.out rfl
  have r13 := cellN (i := 13) (v := .int .i64 r.who) HP5.out rfl
  have r14 := cellN (i := 14) (v := .int .i64 r.el) HP5.out rfl
  have HRI := hid (show ∀ W, Below w.heap.size w W → Calls Tryz.prog 38 #[.agg #[.int .i64 r.i.cx, .int .i64 r.i.cy, .int .i64 r.i.sd, .int .i64 r.i.W, .int .i64 r.i.H, .slice pa r.i.pl.length pc, .slice qa r.i.ql.length qc, .int .i64 r.g.fl, .int .i64 r.g.kn, .int .i64 r.g.a, .int .i64 r.g.b, .int .i64 r.g.c, .slice ba r.bl.length bc, .int .i64 r.who, .int .i64 r.el], .slice va l.length vc] W fun e w' => e = .returned (.bool rb) ∧ Below W.heap.size W w' from HRI.out)
  have t3 := cellN (i := 0) (v := .int .i64 t) HP3.out rfl
  go_wp2_with fail
  refine (HRI.out _ HB2.out).mono ?_
  rintro e w3 ⟨rfl, hb3⟩
  have HB3 := hid (HB2.out.trans (hb3.mono HB2.out.size))
  have HP33 := hid (carry HP3.out hb3)
  have HP43 := hid (carry HP4.out hb3)
  have HP53 := hid (carry HP5.out hb3)
  have HZ3 := hid (show w.heap.size + 5 ≤ w3.heap.size by have h1 := HZ2.out; have h2 := hb3.size; omega)
  clear hb3 r0 r1 r2 r3 r4 r5 r6 r7 r8 r9 r10 r11 r12 r13 r14 t3 HB2 HP3 HP4 HP5 HZ2 HRI
  cases rb with
  | false =>
    have HXE := hid (show x = .error 2 by rw [← HX0.out]; rfl)
    have c4 := cellN (i := 0) (v := .slice none 0 0) HP43.out rfl
    have f4 := frozN (i := 0) HP43.out
    go_wp2_with fail
    have h6 := put1_same (.slice none 0 0) HP43.out
    have hb6 := HB3.out.setCell (p := ⟨w.heap.size + 1 + 1 + 1, 0, none⟩) (by show w.heap.size ≤ w.heap.size + 1 + 1 + 1; omega) (.slice none 0 0)
    exact bodyPost_ret (results_tct (a := 14) (p := 15) (u := 16) rfl _ _ (w.heap.size + 1 + 1 + 1) (.slice none 0 0) rfl h6) rfl (TickX.err HXE.out hb6)
  | true =>
  have t3 := cellN (i := 0) (v := .int .i64 t) HP33.out rfl
  go_wp2_with fail
  refine (HWI.out _).mono ?_
  rintro e w4 ⟨rfl, hw4⟩
  subst hw4
  clear t3
  cases tb with
  | false =>
    have HXE := hid (show x = .error 2 by rw [← HX0.out]; rfl)
    have c4 := cellN (i := 0) (v := .slice none 0 0) HP43.out rfl
    have f4 := frozN (i := 0) HP43.out
    go_wp2_with fail
    have h6 := put1_same (.slice none 0 0) HP43.out
    have hb6 := HB3.out.setCell (p := ⟨w.heap.size + 1 + 1 + 1, 0, none⟩) (by show w.heap.size ≤ w.heap.size + 1 + 1 + 1; omega) (.slice none 0 0)
    exact bodyPost_ret (results_tct (a := 14) (p := 15) (u := 16) rfl _ _ (w.heap.size + 1 + 1 + 1) (.slice none 0 0) rfl h6) rfl (TickX.err HXE.out hb6)
  | true =>
  have HX1 := hid (show tickS r t l = x by rw [← HX0.out]; rfl)
  have HT := hid (HT.out rfl)
  have HLN := hid (HLN.out rfl)
  go_wp2_with fail
  refine (of40_any _ l w4 (SlB.below HSB.out HB3.out) (by have := HLN.out; omega)).mono ?_
  rintro e w5 ⟨vs, rfl, hrow, hb5⟩
  obtain ⟨sa, sc, g, rfl, hga, hg0, hsc⟩ := scene_row (g0 := w.heap.size) hrow rfl
  have HB5 := hid (HB3.out.trans (hb5.mono HB3.out.size))
  have HP3 := hid (carry HP33.out hb5)
  have HP4 := hid (carry HP43.out hb5)
  have HP5 := hid (carry HP53.out hb5)
  have hz4 := HZ3.out
  have hz5 : w4.heap.size ≤ w5.heap.size := hb5.size
  have hgr : (g = w.heap.size ∨ w4.heap.size ≤ g) ∧ g < w5.heap.size := by
    by_cases h0 : l.length = 0
    · have := hg0 h0; omega
    · have := hga (by omega); omega
  have HG := hid (show g ≠ w.heap.size + 1 + 1 ∧ g ≠ w.heap.size + 1 + 1 + 1 ∧ g ≠ w.heap.size + 1 + 1 + 1 + 1 ∧ w.heap.size ≤ g ∧ g < w5.heap.size by omega)
  have HGA := hid (fun h => (hga h).1)
  have HSC := hid hsc
  have HZ5 := hid (show w.heap.size + 5 ≤ w5.heap.size by omega)
  clear hga hg0 hsc hgr hz4 hz5 hb5 hrow HB3 HP33 HP43 HP53 HZ3 HSB
  obtain ⟨W6, hW6⟩ : ∃ W6, w5.alloc (.cells #[.slice sa l.length sc] 121) = W6 := ⟨_, rfl⟩
  obtain ⟨b18, hb18⟩ : ∃ b, w5.heap.size = b := ⟨_, rfl⟩
  have H18 := hid (show W6.heap[b18]? = some (.cells #[.slice sa l.length sc] 121 (0, 0)) by rw [← hW6, ← hb18]; exact heap_alloc_new w5 _)
  have hb6 : Below w5.heap.size w5 W6 := by rw [← hW6]; exact (Below.refl _ _).alloc (Nat.le_refl _) _
  have HB6 := hid (HB5.out.trans (hb6.mono HB5.out.size))
  have HP3 := hid (carry HP3.out hb6)
  have HP4 := hid (carry HP4.out hb6)
  have HP5 := hid (carry HP5.out hb6)
  have HSC := hid (HSC.out.below hb6)
  have HN18 := hid (show b18 ≠ g ∧ b18 ≠ w.heap.size + 1 + 1 + 1 ∧ w.heap.size + 5 ≤ b18 by have h1 := HG.out; have h2 := HZ5.out; omega)
  have HGW := hid (show g < W6.heap.size by have h1 := HG.out; have h2 := hb6.size; omega)
  have HW6 := hid hW6
  clear hW6 hb6 HB5
  go_upto_region 5 with fail
  rw [HW6.out]
  clear HW6 hb18 HZ5
  have HTR := hid (tried_c 42 #[.pointer (some ⟨w.heap.size + 1 + 1 + 1 + 1, 0, none⟩), .pointer (some ⟨b18, 0, none⟩), .pointer (some ⟨w.heap.size + 1 + 1, 0, none⟩), .pointer (some ⟨w.heap.size + 1 + 1 + 1, 0, none⟩)]
    (fun W' => W'.heap[W6.heap.size]? = some (.cells #[.int .i64 0] 33 (0, 0)) ∧ ∃ p, x = .ok p ∧ (∃ vh, W'.heap[w.heap.size + 1 + 1 + 1]? = some (.cells #[vh] 75 (0, 0)) ∧ W'.ownsRow w.heap.size 86 3 vh p.2.length (p.2.flatMap HitD.cells)) ∧ SceneAt W' g 0 l.length p.1 ∧ Ch (fun k => k = g ∨ k = w.heap.size + 1 + 1 + 1) W6 W')
    (fun c W' => x = .error c ∧ W'.heap[w.heap.size + 1 + 1 + 1]? = some (.cells #[.slice none 0 0] 75 (0, 0)) ∧ Ch (fun k => k = g ∨ k = w.heap.size + 1 + 1 + 1) W6 W') W6
    (enters_of Tryz.func42 (by kernel_rfl) rfl)
    ((HT.out (W6.alloc (.cells #[.int .i64 0] 33)) (HB6.out.alloc HB6.out.size _) sa sc g HG.out.2.2.2.1 (by have := HGW.out; simp; omega) HGA.out (HSC.out.below ((Below.refl _ _).alloc (Nat.le_refl _) _)) b18 (fun e => HG.out.2.1 e.symm) (carryA HP5.out _) (carryA H18.out _) (carryA HP3.out _) (carryA HP4.out _)).mono (by
      intro e W' h
      have hca : Ch (fun k => k = g ∨ k = w.heap.size + 1 + 1 + 1) W6 (W6.alloc (.cells #[.int .i64 0] 33)) := Ch.of_below ((Below.refl _ W6).alloc (Nat.le_refl _) _)
      have hn := heap_alloc_new W6 (.cells #[.int .i64 0] 33)
      have hlt : W6.heap.size < (W6.alloc (.cells #[.int .i64 0] 33)).heap.size := by simp
      have hgw := HGW.out
      have hbw := (Array.getElem?_eq_some_iff.1 HP4.out).1
      rw [HX1.out] at h
      cases x with
      | ok p =>
        obtain ⟨h1, ⟨vh, h2, h3⟩, h4, h5⟩ := h
        exact ⟨(h5.2 W6.heap.size hlt (by omega)).trans hn, .inl ⟨h1, (h5.2 W6.heap.size hlt (by omega)).trans hn, p, rfl, ⟨vh, h2, own_base h3 (Nat.le_trans HB6.out.size (by simp))⟩, h4, hca.trans h5⟩⟩
      | error c =>
        obtain ⟨h1, h2, h5⟩ := h
        exact ⟨(h5.2 W6.heap.size hlt (by omega)).trans hn, .inr ⟨c, h1, rfl, h2.trans (carryA HP4.out _), hca.trans h5⟩⟩)))
  clear HT
  go_wp2_with fail
  refine HTR.out.mono ?_
  rintro e w6 ⟨c, W', rfl, hAB, hch⟩
  clear HTR
  have hbw := (Array.getElem?_eq_some_iff.1 HP4.out).1
  have h18w := (Array.getElem?_eq_some_iff.1 H18.out).1
  rcases hAB with ⟨rfl, h33, p, hx, ⟨vh, h2, h3⟩, h4, h5⟩ | ⟨hx, h2, h5⟩
  · obtain ⟨hva, hvn, hvc, rfl⟩ : ∃ va vn vc, vh = .slice va vn vc := by
      rcases h3.2 with ⟨h, _⟩ | ⟨g1, cap1, cur1, h, _⟩
      · exact ⟨_, _, _, h⟩
      · exact ⟨_, _, _, h⟩
    have hsz := h5.1.size
    have hgw := HGW.out
    have hg1 := HG.out
    have HX := hid hx
    have KH6 := hid ((hch.2 _ (Array.getElem?_eq_some_iff.1 h2).1 (by omega)).trans h2)
    have HVH6 := hid (own_ch h3 hch (fun e => by obtain ⟨_, cc, hcc⟩ := own_type h3 e; exact type_ne hcc h33 (by decide) rfl))
    have HSC6 := hid (h4.keep (hch.2 g (by omega) (by omega)))
    have H186 := hid ((hch.2 b18 (by omega) (by omega)).trans ((h5.2 b18 h18w (by have := HN18.out; omega)).trans H18.out))
    have HB6' := hid (show Below w.heap.size w w6 from ⟨hch.1.os.trans (h5.1.os.trans HB6.out.os), hch.1.tape.trans (h5.1.tape.trans HB6.out.tape), hch.1.output.trans (h5.1.output.trans HB6.out.output), Nat.le_trans HB6.out.size (Nat.le_trans hsz hch.1.size), fun k hk => (hch.2 k (by omega) (by omega)).trans ((h5.2 k (by omega) (by omega)).trans (HB6.out.block k hk))⟩)
    have HLL := hid (show p.1.length = l.length from h4.1)
    have HBO := hid (fun (W : World) (hB : Below w.heap.size w W) (hS : SceneAt W g 0 l.length p.1) => (bodies44_any (.slice sa l.length sc) p.1 W (hS.slB (cap := sc) HGA.out HLN.out) (by have := HLN.out; have := HLL.out; omega)).mono (fun e W' h => (show ∃ v', e = .returned v' ∧ W'.ownsRow w.heap.size 72 8 v' p.1.length (p.1.flatMap BodyD.cells) ∧ Below W.heap.size W W' from by obtain ⟨v', h1, h2, h3⟩ := h; exact ⟨v', h1, own_base h2 hB.size, h3⟩)))
    have HQ := hid (show ∀ W : World, W.heap[b18]? = some (.cells #[.slice sa l.length sc] 121 (0, 0)) → W.heap[w.heap.size + 1 + 1 + 1]? = some (.cells #[(.slice hva hvn hvc)] 75 (0, 0)) → W.cell? ⟨b18, 0, none⟩ = some (.slice sa l.length sc) ∧ W.cell? ⟨w.heap.size + 1 + 1 + 1, 0, none⟩ = some (.slice hva hvn hvc) from fun W h1 h2 => ⟨cellN h1 rfl, cellN h2 rfl⟩)
    have HB6 := HB6'
    have HN18 := hid HN18.out.2.1
    clear HB6' hx h2 h3 h4 h5 hch h33 hsz hgw hg1 hbw h18w HP3 HP4 HP5 HSC HG HGW H18
    go_upto_region 8 with fail
    refine wp_region_held_drew (S := (fun W => W.cell? ⟨b18, 0, none⟩ = some (.slice sa l.length sc) ∧ W.cell? ⟨w.heap.size + 1 + 1 + 1, 0, none⟩ = some (.slice hva hvn hvc))) (by kernel_rfl) (HQ.out _ H186.out KH6.out) (fun hH => ?_)
    obtain ⟨w7, hw7⟩ : ∃ w7, w7 = w6.drew := ⟨_, rfl⟩
    have HB7 := hid (show Below w.heap.size w w7 by rw [hw7]; exact HB6.out.drew)
    have HSC7 := hid (show SceneAt w7 g 0 l.length p.1 by rw [hw7]; exact HSC6.out)
    have H187 := hid (show w7.heap[b18]? = some (.cells #[.slice sa l.length sc] 121 (0, 0)) by rw [hw7]; exact H186.out)
    have KH7 := hid (show w7.heap[w.heap.size + 1 + 1 + 1]? = some (.cells #[(.slice hva hvn hvc)] 75 (0, 0)) by rw [hw7]; exact KH6.out)
    have HVH7 := hid (show w7.ownsRow w.heap.size 86 3 (.slice hva hvn hvc) p.2.length (p.2.flatMap HitD.cells) by rw [hw7]; exact HVH6.out)
    rw [← hw7] at hH ⊢
    clear hw7
    refine wpAnyH_take (i := 0) (oi := { dst := some 41, op := Go.Op.load 121 (Go.Operand.tmp 18), type := 121, pos := "contact.go:232", after := #[], guard := none }) (v := (.slice sa l.length sc)) rfl (by kernel_rfl) (by kernel_rfl) (by kernel_rfl) (fun _ _ _ h => h) (Or.inl ⟨by rfl, ?_⟩) hH ?_
    · intro w hSw
      (try dsimp only at hSw)
      go_simp
    (try simp only [Act.put, List.setIfInBounds_toArray, List.set_cons_zero, List.set_cons_succ])
    refine wpAnyH_take (i := 2) (oi := { dst := some 43, op := Go.Op.load 75 (Go.Operand.tmp 15), type := 75, pos := "contact.go:232", after := #[{ on := 3, ground := Go.Ground.gcOnly Go.Departure.lateStores }], guard := none }) (v := (.slice hva hvn hvc)) rfl (by kernel_rfl) (by kernel_rfl) (by kernel_rfl) (fun _ _ _ h => h) (Or.inl ⟨by rfl, ?_⟩) hH ?_
    · intro w hSw
      (try dsimp only at hSw)
      go_simp
    (try simp only [Act.put, List.setIfInBounds_toArray, List.set_cons_zero, List.set_cons_succ])
    refine wpAnyH_ready (rs := [1]) (by kernel_rfl) (by simp) ?_
    refine AllReadyH.cons rfl (fun K hK => ?_) AllReadyH.nil
    (try dsimp only at hH)
    go_simp
    refine (HBO.out _ HB7.out HSC7.out).mono ?_
    rintro e w8 ⟨vo, rfl, hvo, hb8⟩
    refine hK.out _ _ (HQ.out _ (carry H187.out hb8) (carry KH7.out hb8)) (fun hH1 => ?_)
    clear hK K
    have HVO := hid hvo
    have HB8 := hid (HB7.out.trans (hb8.mono HB7.out.size))
    have KH8 := hid (carry KH7.out hb8)
    have HVH8 := hid (own_below HVH7.out hb8)
    have H188 := hid (carry H187.out hb8)
    clear hb8 hvo
    (try simp only [Act.put, List.setIfInBounds_toArray, List.set_cons_zero, List.set_cons_succ])
    refine wpAnyH_take (i := 3) (oi := { dst := some 14, op := Go.Op.assign (Go.Operand.tmp 42), type := 74, pos := "contact.go:232", after := #[{ on := 1, ground := Go.Ground.data }, { on := 1, ground := Go.Ground.chain }, { on := 0, ground := Go.Ground.phase }, { on := 1, ground := Go.Ground.phase }, { on := 2, ground := Go.Ground.textOnly Go.Departure.lateStores }], guard := none }) (v := vo) rfl (by kernel_rfl) (by kernel_rfl) (by kernel_rfl) (fun _ _ _ h => h) (Or.inl ⟨by rfl, ?_⟩) hH1 ?_
    · intro w hSw
      (try dsimp only at hSw)
      go_simp
    (try simp only [Act.put, List.setIfInBounds_toArray, List.set_cons_zero, List.set_cons_succ])
    refine wpAnyH_ready (rs := [4]) (by kernel_rfl) (by simp) ?_
    refine AllReadyH.cons rfl (fun K hK => ?_) AllReadyH.nil
    (try dsimp only at hH1)
    have ch8 := cellN (i := 0) (v := (.slice hva hvn hvc)) KH8.out rfl
    have fh8 := frozN (i := 0) KH8.out
    go_simp
    refine hK.out _ _ (HQ.out _ ((heap_setCell_other _ ⟨w.heap.size + 1 + 1 + 1, 0, none⟩ b18 (.slice hva hvn hvc) HN18.out).trans H188.out) (put1_same (.slice hva hvn hvc) KH8.out)) (fun hH2 => ?_)
    clear hK K
    have hh9 := put1_same (.slice hva hvn hvc) KH8.out
    have hvo9 := own_cell HVO.out KH8.out (by decide) (.slice hva hvn hvc)
    have hvh9 := own_cell HVH8.out KH8.out (by decide) (.slice hva hvn hvc)
    have hb9 := HB8.out.setCell (p := ⟨w.heap.size + 1 + 1 + 1, 0, none⟩) (by show w.heap.size ≤ w.heap.size + 1 + 1 + 1; omega) (.slice hva hvn hvc)
    clear ch8 fh8
    generalize w8.setCell ⟨w.heap.size + 1 + 1 + 1, 0, none⟩ (.slice hva hvn hvc) = w9 at *
    (try simp only [Act.put, List.setIfInBounds_toArray, List.set_cons_zero, List.set_cons_succ])
    refine wpAnyH_take (i := 5) (oi := { dst := some 16, op := Go.Op.assign (Go.Operand.const (Go.Value.int Go.IntKind.i64 0)), type := 33, pos := "contact.go:232", after := #[{ on := 4, ground := Go.Ground.chain }, { on := 0, ground := Go.Ground.phase }, { on := 1, ground := Go.Ground.phase }, { on := 2, ground := Go.Ground.phase }, { on := 3, ground := Go.Ground.phase }, { on := 4, ground := Go.Ground.phase }], guard := none }) (v := (.int .i64 0)) rfl (by kernel_rfl) (by kernel_rfl) (by kernel_rfl) (fun _ _ _ h => h) (Or.inl ⟨by rfl, ?_⟩) hH2 ?_
    · intro w hSw
      (try dsimp only at hSw)
      go_simp
    (try simp only [Act.put, List.setIfInBounds_toArray, List.set_cons_zero, List.set_cons_succ])
    refine wpAnyH_done (by kernel_rfl) ?_ _
    have KH9 := hid hh9
    have HVO9 := hid hvo9
    have HVH9 := hid hvh9
    have HB9 := hid hb9
    clear hh9 hvo9 hvh9 hb9
    go_wp2_with fail
    exact bodyPost_ret (results_tct (a := 14) (p := 15) (u := 16) rfl _ w9 (w.heap.size + 1 + 1 + 1) (.slice hva hvn hvc) rfl KH9.out) rfl (TickX.ok HX.out HVO9.out HVH9.out HB9.out)
  · have hsz := h5.1.size
    have hgw := HGW.out
    have hg1 := HG.out
    have HX := hid hx
    have hc4 : c = 4 := tickS_four (HX1.out.trans hx)
    subst hc4
    have hh6 := (hch.2 _ (by omega) (by omega)).trans h2
    have HB6' := hid (show Below w.heap.size w w6 from ⟨hch.1.os.trans (h5.1.os.trans HB6.out.os), hch.1.tape.trans (h5.1.tape.trans HB6.out.tape), hch.1.output.trans (h5.1.output.trans HB6.out.output), Nat.le_trans HB6.out.size (Nat.le_trans hsz hch.1.size), fun k hk => (hch.2 k (by omega) (by omega)).trans ((h5.2 k (by omega) (by omega)).trans (HB6.out.block k hk))⟩)
    have KH6 := hid hh6
    have c4 := cellN (i := 0) (v := .slice none 0 0) hh6 rfl
    have f4 := frozN (i := 0) hh6
    clear hx h2 h5 hch hsz hgw hg1 hbw h18w hh6
    go_wp2_with fail
    have h6 := put1_same (.slice none 0 0) KH6.out
    have hb6 := HB6'.out.setCell (p := ⟨w.heap.size + 1 + 1 + 1, 0, none⟩) (by show w.heap.size ≤ w.heap.size + 1 + 1 + 1; omega) (.slice none 0 0)
    exact bodyPost_ret (results_tct (a := 14) (p := 15) (u := 16) rfl _ _ (w.heap.size + 1 + 1 + 1) (.slice none 0 0) rfl h6) rfl (TickX.err HX.out hb6)
end Go.Proofs.YtolnhicngepnnaaGreat
/- Arguments read from data: rinks, bodies. -/
namespace Go.Proofs.YtolnhicngepnnaaGreat
open Go.RowKit Go.ChangeShapes Go.WideShapes Go.Deep

theorem cells28 : Tryz.prog.cellsOf 28 = 2 := by kernel_rfl
theorem cells22 : Tryz.prog.cellsOf 22 = 1 := by kernel_rfl
theorem cells4 : Tryz.prog.cellsOf 4 = 1 := by kernel_rfl
theorem cells39 : Tryz.prog.cellsOf 39 = 5 := by kernel_rfl
theorem cells72 : Tryz.prog.cellsOf 72 = 8 := by kernel_rfl
theorem cells31 : Tryz.prog.cellsOf 31 = 7 := by kernel_rfl
theorem cells68 : Tryz.prog.cellsOf 68 = 1 := by kernel_rfl
theorem cells83 : Tryz.prog.cellsOf 83 = 3 := by kernel_rfl
theorem cells70 : Tryz.prog.cellsOf 70 = 15 := by kernel_rfl
theorem bytes72 : 1 ≤ Tryz.prog.bytesOf 72 := of_decide_eq_true (by kernel_rfl)
theorem bytes83 : 1 ≤ Tryz.prog.bytesOf 83 := of_decide_eq_true (by kernel_rfl)
section
variable {H : Type} {enc : TypeId × Value → H} {w : World}

/-- A slice of things of c cells. -/
theorem rd_list {α : Type} {ts te c : Nat} {f : α → List Value} {fuel : Nat} {cs : List Value} {x : DataW H × List MemPlace} (hts : Tryz.prog.underlying ts = some (.slice te)) (hC : Tryz.prog.cellsOf te = c) (hc0 : 0 < c) (hby : 1 ≤ Tryz.prog.bytesOf te) (hs : ∀ x, (f x).length = c)
    (hR : ∀ (n : Nat) (cs' : List Value) (y : DataW H × List MemPlace), DataW.trod enc Tryz.prog w 0 (fun _ => true) true n te cs' = some y → ∃ b, cs' = f b)
    (h : DataW.trod enc Tryz.prog w 0 (fun _ => true) true fuel ts cs = some x) (hw : ∀ k ∈ x.1.weights Tryz.prog ts, k ≤ reachBytes) (hlt : ∀ q ∈ x.2, q.block < w.heap.size) :
    ∃ (v : Value) (l : List α), cs = [v] ∧ SlV w v l.length (l.flatMap f) := by
  rcases open_slice hts h with ⟨rfl, rfl⟩ | ⟨a, len, cap, m, n, D, Pl, rfl, _, hl, hm, hmm, rfl, hi⟩
  · exact ⟨_, [], rfl, none, 0, rfl, by simp, .inl rfl⟩
  · simp only [if_true] at hmm
    subst hmm
    have hr : len ≤ 140737488351232 := by
      have := hw (((((List.range len).map D).length + ((List.range (m - len)).map fun j => D (len + j)).length)) * Tryz.prog.bytesOf te) (by simp [DataW.weights, hts])
      simp only [List.length_map, List.length_range, reachBytes] at this
      have h2 : len ≤ (len + (m - len)) * Tryz.prog.bytesOf te := Nat.le_trans (by omega) (Nat.le_mul_of_pos_right _ (by omega))
      omega
    by_cases h0 : len = 0
    · subst h0
      exact ⟨_, [], rfl, some a, m, rfl, by simp, .inl rfl⟩
    · have hcell : ∀ i, i < len → ∃ b : α, ∀ j, j < c → w.cell? (a.add (i * c + j)) = (f b)[j]? := by
        intro i hil
        obtain ⟨cs', hcs, ht⟩ := hi i (by omega)
        obtain ⟨_, hcl, hat⟩ := World.cells?_some hcs
        obtain ⟨b, rfl⟩ := hR _ _ _ ht
        refine ⟨b, fun j hj => ?_⟩
        have h2 := hat j (by rw [hC]; exact hj)
        rw [Go.Deep.add_add, hC] at h2
        exact h2
      obtain ⟨b0, hb0⟩ := hcell 0 (by omega)
      have hall : ∀ i, ∃ b : α, i < len → ∀ j, j < c → w.cell? (a.add (i * c + j)) = (f b)[j]? := fun i => by
        by_cases hil : i < len
        · obtain ⟨b, hb⟩ := hcell i hil
          exact ⟨b, fun _ => hb⟩
        · exact ⟨b0, fun h => absurd h hil⟩
      have hq : ∃ y, w.cell? (a.add 0) = some y := by
        have h1 := hb0 0 hc0
        rw [Nat.zero_mul, Nat.zero_add, List.getElem?_eq_getElem (by rw [hs]; exact hc0)] at h1
        exact ⟨_, h1⟩
      obtain ⟨y, hy⟩ := hq
      obtain ⟨b, off, rfl⟩ := addr_at hy
      obtain ⟨l, hl2⟩ : ∃ l, (List.range len).map (fun i => Classical.choose (hall i)) = l := ⟨_, rfl⟩
      have hL : l.length = len := by rw [← hl2]; simp
      have hget : ∀ i (h : i < l.length), l[i] = Classical.choose (hall i) := fun i h => by
        have h2 : l[i]? = some (Classical.choose (hall i)) := by rw [← hl2, List.getElem?_map, List.getElem?_range (by omega)]; rfl
        rw [List.getElem?_eq_getElem h] at h2
        exact Option.some.inj h2
      refine ⟨_, l, rfl, ?_⟩
      subst hL
      refine slv_rows (c := c) (g := fun i j => ((f (Classical.choose (hall i)))[j]?).getD undef) l hc0 hs rfl hr (fun i h j hj => ?_) (.inr ⟨b, off, rfl, ?_, fun i j hil hjc => ?_⟩)
      · rw [hget i h, List.getElem?_eq_getElem (by rw [hs]; exact hj)]; rfl
      · refine hlt (.cell b off) (List.mem_append_left _ (MemPlace.mem_row.2 ⟨0, ?_, by simp⟩))
        rw [hC]
        exact Nat.mul_pos (by omega) hc0
      · have h1 := Classical.choose_spec (hall i) hil j hjc
        rw [← add_plain]
        rw [h1, List.getElem?_eq_getElem (by rw [hs]; exact hjc)]; rfl
set_option maxRecDepth 100000 in
theorem rd_spotC {n : Nat} {cs : List Value} {y : DataW H × List MemPlace} (h : DataW.trod enc Tryz.prog w 0 (fun _ => true) true n 28 cs = some y) : ∃ a b : Int, cs = [.int .i64 a, .int .i64 b] := by
  obtain ⟨ys, m, -, -, hl, hyl, hfl⟩ := DataW.trod_struct Tryz.underlying28 h
  rw [cells28] at hl
  obtain ⟨a, b, rfl⟩ : ∃ a b, cs = [a, b] := by
    match cs, hl with
    | [a, b], _ => exact ⟨a, b, rfl⟩
  have hyl2 : ys.length = 2 := hyl
  have h0 : DataW.trod enc Tryz.prog w 0 (fun _ => true) true m 22 (List.take (Tryz.prog.cellsOf 22) [a, b]) = ys[0]? := hfl 0 _ rfl
  have h1 : DataW.trod enc Tryz.prog w 0 (fun _ => true) true m 22 (List.take (Tryz.prog.cellsOf 22) [b]) = ys[1]? := hfl 1 _ rfl
  rw [cells22] at h0 h1
  simp only [List.take_succ_cons, List.take_zero] at h0 h1
  obtain ⟨za, ha, -, -⟩ := DataW.trod_int Tryz.underlying22 (h0.trans (List.getElem?_eq_getElem (by omega)))
  obtain ⟨zb, hb, -, -⟩ := DataW.trod_int Tryz.underlying22 (h1.trans (List.getElem?_eq_getElem (by omega)))
  have ha' : a = .int .i64 za := by simpa using ha
  have hb' : b = .int .i64 zb := by simpa using hb
  exact ⟨za, zb, by rw [ha', hb']⟩
set_option maxRecDepth 100000 in
theorem rd_movC {n : Nat} {cs : List Value} {y : DataW H × List MemPlace} (h : DataW.trod enc Tryz.prog w 0 (fun _ => true) true n 39 cs = some y) : ∃ a b c d e : Int, cs = [.int .i64 a, .int .i64 b, .int .i64 c, .int .i64 d, .int .i64 e] := by
  obtain ⟨ys, m, -, -, hl, hyl, hfl⟩ := DataW.trod_struct Tryz.underlying39 h
  rw [cells39] at hl
  obtain ⟨a, b, c, d, e, rfl⟩ : ∃ a b c d e, cs = [a, b, c, d, e] := by
    match cs, hl with
    | [a, b, c, d, e], _ => exact ⟨a, b, c, d, e, rfl⟩
  have hyl2 : ys.length = 3 := hyl
  have h0 : DataW.trod enc Tryz.prog w 0 (fun _ => true) true m 28 (List.take (Tryz.prog.cellsOf 28) [a, b, c, d, e]) = ys[0]? := hfl 0 _ rfl
  have h1 : DataW.trod enc Tryz.prog w 0 (fun _ => true) true m 28 (List.take (Tryz.prog.cellsOf 28) [c, d, e]) = ys[1]? := hfl 1 _ rfl
  have h2 : DataW.trod enc Tryz.prog w 0 (fun _ => true) true m 3 (List.take (Tryz.prog.cellsOf 3) [e]) = ys[2]? := hfl 2 _ rfl
  rw [cells28] at h0 h1
  rw [cells3] at h2
  simp only [List.take_succ_cons, List.take_zero] at h0 h1 h2
  obtain ⟨z0, z1, e0⟩ := rd_spotC (h0.trans (List.getElem?_eq_getElem (by omega)))
  obtain ⟨z2, z3, e1⟩ := rd_spotC (h1.trans (List.getElem?_eq_getElem (by omega)))
  obtain ⟨z4, e2, -, -⟩ := DataW.trod_int Tryz.underlying3 (h2.trans (List.getElem?_eq_getElem (by omega)))
  simp only [List.cons.injEq, and_true] at e0 e1 e2
  exact ⟨z0, z1, z2, z3, z4, by rw [e0.1, e0.2, e1.1, e1.2, e2]⟩
set_option maxRecDepth 100000 in
theorem rd_bodyC {n : Nat} {cs : List Value} {y : DataW H × List MemPlace} (h : DataW.trod enc Tryz.prog w 0 (fun _ => true) true n 72 cs = some y) : ∃ b : BodyD, cs = b.cells := by
  obtain ⟨ys, m, -, -, hl, hyl, hfl⟩ := DataW.trod_struct Tryz.underlying72 h
  rw [cells72] at hl
  obtain ⟨a, b, c, d, e, f, g, i, rfl⟩ : ∃ a b c d e f g i, cs = [a, b, c, d, e, f, g, i] := by
    match cs, hl with
    | [a, b, c, d, e, f, g, i], _ => exact ⟨a, b, c, d, e, f, g, i, rfl⟩
  have hyl2 : ys.length = 4 := hyl
  have h0 : DataW.trod enc Tryz.prog w 0 (fun _ => true) true m 3 (List.take (Tryz.prog.cellsOf 3) [a, b, c, d, e, f, g, i]) = ys[0]? := hfl 0 _ rfl
  have h1 : DataW.trod enc Tryz.prog w 0 (fun _ => true) true m 3 (List.take (Tryz.prog.cellsOf 3) [b, c, d, e, f, g, i]) = ys[1]? := hfl 1 _ rfl
  have h2 : DataW.trod enc Tryz.prog w 0 (fun _ => true) true m 39 (List.take (Tryz.prog.cellsOf 39) [c, d, e, f, g, i]) = ys[2]? := hfl 2 _ rfl
  have h3 : DataW.trod enc Tryz.prog w 0 (fun _ => true) true m 4 (List.take (Tryz.prog.cellsOf 4) [i]) = ys[3]? := hfl 3 _ rfl
  rw [cells3] at h0 h1
  rw [cells39] at h2
  rw [cells4] at h3
  simp only [List.take_succ_cons, List.take_zero] at h0 h1 h2 h3
  obtain ⟨z0, e0, -, -⟩ := DataW.trod_int Tryz.underlying3 (h0.trans (List.getElem?_eq_getElem (by omega)))
  obtain ⟨z1, e1, -, -⟩ := DataW.trod_int Tryz.underlying3 (h1.trans (List.getElem?_eq_getElem (by omega)))
  obtain ⟨m0, m1, m2, m3, m4, e2⟩ := rd_movC (h2.trans (List.getElem?_eq_getElem (by omega)))
  obtain ⟨z3, e3, -⟩ := DataW.trod_bool Tryz.underlying4 (h3.trans (List.getElem?_eq_getElem (by omega)))
  simp only [List.cons.injEq, and_true] at e0 e1 e2 e3
  refine ⟨⟨z0, z1, ⟨m0, m1, m2, m3, m4⟩, z3⟩, ?_⟩
  rw [e0, e1, e2.1, e2.2.1, e2.2.2.1, e2.2.2.2.1, e2.2.2.2.2, e3]
  rfl
set_option maxRecDepth 100000 in
theorem rd_broomC {n : Nat} {cs : List Value} {y : DataW H × List MemPlace} (h : DataW.trod enc Tryz.prog w 0 (fun _ => true) true n 83 cs = some y) : ∃ b : Mach, cs = b.cells := by
  obtain ⟨ys, m, -, -, hl, hyl, hfl⟩ := DataW.trod_struct Tryz.underlying83 h
  rw [cells83] at hl
  obtain ⟨a, b, c, rfl⟩ : ∃ a b c, cs = [a, b, c] := by
    match cs, hl with
    | [a, b, c], _ => exact ⟨a, b, c, rfl⟩
  have hyl2 : ys.length = 3 := hyl
  have h0 : DataW.trod enc Tryz.prog w 0 (fun _ => true) true m 3 (List.take (Tryz.prog.cellsOf 3) [a, b, c]) = ys[0]? := hfl 0 _ rfl
  have h1 : DataW.trod enc Tryz.prog w 0 (fun _ => true) true m 3 (List.take (Tryz.prog.cellsOf 3) [b, c]) = ys[1]? := hfl 1 _ rfl
  have h2 : DataW.trod enc Tryz.prog w 0 (fun _ => true) true m 3 (List.take (Tryz.prog.cellsOf 3) [c]) = ys[2]? := hfl 2 _ rfl
  rw [cells3] at h0 h1 h2
  simp only [List.take_succ_cons, List.take_zero] at h0 h1 h2
  obtain ⟨z0, e0, -, -⟩ := DataW.trod_int Tryz.underlying3 (h0.trans (List.getElem?_eq_getElem (by omega)))
  obtain ⟨z1, e1, -, -⟩ := DataW.trod_int Tryz.underlying3 (h1.trans (List.getElem?_eq_getElem (by omega)))
  obtain ⟨z2, e2, -, -⟩ := DataW.trod_int Tryz.underlying3 (h2.trans (List.getElem?_eq_getElem (by omega)))
  simp only [List.cons.injEq, and_true] at e0 e1 e2
  exact ⟨⟨z0, z1, z2⟩, by rw [e0, e1, e2]; rfl⟩
set_option maxRecDepth 100000 in
theorem rd_grainC {n : Nat} {cs : List Value} {y : DataW H × List MemPlace} (h : DataW.trod enc Tryz.prog w 0 (fun _ => true) true n 24 cs = some y) : ∃ g : GrainD, cs = [.int .i64 g.fl, .int .i64 g.kn, .int .i64 g.a, .int .i64 g.b, .int .i64 g.c] := by
  obtain ⟨ys, m, -, -, hl, hyl, hfl⟩ := DataW.trod_struct Tryz.underlying24 h
  rw [cells24] at hl
  obtain ⟨a, b, c, d, e, rfl⟩ : ∃ a b c d e, cs = [a, b, c, d, e] := by
    match cs, hl with
    | [a, b, c, d, e], _ => exact ⟨a, b, c, d, e, rfl⟩
  have hyl2 : ys.length = 5 := hyl
  have h0 : DataW.trod enc Tryz.prog w 0 (fun _ => true) true m 22 (List.take (Tryz.prog.cellsOf 22) [a, b, c, d, e]) = ys[0]? := hfl 0 _ rfl
  have h1 : DataW.trod enc Tryz.prog w 0 (fun _ => true) true m 22 (List.take (Tryz.prog.cellsOf 22) [b, c, d, e]) = ys[1]? := hfl 1 _ rfl
  have h2 : DataW.trod enc Tryz.prog w 0 (fun _ => true) true m 3 (List.take (Tryz.prog.cellsOf 3) [c, d, e]) = ys[2]? := hfl 2 _ rfl
  have h3 : DataW.trod enc Tryz.prog w 0 (fun _ => true) true m 3 (List.take (Tryz.prog.cellsOf 3) [d, e]) = ys[3]? := hfl 3 _ rfl
  have h4 : DataW.trod enc Tryz.prog w 0 (fun _ => true) true m 3 (List.take (Tryz.prog.cellsOf 3) [e]) = ys[4]? := hfl 4 _ rfl
  rw [cells22] at h0 h1
  rw [cells3] at h2 h3 h4
  simp only [List.take_succ_cons, List.take_zero] at h0 h1 h2 h3 h4
  obtain ⟨z0, e0, -, -⟩ := DataW.trod_int Tryz.underlying22 (h0.trans (List.getElem?_eq_getElem (by omega)))
  obtain ⟨z1, e1, -, -⟩ := DataW.trod_int Tryz.underlying22 (h1.trans (List.getElem?_eq_getElem (by omega)))
  obtain ⟨z2, e2, -, -⟩ := DataW.trod_int Tryz.underlying3 (h2.trans (List.getElem?_eq_getElem (by omega)))
  obtain ⟨z3, e3, -, -⟩ := DataW.trod_int Tryz.underlying3 (h3.trans (List.getElem?_eq_getElem (by omega)))
  obtain ⟨z4, e4, -, -⟩ := DataW.trod_int Tryz.underlying3 (h4.trans (List.getElem?_eq_getElem (by omega)))
  simp only [List.cons.injEq, and_true] at e0 e1 e2 e3 e4
  exact ⟨⟨z0, z1, z2, z3, z4⟩, by rw [e0, e1, e2, e3, e4]⟩
set_option maxRecDepth 100000 in
theorem rd_iceC {n : Nat} {cs : List Value} {y : DataW H × List MemPlace} (h : DataW.trod enc Tryz.prog w 0 (fun _ => true) true n 31 cs = some y) (hw : ∀ k ∈ y.1.weights Tryz.prog 31, k ≤ reachBytes) (hlt : ∀ q ∈ y.2, q.block < w.heap.size) :
    ∃ (i : IceD) (pv qv : Value), cs = [.int .i64 i.cx, .int .i64 i.cy, .int .i64 i.sd, .int .i64 i.W, .int .i64 i.H, pv, qv] ∧ IceAt w i pv qv := by
  obtain ⟨ys, m, -, hx, hl, hyl, hfl⟩ := DataW.trod_struct Tryz.underlying31 h
  rw [cells31] at hl
  obtain ⟨a, b, c, d, e, f, g, rfl⟩ : ∃ a b c d e f g, cs = [a, b, c, d, e, f, g] := by
    match cs, hl with
    | [a, b, c, d, e, f, g], _ => exact ⟨a, b, c, d, e, f, g, rfl⟩
  have hyl2 : ys.length = 6 := hyl
  obtain ⟨y0, y1, y2, y3, y4, y5, rfl⟩ : ∃ y0 y1 y2 y3 y4 y5, ys = [y0, y1, y2, y3, y4, y5] := by
    match ys, hyl2 with
    | [a, b, c, d, e, f], _ => exact ⟨a, b, c, d, e, f, rfl⟩
  have h0 : DataW.trod enc Tryz.prog w 0 (fun _ => true) true m 28 (List.take (Tryz.prog.cellsOf 28) [a, b, c, d, e, f, g]) = some y0 := hfl 0 _ rfl
  have h1 : DataW.trod enc Tryz.prog w 0 (fun _ => true) true m 22 (List.take (Tryz.prog.cellsOf 22) [c, d, e, f, g]) = some y1 := hfl 1 _ rfl
  have h2 : DataW.trod enc Tryz.prog w 0 (fun _ => true) true m 3 (List.take (Tryz.prog.cellsOf 3) [d, e, f, g]) = some y2 := hfl 2 _ rfl
  have h3 : DataW.trod enc Tryz.prog w 0 (fun _ => true) true m 3 (List.take (Tryz.prog.cellsOf 3) [e, f, g]) = some y3 := hfl 3 _ rfl
  have h4 : DataW.trod enc Tryz.prog w 0 (fun _ => true) true m 29 (List.take (Tryz.prog.cellsOf 29) [f, g]) = some y4 := hfl 4 _ rfl
  have h5 : DataW.trod enc Tryz.prog w 0 (fun _ => true) true m 29 (List.take (Tryz.prog.cellsOf 29) [g]) = some y5 := hfl 5 _ rfl
  rw [cells28] at h0
  rw [cells22] at h1
  rw [cells3] at h2 h3
  rw [cells29] at h4 h5
  simp only [List.take_succ_cons, List.take_zero] at h0 h1 h2 h3 h4 h5
  subst hx
  have hwt : ∀ k, k ∈ y4.1.weights Tryz.prog 29 ∨ k ∈ y5.1.weights Tryz.prog 29 → k ≤ reachBytes := fun k hk => hw k (by
    simp only [List.map_cons, List.map_nil, DataW.weights, Tryz.underlying31, DataW.weightsEach, List.append_nil, List.mem_append]
    rcases hk with hk | hk
    · exact .inr (.inr (.inr (.inr (.inl hk))))
    · exact .inr (.inr (.inr (.inr (.inr hk)))))
  have hlt2 : ∀ q, q ∈ y4.2 ∨ q ∈ y5.2 → q.block < w.heap.size := fun q hq => hlt q (by
    simp only [List.flatMap_cons, List.flatMap_nil, List.append_nil, List.mem_append]
    rcases hq with hq | hq
    · exact .inr (.inr (.inr (.inr (.inl hq))))
    · exact .inr (.inr (.inr (.inr (.inr hq)))))
  obtain ⟨z0, z1, e0⟩ := rd_spotC h0
  obtain ⟨z2, e1, -, -⟩ := DataW.trod_int Tryz.underlying22 h1
  obtain ⟨z3, e2, -, -⟩ := DataW.trod_int Tryz.underlying3 h2
  obtain ⟨z4, e3, -, -⟩ := DataW.trod_int Tryz.underlying3 h3
  obtain ⟨v4, l4, e4, s4⟩ := rd_ints h4 (fun k hk => hwt k (.inl hk)) (fun q hq => hlt2 q (.inl hq))
  obtain ⟨v5, l5, e5, s5⟩ := rd_ints h5 (fun k hk => hwt k (.inr hk)) (fun q hq => hlt2 q (.inr hq))
  simp only [List.cons.injEq, and_true] at e0 e1 e2 e3 e4 e5
  exact ⟨⟨z0, z1, z2, z3, z4, l4, l5⟩, v4, v5, by rw [e0.1, e0.2, e1, e2, e3, e4, e5], s4, s5⟩
set_option maxRecDepth 100000 in
theorem rd_rink {r : Reach} {b0 : Nat} {v : Value} {d : DataW H} {ps : List MemPlace} (h : DataW.Trod enc Tryz.prog w 0 (fun _ => true) true 70 v d ps) (hv : Value.okWide Tryz.prog w r b0 70 v) (hw : ∀ k ∈ d.weights Tryz.prog 70, k ≤ reachBytes) (hlt : ∀ q ∈ ps, q.block < w.heap.size) :
    ∃ (x : RinkD) (pv qv bv : Value), v = .agg (x.arr pv qv bv) ∧ RinkAt w x pv qv bv := by
  obtain ⟨cs, rfl, hsz⟩ := okWide_struct Tryz.underlying70 hv
  obtain ⟨fuel, hf⟩ := h
  have hf2 : DataW.trod enc Tryz.prog w 0 (fun _ => true) true fuel 70 cs.toList = some (d, ps) := hf
  obtain ⟨ys, m, -, hx, hl, hyl, hfl⟩ := DataW.trod_struct Tryz.underlying70 hf2
  rw [cells70] at hl
  obtain ⟨l⟩ := cs
  simp only at hl
  obtain ⟨a0, a1, a2, a3, a4, a5, a6, a7, a8, a9, a10, a11, a12, a13, a14, rfl⟩ : ∃ a0 a1 a2 a3 a4 a5 a6 a7 a8 a9 a10 a11 a12 a13 a14, l = [a0, a1, a2, a3, a4, a5, a6, a7, a8, a9, a10, a11, a12, a13, a14] := by
    match l, hl with
    | [a0, a1, a2, a3, a4, a5, a6, a7, a8, a9, a10, a11, a12, a13, a14], _ => exact ⟨_, _, _, _, _, _, _, _, _, _, _, _, _, _, _, rfl⟩
  have hyl2 : ys.length = 5 := hyl
  obtain ⟨y0, y1, y2, y3, y4, rfl⟩ : ∃ y0 y1 y2 y3 y4, ys = [y0, y1, y2, y3, y4] := by
    match ys, hyl2 with
    | [a, b, c, d, e], _ => exact ⟨a, b, c, d, e, rfl⟩
  have h0 : DataW.trod enc Tryz.prog w 0 (fun _ => true) true m 31 (List.take (Tryz.prog.cellsOf 31) [a0, a1, a2, a3, a4, a5, a6, a7, a8, a9, a10, a11, a12, a13, a14]) = some y0 := hfl 0 _ rfl
  have h1 : DataW.trod enc Tryz.prog w 0 (fun _ => true) true m 24 (List.take (Tryz.prog.cellsOf 24) [a7, a8, a9, a10, a11, a12, a13, a14]) = some y1 := hfl 1 _ rfl
  have h2 : DataW.trod enc Tryz.prog w 0 (fun _ => true) true m 68 (List.take (Tryz.prog.cellsOf 68) [a12, a13, a14]) = some y2 := hfl 2 _ rfl
  have h3 : DataW.trod enc Tryz.prog w 0 (fun _ => true) true m 3 (List.take (Tryz.prog.cellsOf 3) [a13, a14]) = some y3 := hfl 3 _ rfl
  have h4 : DataW.trod enc Tryz.prog w 0 (fun _ => true) true m 3 (List.take (Tryz.prog.cellsOf 3) [a14]) = some y4 := hfl 4 _ rfl
  rw [cells31] at h0
  rw [cells24] at h1
  rw [cells68] at h2
  rw [cells3] at h3 h4
  simp only [List.take_succ_cons, List.take_zero] at h0 h1 h2 h3 h4
  have hd : d = .agg ([y0, y1, y2, y3, y4].map (·.1)) ∧ ps = [y0, y1, y2, y3, y4].flatMap (·.2) := by cases hx; exact ⟨rfl, rfl⟩
  obtain ⟨rfl, rfl⟩ := hd
  have hwt : ∀ k, k ∈ y0.1.weights Tryz.prog 31 ∨ k ∈ y2.1.weights Tryz.prog 68 → k ≤ reachBytes := fun k hk => hw k (by
    simp only [List.map_cons, List.map_nil, DataW.weights, Tryz.underlying70, DataW.weightsEach, List.append_nil, List.mem_append]
    rcases hk with hk | hk
    · exact .inl hk
    · exact .inr (.inr (.inl hk)))
  have hlt2 : ∀ q, q ∈ y0.2 ∨ q ∈ y2.2 → q.block < w.heap.size := fun q hq => hlt q (by
    simp only [List.flatMap_cons, List.flatMap_nil, List.append_nil, List.mem_append]
    rcases hq with hq | hq
    · exact .inl hq
    · exact .inr (.inr (.inl hq)))
  obtain ⟨i, pv, qv, e0, s0⟩ := rd_iceC h0 (fun k hk => hwt k (.inl hk)) (fun q hq => hlt2 q (.inl hq))
  obtain ⟨g, e1⟩ := rd_grainC h1
  obtain ⟨bv, bl, e2, s2⟩ := rd_list (f := Mach.cells) (c := 3) Tryz.underlying68 cells83 (by decide) bytes83 (fun _ => rfl) (fun n cs' y hh => rd_broomC hh) h2 (fun k hk => hwt k (.inr hk)) (fun q hq => hlt2 q (.inr hq))
  obtain ⟨z3, e3, -, -⟩ := DataW.trod_int Tryz.underlying3 h3
  obtain ⟨z4, e4, -, -⟩ := DataW.trod_int Tryz.underlying3 h4
  simp only [List.cons.injEq, and_true] at e0 e1 e2 e3 e4
  obtain ⟨rfl, rfl, rfl, rfl, rfl, rfl, rfl⟩ := e0
  obtain ⟨rfl, rfl, rfl, rfl, rfl⟩ := e1
  subst e2 e3 e4
  exact ⟨⟨i, g, bl, z3, z4⟩, _, _, _, rfl, s0, s2⟩
set_option maxRecDepth 100000 in
theorem rd_body {r : Reach} {b0 : Nat} {v : Value} {d : DataW H} {ps : List MemPlace} (h : DataW.Trod enc Tryz.prog w 0 (fun _ => true) true 72 v d ps) (hv : Value.okWide Tryz.prog w r b0 72 v) : ∃ b : BodyD, v = b.v := by
  obtain ⟨cs, rfl, hsz⟩ := okWide_struct Tryz.underlying72 hv
  obtain ⟨fuel, hf⟩ := h
  obtain ⟨b, hb⟩ := rd_bodyC (cs := cs.toList) hf
  refine ⟨b, ?_⟩
  obtain ⟨l⟩ := cs
  simp only at hb
  subst hb
  rfl
set_option maxRecDepth 100000 in
theorem rd_bodies {r : Reach} {b0 : Nat} {v : Value} {d : DataW H} {ps : List MemPlace} (h : DataW.Trod enc Tryz.prog w 0 (fun _ => true) true 74 v d ps) (hv : Value.okWide Tryz.prog w r b0 74 v) (hw : ∀ k ∈ d.weights Tryz.prog 74, k ≤ reachBytes) (hlt : ∀ q ∈ ps, q.block < w.heap.size) : ∃ l, SlB w v l := by
  obtain ⟨a, len, cap, rfl⟩ := okWide_slice Tryz.underlying74 hv
  obtain ⟨fuel, hf⟩ := h
  obtain ⟨v, l, e, hs⟩ := rd_list (f := BodyD.cells) (c := 8) Tryz.underlying74 cells72 (by decide) bytes72 (fun _ => rfl) (fun n cs' y hh => rd_bodyC hh) hf hw hlt
  simp only [Value.cells, List.cons.injEq, and_true] at e
  subst e
  exact ⟨l, hs⟩
set_option maxRecDepth 100000 in
theorem rd_int3 {r : Reach} {b0 : Nat} {v : Value} {d : DataW H} {ps : List MemPlace} (h : DataW.Trod enc Tryz.prog w 0 (fun _ => true) true 3 v d ps) (hv : Value.okWide Tryz.prog w r b0 3 v) : ∃ n : Int, v = .int .i64 n := by
  obtain ⟨n, rfl, -, -, -⟩ := open_int Tryz.underlying3 hv h
  exact ⟨n, rfl⟩
set_option maxRecDepth 100000 in
theorem rd_u8 {r : Reach} {b0 : Nat} {v : Value} {d : DataW H} {ps : List MemPlace} (h : DataW.Trod enc Tryz.prog w 0 (fun _ => true) true 5 v d ps) (hv : Value.okWide Tryz.prog w r b0 5 v) : ∃ n : Nat, v = .int .u8 (n : Int) ∧ n < 256 := by
  obtain ⟨n, rfl, -, -, hw⟩ := open_int Tryz.underlying5 hv h
  have hb : 0 ≤ n ∧ n < 256 := by
    simp only [Lit.wf, IntKind.min, IntKind.max, IntKind.signed, IntKind.bits, Bool.and_eq_true] at hw
    simp at hw
    omega
  exact ⟨n.toNat, by rw [show (n.toNat : Int) = n by omega], by omega⟩
end
end Go.Proofs.YtolnhicngepnnaaGreat
