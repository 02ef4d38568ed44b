/- TopPairs: the plain law. -/
import Derived.Test.YtolnhicngepnnaaGreatX3
namespace Go.Proofs.YtolnhicngepnnaaGreat
open Go.RowKit

theorem bNames_out : ∀ (l : List BodyD) (k : List (Int × Int)), bNames l k = true → ∀ b ∈ l, outOk b = true
  | [], _, _, b, hb => by simp at hb
  | x :: l, k, h, b, hb => by
    simp only [bNames, Bool.and_eq_true] at h
    rcases List.mem_cons.1 hb with rfl | hb
    · exact h.1.2
    · exact bNames_out l _ h.2 b hb
theorem sceneOk_one {l : List BodyD} {b : BodyD} (h : sceneOk l = true) (hb : b ∈ l) : sceneOk [b] = true := by
  simp only [sceneOk, Bool.and_eq_true] at h
  have h1 := bNames_ok l [] h.2 b hb
  have h2 := bNames_out l [] h.2 b hb
  simp [sceneOk, bNames, h1, h2]
theorem oneT_who {r : RinkD} {t : Int} {k : Nat} {b : BodyD} : oneT { r with who := if r.who = (k : Int) then 0 else -1 } t 0 b = oneT r t k b := by
  have h : powR { r with who := if r.who = (k : Int) then 0 else -1 } t 0 = powR r t k := by
    unfold powR
    by_cases e : r.who = (k : Int)
    · simp [e]
    · simp only [if_neg e]
      rw [if_neg (by simp), if_neg (fun h => e h.symm)]
  unfold oneT
  rw [h]
theorem solo {r : RinkD} {t : Int} {b b1 : BodyD} (hr : rinkOk r [b] = true) (ht : inB t 0 6000 = true) (h1 : oneT r t 0 b = .ok b1) (ho : outB b1 = b1) : tickA r [b] t = .ok ([b1], []) := by
  have hp : passTo r.el t [b1] 8 = .ok ⟨[b1], false, []⟩ := passTo_stop (k := 1) rfl rfl 8 (by omega)
  unfold tickA
  rw [hr, ht]
  simp only [Bool.and_self, if_true]
  have hg : glideTo r t [b] [b].length = .ok [b1] := by
    show glideStep r t 0 (.ok [b]) = _
    simp only [glideStep, List.getElem?_cons_zero, h1, setOk, List.set_cons_zero]
  unfold tickS
  rw [hg]
  simp only [tickP, hp, afterS, List.map_cons, List.map_nil, ho]
/-- Two bodies whose place is known, and the sum of whose speeds is. -/
def Cons (a b : BodyD) (s : List BodyD) : Prop :=
  ∃ x y, s = [x, y] ∧ (x.out = a.out ∧ x.m.x = a.m.x ∧ x.m.y = a.m.y) ∧ (y.out = b.out ∧ y.m.x = b.m.x ∧ y.m.y = b.m.y) ∧ x.m.vx + y.m.vx = a.m.vx + b.m.vx ∧ x.m.vy + y.m.vy = a.m.vy + b.m.vy
theorem pairS_cons {el t : Int} {i j : Nat} {a b : BodyD} {st q : RS} (hij : i < j) (hs : Cons a b st.s) (h : pairS el t i j st = .ok q) : Cons a b q.s := by
  obtain ⟨x, y, hxy, h1, h2, h3, h4⟩ := hs
  by_cases hj : j = 1
  · obtain rfl : i = 0 := by omega
    subst hj
    simp only [pairS, hxy, List.getElem?_cons_zero, List.getElem?_cons_succ] at h
    split at h
    · cases hm : meetR el x y with
      | error c => rw [hm] at h; simp [pairM] at h
      | ok o =>
        rw [hm] at h
        cases o with
        | none => simp only [pairM, Except.ok.injEq] at h; subst h; exact ⟨x, y, hxy, h1, h2, h3, h4⟩
        | some p =>
          obtain ⟨rfl, -, -⟩ := meetR_ok hm
          simp only [pairM, Except.ok.injEq] at h
          subst h
          refine ⟨meetA el x y, meetB el x y, by rw [hxy]; rfl, h1, h2, ?_, ?_⟩
          · show x.m.vx - pushX el x y + (y.m.vx + pushX el x y) = _
            omega
          · show x.m.vy - pushY el x y + (y.m.vy + pushY el x y) = _
            omega
    · simp only [Except.ok.injEq] at h; subst h; exact ⟨x, y, hxy, h1, h2, h3, h4⟩
  · have hn : st.s[j]? = none ∨ j = 0 := by
      rw [hxy]
      match j, hj with
      | 0, _ => exact .inr rfl
      | k + 2, _ => exact .inl (by simp)
    rcases hn with hn | hn
    · unfold pairS at h
      rw [hn] at h
      have : q = st := by
        cases hh : st.s[i]? <;> rw [hh] at h <;> simpa using h.symm
      subst this; exact ⟨x, y, hxy, h1, h2, h3, h4⟩
    · omega
theorem innTo_cons {el t : Int} {i : Nat} {a b : BodyD} {st : RS} (hs : Cons a b st.s) : ∀ {n : Nat} {q : RS}, innTo el t i st n = .ok q → Cons a b q.s
  | 0, q, h => by simp only [innTo, Except.ok.injEq] at h; subst h; exact hs
  | n + 1, q, h => by
    obtain ⟨p, h1, h2⟩ := thenR_ok h
    exact pairS_cons (by omega) (innTo_cons hs h1) h2
theorem outTo_cons {el t : Int} {N : Nat} {a b : BodyD} {st : RS} (hs : Cons a b st.s) : ∀ {n : Nat} {q : RS}, outTo el t N st n = .ok q → Cons a b q.s
  | 0, q, h => by simp only [outTo, Except.ok.injEq] at h; subst h; exact hs
  | n + 1, q, h => by
    obtain ⟨p, h1, h2⟩ := thenR_ok h
    exact innTo_cons (outTo_cons hs h1) h2
theorem passTo_cons {el t : Int} {a b : BodyD} {s : List BodyD} (hs : Cons a b s) : ∀ {n : Nat} {q : RS}, passTo el t s n = .ok q → Cons a b q.s
  | 0, q, h => by simp only [passTo, Except.ok.injEq] at h; subst h; exact hs
  | n + 1, q, h => by
    obtain ⟨p, h1, h2⟩ := thenR_ok h
    have h3 := passTo_cons hs h1
    unfold passS at h2
    split at h2
    · exact outTo_cons (st := ⟨p.s, false, p.hits⟩) h3 h2
    · simp only [Except.ok.injEq] at h2; subst h2; exact h3
theorem outB_in {x : BodyD} (h : (outB x).out = false) : outB x = x ∧ x.out = false ∧ goneM x.m = false := by
  unfold outB at h ⊢
  split at h
  · simp at h
  · rename_i h1
    rw [if_neg h1]
    refine ⟨rfl, h, ?_⟩
    rw [h] at h1
    simpa using h1
theorem outB_same {x a : BodyD} (h : (outB x).out = false) (h1 : x.out = a.out ∧ x.m.x = a.m.x ∧ x.m.y = a.m.y) : outB a = a := by
  obtain ⟨_, h2, h3⟩ := outB_in h
  have h4 : goneM a.m = false := by unfold goneM at h3 ⊢; rw [← h1.2.1, ← h1.2.2]; exact h3
  unfold outB
  rw [if_neg (by rw [h4]; simp)]
/-- The law of TopPairs. -/
theorem pairs_law {r : RinkD} {a b x y : BodyD} {t : Int} {hs : List HitD} (h : tickA r [a, b] t = .ok ([x, y], hs)) (hx : x.out = false) (hy : y.out = false) :
    ∃ a1 b1 : BodyD, tickA { r with who := if r.who = ((0 : Nat) : Int) then 0 else -1 } [a] t = .ok ([a1], []) ∧ tickA { r with who := if r.who = ((1 : Nat) : Int) then 0 else -1 } [b] t = .ok ([b1], []) ∧
      (x.m.x = a1.m.x ∧ x.m.y = a1.m.y) ∧ (y.m.x = b1.m.x ∧ y.m.y = b1.m.y) ∧ x.m.vx + y.m.vx = a1.m.vx + b1.m.vx ∧ x.m.vy + y.m.vy = a1.m.vy + b1.m.vy ∧ (x.m.ok = true ∧ y.m.ok = true) ∧ a1.m.ok = true ∧ b1.m.ok = true := by
  unfold tickA at h
  split at h
  · rename_i hok
    simp only [Bool.and_eq_true] at hok
    obtain ⟨hrk, ht⟩ := hok
    have hrr := rinkOk_ok hrk
    have hlk := tickS_like hrr.2.2.2.2.1 h
    have hxo : x.m.ok = true := hlk.2.1 x (by simp)
    have hyo : y.m.ok = true := hlk.2.1 y (by simp)
    have hao : a.m.ok = true := hrr.2.2.2.2.1 a (by simp)
    have hbo : b.m.ok = true := hrr.2.2.2.2.1 b (by simp)
    unfold tickS at h
    have hgl : glideTo r t [a, b] [a, b].length = glideStep r t 1 (glideStep r t 0 (.ok [a, b])) := rfl
    rw [hgl] at h
    simp only [glideStep, List.getElem?_cons_zero] at h
    cases ha : oneT r t 0 a with
    | error c => rw [ha] at h; simp [setOk, tickP] at h
    | ok a1 =>
      rw [ha] at h
      simp only [setOk, List.set_cons_zero, List.getElem?_cons_succ, List.getElem?_cons_zero] at h
      cases hb : oneT r t 1 b with
      | error c => rw [hb] at h; simp [tickP] at h
      | ok b1 =>
        rw [hb] at h
        simp only [List.set_cons_succ, List.set_cons_zero, tickP] at h
        cases hp : passTo r.el t [a1, b1] 8 with
        | error c => rw [hp] at h; simp [afterS] at h
        | ok q =>
          rw [hp] at h
          simp only [afterS, Except.ok.injEq, Prod.mk.injEq] at h
          obtain ⟨x8, y8, hq, h1, h2, h3, h4⟩ := passTo_cons (a := a1) (b := b1) ⟨a1, b1, rfl, ⟨rfl, rfl, rfl⟩, ⟨rfl, rfl, rfl⟩, rfl, rfl⟩ hp
          rw [hq] at h
          simp only [List.map_cons, List.map_nil, List.cons.injEq, and_true] at h
          obtain ⟨⟨rfl, rfl⟩, rfl⟩ := h
          have e1 := outB_same hx h1
          have e2 := outB_same hy h2
          have f1 := (outB_in hx).1
          have f2 := (outB_in hy).1
          rw [f1] at hxo
          rw [f2] at hyo
          rw [f1, f2]
          have hso : sceneOk [a, b] = true := by
            simp only [rinkOk, Bool.and_eq_true] at hrk; exact hrk.2.2.1
          have hrk1 : ∀ c ∈ [a, b], ∀ k : Int, rinkOk { r with who := if r.who = k then 0 else -1 } [c] = true := by
            intro c hc k
            have h5 := sceneOk_one hso hc
            simp only [rinkOk, Bool.and_eq_true] at hrk ⊢
            refine ⟨hrk.1, hrk.2.1, h5, hrk.2.2.2.1, ?_, hrk.2.2.2.2.2⟩
            split <;> simp [inB]
          refine ⟨a1, b1, solo (hrk1 a (by simp) _) ht (by rw [oneT_who]; exact ha) e1, solo (hrk1 b (by simp) _) ht (by rw [oneT_who]; exact hb) e2, h1.2, h2.2, h3, h4, ⟨hxo, hyo⟩, (oneT_like hao ha).1, (oneT_like hbo hb).1⟩
  · simp at h
end Go.Proofs.YtolnhicngepnnaaGreat
/- besomtop.TopPairs, walked. -/
namespace Go.Proofs.YtolnhicngepnnaaGreat
open Go.RowKit

theorem rows_of_own {w : World} {base : Nat} {t : TypeId} {v : Value} {l : List BodyD} (h : w.ownsRow base t 8 v l.length (l.flatMap BodyD.cells)) (hl : 0 < l.length) :
    ∃ g cap cur, v = .slice (some ⟨g, 0, none⟩) l.length cap ∧ base ≤ g ∧ w.heap[g]? = some (.cells cur t (0, 0)) ∧ ∀ k b, l[k]? = some b → RowB cur (k * 8) b := by
  rcases h.2 with ⟨rfl, h0⟩ | ⟨g, cap, cur, rfl, hb, hg, _, _, _, hx⟩
  · omega
  · refine ⟨g, cap, cur, rfl, hb, hg, fun k b hk c hc => ?_⟩
    obtain ⟨h1, h2⟩ := List.getElem?_eq_some_iff.1 hk
    have h3 := body_get l k h1 c hc
    rw [← hx, List.getElem?_take_of_lt (by omega), Array.getElem?_toList] at h3
    rw [h2] at h3
    exact h3
theorem own_slice {w : World} {base n sz : Nat} {t : TypeId} {v : Value} {xs : List Value} (h : w.ownsRow base t sz v n xs) : ∃ a cap, v = .slice a n cap := by
  rcases h.2 with ⟨rfl, rfl⟩ | ⟨g, cap, cur, rfl, _⟩
  · exact ⟨_, _, rfl⟩
  · exact ⟨_, _, rfl⟩
theorem tickA_err {r : RinkD} {l : List BodyD} {t c : Int} (h : tickA r l t = .error c) : c = 2 ∨ c = 4 := by
  unfold tickA at h
  split at h
  · exact .inr (tickS_four h)
  · left; simpa using h.symm
theorem tickA_len {r : RinkD} {l : List BodyD} {t : Int} {p : List BodyD × List HitD} (h : tickA r l t = .ok p) : p.1.length = l.length := by
  unfold tickA at h
  split at h
  · rename_i hok
    simp only [Bool.and_eq_true] at hok
    exact (tickS_like (rinkOk_ok hok.1).2.2.2.2.1 h).1
  · simp at h
theorem slB_at {w : World} {g o n cap : Nat} {cur : Array Value} {t : TypeId} {l : List BodyD} (h : w.heap[g]? = some (.cells cur t (0, 0))) (hn : n = l.length) (hl : l.length ≤ 16) (hr : ∀ k b, l[k]? = some b → RowB cur (o + k * 8) b) : SlB w (.slice (some ⟨g, o, none⟩) n cap) l := by
  refine ⟨_, cap, by rw [hn], by omega, ?_⟩
  right
  refine ⟨g, o, rfl, (Array.getElem?_eq_some_iff.1 h).1, fun i hi => ?_⟩
  have hlen : (l.flatMap BodyD.cells).length = l.length * 8 := by
    clear hr hl hi hn
    induction l with
    | nil => rfl
    | cons b s ih => rw [List.flatMap_cons, List.length_append, ih]; simp [BodyD.cells]; omega
  have hk : i / 8 < l.length := by omega
  have hr8 := hr (i / 8) l[i / 8] (List.getElem?_eq_getElem hk) (i % 8) (by omega)
  have hb := body_get l (i / 8) hk (i % 8) (by omega)
  rw [← hb] at hr8
  rw [show o + i / 8 * 8 + i % 8 = o + i by omega, show i / 8 * 8 + i % 8 = i by omega] at hr8
  rw [World.cell?]
  simp only [h]
  rw [List.getElem?_eq_getElem hi] at hr8
  simpa using hr8
theorem slB_one {w : World} {g o cap : Nat} {cur : Array Value} {t : TypeId} {a : BodyD} (h : w.heap[g]? = some (.cells cur t (0, 0))) (h0 : RowB cur o a) : SlB w (.slice (some ⟨g, o, none⟩) 1 cap) [a] :=
  slB_at (l := [a]) h rfl (by simp) (fun k x hk => by
    match k, hk with
    | 0, hk => simp at hk; subst hk; exact h0
    | k + 1, hk => simp at hk)
theorem slB_two {w : World} {g cap : Nat} {cur : Array Value} {t : TypeId} {a b : BodyD} (h : w.heap[g]? = some (.cells cur t (0, 0))) (h0 : RowB cur 0 a) (h1 : RowB cur 8 b) : SlB w (.slice (some ⟨g, 0, none⟩) 2 cap) [a, b] :=
  slB_at (l := [a, b]) h rfl (by simp) (fun k x hk => by
    match k, hk with
    | 0, hk => simp at hk; subst hk; exact h0
    | 1, hk => simp at hk; subst hk; exact h1
    | k + 2, hk => simp at hk)
theorem rowB_of {b : BodyD} {cur : Array Value} {o : Nat} (h0 : cur[o]? = some (.int .i64 b.team)) (h1 : cur[o + 1]? = some (.int .i64 b.n)) (h2 : cur[o + 2]? = some (.int .i64 b.m.x)) (h3 : cur[o + 3]? = some (.int .i64 b.m.y)) (h4 : cur[o + 4]? = some (.int .i64 b.m.vx)) (h5 : cur[o + 5]? = some (.int .i64 b.m.vy)) (h6 : cur[o + 6]? = some (.int .i64 b.m.sp)) (h7 : cur[o + 7]? = some (.bool b.out)) : RowB cur o b := by
  intro c hc
  have : c = 0 ∨ c = 1 ∨ c = 2 ∨ c = 3 ∨ c = 4 ∨ c = 5 ∨ c = 6 ∨ c = 7 := by omega
  rcases this with rfl | rfl | rfl | rfl | rfl | rfl | rfl | rfl
  all_goals first | exact h0 | exact h1 | exact h2 | exact h3 | exact h4 | exact h5 | exact h6 | exact h7
theorem put8 {w : World} {b o : Nat} {t : TypeId} {cs : Array Value} (u0 u1 u2 u3 u4 u5 u6 u7 : Value) (h : w.heap[b]? = some (.cells cs t (0, 0))) :
    ((((((((w.setCell ⟨b, o, none⟩ u0).setCell ⟨b, o + 1, none⟩ u1).setCell ⟨b, o + 2, none⟩ u2).setCell ⟨b, o + 3, none⟩ u3).setCell ⟨b, o + 4, none⟩ u4).setCell ⟨b, o + 5, none⟩ u5).setCell ⟨b, o + 6, none⟩ u6).setCell ⟨b, o + 7, none⟩ u7).heap[b]? = some (.cells ((((((((cs.setIfInBounds o u0).setIfInBounds (o + 1) u1).setIfInBounds (o + 2) u2).setIfInBounds (o + 3) u3).setIfInBounds (o + 4) u4).setIfInBounds (o + 5) u5).setIfInBounds (o + 6) u6).setIfInBounds (o + 7) u7) t (0, 0)) := by
  have h0 := heap_setCell_same _ b o _ _ u0 h
  have h1 := heap_setCell_same _ b (o + 1) _ _ u1 h0
  have h2 := heap_setCell_same _ b (o + 2) _ _ u2 h1
  have h3 := heap_setCell_same _ b (o + 3) _ _ u3 h2
  have h4 := heap_setCell_same _ b (o + 4) _ _ u4 h3
  have h5 := heap_setCell_same _ b (o + 5) _ _ u5 h4
  have h6 := heap_setCell_same _ b (o + 6) _ _ u6 h5
  exact heap_setCell_same _ b (o + 7) _ _ u7 h6
theorem put8_below {w0 w : World} {B b o : Nat} (u0 u1 u2 u3 u4 u5 u6 u7 : Value) (h : Below B w0 w) (hb : B ≤ b) : Below B w0 ((((((((w.setCell ⟨b, o, none⟩ u0).setCell ⟨b, o + 1, none⟩ u1).setCell ⟨b, o + 2, none⟩ u2).setCell ⟨b, o + 3, none⟩ u3).setCell ⟨b, o + 4, none⟩ u4).setCell ⟨b, o + 5, none⟩ u5).setCell ⟨b, o + 6, none⟩ u6).setCell ⟨b, o + 7, none⟩ u7) :=
  (((((((h.setCell (p := ⟨b, o, none⟩) hb u0).setCell (p := ⟨b, o + 1, none⟩) hb u1).setCell (p := ⟨b, o + 2, none⟩) hb u2).setCell (p := ⟨b, o + 3, none⟩) hb u3).setCell (p := ⟨b, o + 4, none⟩) hb u4).setCell (p := ⟨b, o + 5, none⟩) hb u5).setCell (p := ⟨b, o + 6, none⟩) hb u6).setCell (p := ⟨b, o + 7, none⟩) hb u7
theorem tickX_one {b : BodyD} {W w' : World} {e : Ending} (h : TickX (.ok ([b], [])) W e w') :
    ∃ g2 c2 h2 c3 cur2, e = .returned (.tuple #[.slice (some ⟨g2, 0, none⟩) 1 c2, .slice h2 0 c3, .int .i64 0]) ∧ w'.heap[g2]? = some (.cells cur2 72 (0, 0)) ∧ RowB cur2 (0 + 0) b ∧ Below W.heap.size W w' := by
  obtain ⟨hb, vo, vh, rfl, ho, hh⟩ := h
  obtain ⟨ha, hc, rfl⟩ := own_slice hh
  obtain ⟨g, cap, cur, rfl, _, hc2, hr⟩ := rows_of_own ho (by simp)
  have h0 := hr 0 b rfl
  rw [Nat.zero_mul] at h0
  exact ⟨g, cap, ha, hc, cur, rfl, hc2, h0, hb⟩
set_option maxRecDepth 100000 in
set_option maxHeartbeats 16000000 in
theorem pairs5_any (r : RinkD) (pv qv bv : Value) (a b : BodyD) (t : Int) (w : World) (hr : RinkAt w r pv qv bv) :
    Calls Tryz.prog 5 #[.agg (r.arr pv qv bv), a.v, b.v, .int .i64 t] w fun e w' => e = .returned (.bool true) ∧ Below w.heap.size w w' := by
  have HRA := hid hr
  obtain ⟨⟨hpv, hqv⟩, hbv⟩ := hr
  obtain ⟨pa, pc, rfl, -, -⟩ := hpv.open
  obtain ⟨qa, qc, rfl, -, -⟩ := hqv.open
  obtain ⟨ba, bc, rfl, -, -⟩ := hbv.open
  have HGT := hid (fun (W : World) (hB : Below w.heap.size w W) => great16_any r.i (.slice pa r.i.pl.length pc) (.slice qa r.i.ql.length qc) 200 W (IceAt.below ⟨hpv, hqv⟩ hB))
  have HTK := hid (fun (q : RinkD) (hq : RinkAt w q (.slice pa r.i.pl.length pc) (.slice qa r.i.ql.length qc) (.slice ba r.bl.length bc)) (v : Value) (l : List BodyD) (W : World) (hB : Below w.heap.size w W) (hs : SlB W v l) => tick17_any q (.slice pa r.i.pl.length pc) (.slice qa r.i.ql.length qc) (.slice ba r.bl.length bc) v l t W (hq.below hB) hs)
  clear hpv hqv hbv
  have HLAW := hid (fun (x y : BodyD) (hs : List HitD) (h : tickA r [a, b] t = .ok ([x, y], hs)) (hx : x.out = false) (hy : y.out = false) => pairs_law h hx hy)
  obtain ⟨gb, hgb⟩ : ∃ g, greatI r.i 200 = g := ⟨_, rfl⟩
  rw [hgb] at HGT
  clear hgb
  obtain ⟨res, hres⟩ : ∃ x, tickA r [a, b] t = x := ⟨_, rfl⟩
  have HRES := hid hres
  clear hres
  obtain ⟨ct, cn, ⟨cpx, cpy, cvx, cvy, csp⟩, c_o⟩ := a
  obtain ⟨dt, dn, ⟨dpx, dpy, dvx, dvy, dsp⟩, d_o⟩ := b
  have HRV := hid (show RowB #[.int .i64 ct, .int .i64 cn, .int .i64 cpx, .int .i64 cpy, .int .i64 cvx, .int .i64 cvy, .int .i64 csp, .bool c_o, .int .i64 dt, .int .i64 dn, .int .i64 dpx, .int .i64 dpy, .int .i64 dvx, .int .i64 dvy, .int .i64 dsp, .bool d_o] 0 ⟨ct, cn, ⟨cpx, cpy, cvx, cvy, csp⟩, c_o⟩ ∧ RowB #[.int .i64 ct, .int .i64 cn, .int .i64 cpx, .int .i64 cpy, .int .i64 cvx, .int .i64 cvy, .int .i64 csp, .bool c_o, .int .i64 dt, .int .i64 dn, .int .i64 dpx, .int .i64 dpy, .int .i64 dvx, .int .i64 dvy, .int .i64 dsp, .bool d_o] 8 ⟨dt, dn, ⟨dpx, dpy, dvx, dvy, dsp⟩, d_o⟩ from ⟨rowB_of rfl rfl rfl rfl rfl rfl rfl rfl, rowB_of rfl rfl rfl rfl rfl rfl rfl rfl⟩)
  obtain ⟨W1, hW1, hz1, hb1, p1, p2, p3⟩ := three_new w (.cells #[.int .i64 r.i.cx, .int .i64 r.i.cy, .int .i64 r.i.sd, .int .i64 r.i.W, .int .i64 r.i.H, .slice pa r.i.pl.length pc, .slice qa r.i.ql.length qc, .int .i64 r.g.fl, .int .i64 r.g.kn, .int .i64 r.g.a, .int .i64 r.g.b, .int .i64 r.g.c, .slice ba r.bl.length bc, .int .i64 r.who, .int .i64 r.el] 70) (.cells #[.int .i64 ct, .int .i64 cn, .int .i64 cpx, .int .i64 cpy, .int .i64 cvx, .int .i64 cvy, .int .i64 csp, .bool c_o] 72) (.cells #[.int .i64 dt, .int .i64 dn, .int .i64 dpx, .int .i64 dpy, .int .i64 dvx, .int .i64 dvy, .int .i64 dsp, .bool d_o] 72)
  have HW1 := hid hW1
  have HB1 := hid hb1
  have HP1 := hid p1
  have HP2 := hid p2
  have HP3 := hid p3
  clear hW1 hz1 hb1 p1 p2 p3
  have HGT := hid (show ∀ W, Below w.heap.size w W → Calls Tryz.prog 16 #[.agg #[.int .i64 r.i.cx, .int .i64 r.i.cy, .int .i64 r.i.sd, .int .i64 r.i.W, .int .i64 r.i.H, .slice pa r.i.pl.length pc, .slice qa r.i.ql.length qc], .int .i64 200] W fun e w' => e = .returned (.bool gb) ∧ Below W.heap.size W w' from HGT.out)
  show Calls Tryz.prog 5 #[.agg #[.int .i64 r.i.cx, .int .i64 r.i.cy, .int .i64 r.i.sd, .int .i64 r.i.W, .int .i64 r.i.H, .slice pa r.i.pl.length pc, .slice qa r.i.ql.length qc, .int .i64 r.g.fl, .int .i64 r.g.kn, .int .i64 r.g.a, .int .i64 r.g.b, .int .i64 r.g.c, .slice ba r.bl.length bc, .int .i64 r.who, .int .i64 r.el], .agg #[.int .i64 ct, .int .i64 cn, .int .i64 cpx, .int .i64 cpy, .int .i64 cvx, .int .i64 cvy, .int .i64 csp, .bool c_o], .agg #[.int .i64 dt, .int .i64 dn, .int .i64 dpx, .int .i64 dpy, .int .i64 dvx, .int .i64 dvy, .int .i64 dsp, .bool d_o], .int .i64 t] w _
  go_enter Tryz.func5, Tryz.ntmps5
  go_upto_region 1 with fail
  rw [HW1.out]
  clear HW1
  have r0 := cellN (i := 0) (v := .int .i64 r.i.cx) HP1.out rfl
  have r1 := cellN (i := 1) (v := .int .i64 r.i.cy) HP1.out rfl
  have r2 := cellN (i := 2) (v := .int .i64 r.i.sd) HP1.out rfl
  have r3 := cellN (i := 3) (v := .int .i64 r.i.W) HP1.out rfl
  have r4 := cellN (i := 4) (v := .int .i64 r.i.H) HP1.out rfl
  have r5 := cellN (i := 5) (v := .slice pa r.i.pl.length pc) HP1.out rfl
  have r6 := cellN (i := 6) (v := .slice qa r.i.ql.length qc) HP1.out rfl
  go_wp2_with fail
  refine (HGT.out _ HB1.out).mono ?_
  rintro e w2 ⟨rfl, hb2⟩
  have HB2 := hid (HB1.out.trans (hb2.mono HB1.out.size))
  have HP1 := hid (carry HP1.out hb2)
  have HP2 := hid (carry HP2.out hb2)
  have HP3 := hid (carry HP3.out hb2)
  clear hb2 r0 r1 r2 r3 r4 r5 r6 HGT HB1
  cases gb with
  | true =>
    go_wp2_with fail
    refine (sound_any _).mono ?_
    rintro e ws ⟨rfl, hbs⟩
    go_wp2_with fail
    go_ret
    exact ⟨rfl, (HB2.out).trans (hbs.mono (HB2.out).size)⟩
  | false =>
  have r12 := cellN (i := 12) (v := .slice ba r.bl.length bc) HP1.out rfl
  by_cases h66 : (66 : Int) < (r.bl.length : Int)
  · go_wp2_with fail
    refine (sound_any _).mono ?_
    rintro e ws ⟨rfl, hbs⟩
    go_wp2_with fail
    go_ret
    exact ⟨rfl, HB2.out.trans (hbs.mono HB2.out.size)⟩
  have a0 := cellN (i := 0) (v := .int .i64 ct) HP2.out rfl
  have a1 := cellN (i := 1) (v := .int .i64 cn) HP2.out rfl
  have a2 := cellN (i := 2) (v := .int .i64 cpx) HP2.out rfl
  have a3 := cellN (i := 3) (v := .int .i64 cpy) HP2.out rfl
  have a4 := cellN (i := 4) (v := .int .i64 cvx) HP2.out rfl
  have a5 := cellN (i := 5) (v := .int .i64 cvy) HP2.out rfl
  have a6 := cellN (i := 6) (v := .int .i64 csp) HP2.out rfl
  have a7 := cellN (i := 7) (v := .bool c_o) HP2.out rfl
  have b0 := cellN (i := 0) (v := .int .i64 dt) HP3.out rfl
  have b1 := cellN (i := 1) (v := .int .i64 dn) HP3.out rfl
  have b2 := cellN (i := 2) (v := .int .i64 dpx) HP3.out rfl
  have b3 := cellN (i := 3) (v := .int .i64 dpy) HP3.out rfl
  have b4 := cellN (i := 4) (v := .int .i64 dvx) HP3.out rfl
  have b5 := cellN (i := 5) (v := .int .i64 dvy) HP3.out rfl
  have b6 := cellN (i := 6) (v := .int .i64 dsp) HP3.out rfl
  have b7 := cellN (i := 7) (v := .bool d_o) HP3.out rfl
  obtain ⟨W3, hW3⟩ : ∃ W3, w2.alloc (.cells #[.int .i64 ct, .int .i64 cn, .int .i64 cpx, .int .i64 cpy, .int .i64 cvx, .int .i64 cvy, .int .i64 csp, .bool c_o, .int .i64 dt, .int .i64 dn, .int .i64 dpx, .int .i64 dpy, .int .i64 dvx, .int .i64 dvy, .int .i64 dsp, .bool d_o] 72) = W3 := ⟨_, rfl⟩
  obtain ⟨bl, hbl⟩ : ∃ b, w2.heap.size = b := ⟨_, rfl⟩
  have hp4 : W3.heap[bl]? = some (.cells #[.int .i64 ct, .int .i64 cn, .int .i64 cpx, .int .i64 cpy, .int .i64 cvx, .int .i64 cvy, .int .i64 csp, .bool c_o, .int .i64 dt, .int .i64 dn, .int .i64 dpx, .int .i64 dpy, .int .i64 dvx, .int .i64 dvy, .int .i64 dsp, .bool d_o] 72 (0, 0)) := by rw [← hW3, ← hbl]; exact heap_alloc_new w2 _
  have hb3 : Below w2.heap.size w2 W3 := by rw [← hW3]; exact (Below.refl _ _).alloc (Nat.le_refl _) _
  have HW3 := hid hW3
  have HP4 := hid hp4
  have HB3 := hid (HB2.out.trans (hb3.mono HB2.out.size))
  have HP1 := hid (carry HP1.out hb3)
  clear hW3 hp4 hb3
  go_upto_region 4 with fail
  rw [HW3.out]
  clear HW3 hbl r12 a0 a1 a2 a3 a4 a5 a6 a7 b0 b1 b2 b3 b4 b5 b6 b7 HP2 HP3 HB2 h66
  have r0 := cellN (i := 0) (v := .int .i64 r.i.cx) HP1.out rfl
  have r1 := cellN (i := 1) (v := .int .i64 r.i.cy) HP1.out rfl
  have r2 := cellN (i := 2) (v := .int .i64 r.i.sd) HP1.out rfl
  have r3 := cellN (i := 3) (v := .int .i64 r.i.W) HP1.out rfl
  have r4 := cellN (i := 4) (v := .int .i64 r.i.H) HP1.out rfl
  have r5 := cellN (i := 5) (v := .slice pa r.i.pl.length pc) HP1.out rfl
  have r6 := cellN (i := 6) (v := .slice qa r.i.ql.length qc) HP1.out rfl
  have r7 := cellN (i := 7) (v := .int .i64 r.g.fl) HP1.out rfl
  have r8 := cellN (i := 8) (v := .int .i64 r.g.kn) HP1.out rfl
  have r9 := cellN (i := 9) (v := .int .i64 r.g.a) HP1.out rfl
  have r10 := cellN (i := 10) (v := .int .i64 r.g.b) HP1.out rfl
  have r11 := cellN (i := 11) (v := .int .i64 r.g.c) HP1.out rfl
  have r12 := cellN (i := 12) (v := .slice ba r.bl.length bc) HP1.out rfl
  have r13 := cellN (i := 13) (v := .int .i64 r.who) HP1.out rfl
  have r14 := cellN (i := 14) (v := .int .i64 r.el) HP1.out rfl
  have HT := hid (show Calls Tryz.prog 17 #[.agg #[.int .i64 r.i.cx, .int .i64 r.i.cy, .int .i64 r.i.sd, .int .i64 r.i.W, .int .i64 r.i.H, .slice pa r.i.pl.length pc, .slice qa r.i.ql.length qc], .agg #[.int .i64 r.g.fl, .int .i64 r.g.kn, .int .i64 r.g.a, .int .i64 r.g.b, .int .i64 r.g.c], .slice (some ⟨bl, 0, none⟩) 2 2, .slice ba r.bl.length bc, .int .i64 r.who, .int .i64 r.el, .int .i64 t] W3 fun e w' => TickX res W3 e w' from by
    have h := HTK.out r HRA.out (.slice (some ⟨bl, 0, none⟩) 2 2) _ W3 HB3.out (slB_two HP4.out HRV.out.1 HRV.out.2)
    rw [HRES.out] at h
    exact h)
  go_wp2_with fail
  refine HT.out.mono ?_
  rintro e w4 ⟨hb4, hx⟩
  have HB4 := hid (HB3.out.trans (hb4.mono HB3.out.size))
  have HP1 := hid (carry HP1.out hb4)
  have HP4 := hid (carry HP4.out hb4)
  clear hb4 r0 r1 r2 r3 r4 r5 r6 r7 r8 r9 r10 r11 r12 r13 r14 HT
  cases res with
  | error c =>
    dsimp only at hx
    obtain rfl := hx
    rcases tickA_err HRES.out with rfl | rfl
    · go_wp2_with fail
      refine (sound_any _).mono ?_
      rintro e ws ⟨rfl, hbs⟩
      go_wp2_with fail
      go_ret
      exact ⟨rfl, HB4.out.trans (hbs.mono HB4.out.size)⟩
    · go_wp2_with fail
      refine (sound_any _).mono ?_
      rintro e ws ⟨rfl, hbs⟩
      go_wp2_with fail
      go_ret
      exact ⟨rfl, HB4.out.trans (hbs.mono HB4.out.size)⟩
  | ok p =>
  obtain ⟨vo, vh, rfl, ho, hh⟩ := hx
  obtain ⟨s, hs⟩ := p
  have hlen : s.length = 2 := tickA_len HRES.out
  obtain ⟨x, y, rfl⟩ : ∃ x y, s = [x, y] := by
    match s, hlen with
    | [x, y], _ => exact ⟨x, y, rfl⟩
  clear hlen
  obtain ⟨ha, hcap, rfl⟩ := own_slice hh
  obtain ⟨go, ocap, ocur, rfl, hgo, hoc, hrow⟩ := rows_of_own ho (by simp)
  have hrx := hrow 0 x rfl
  have hry := hrow 1 y rfl
  rw [Nat.zero_mul] at hrx
  rw [Nat.one_mul] at hry
  have HRX := hid hrx
  have HRY := hid hry
  have HOC := hid hoc
  have HGO := hid hgo
  clear hrow hh ho hrx hry hoc hgo HB3
  dsimp only [List.length_cons, List.length_nil]
  by_cases h0 : hs.length = 0
  · have h0' : (hs.length : Int) = 0 := by omega
    go_wp2_with fail
    refine (sound_any _).mono ?_
    rintro e ws ⟨rfl, hbs⟩
    go_wp2_with fail
    go_ret
    exact ⟨rfl, HB4.out.trans (hbs.mono HB4.out.size)⟩
  have h0' : ((hs.length : Int) == 0) = false := by rw [beq_eq_false_iff_ne]; omega
  have hxo : w4.cell? ⟨go, 7, none⟩ = some (.bool x.out) := cellN HOC.out (by have := HRX.out 7 (by omega); exact this)
  have hyo : w4.cell? ⟨go, 15, none⟩ = some (.bool y.out) := cellN HOC.out (by have := HRY.out 7 (by omega); exact this)
  obtain ⟨xo, hxe⟩ : ∃ b, x.out = b := ⟨_, rfl⟩
  obtain ⟨yo, hye⟩ : ∃ b, y.out = b := ⟨_, rfl⟩
  rw [hxe] at hxo
  rw [hye] at hyo
  have HXE := hid hxe
  have HYE := hid hye
  clear hxe hye
  cases xo with
  | true =>
    go_wp2_with fail
    refine (sound_any _).mono ?_
    rintro e ws ⟨rfl, hbs⟩
    go_wp2_with fail
    go_ret
    exact ⟨rfl, HB4.out.trans (hbs.mono HB4.out.size)⟩
  | false =>
  cases yo with
  | true =>
    go_wp2_with fail
    refine (sound_any _).mono ?_
    rintro e ws ⟨rfl, hbs⟩
    go_wp2_with fail
    go_ret
    exact ⟨rfl, HB4.out.trans (hbs.mono HB4.out.size)⟩
  | false =>
  obtain ⟨a1, b1, HTA, HTB, HXP, HYP, HVX, HVY, HXYO, HAO, HBO⟩ := HLAW.out x y hs HRES.out HXE.out HYE.out
  obtain ⟨et, en, ⟨epx, epy, evx, evy, esp⟩, e_o⟩ := a1
  obtain ⟨ft, fn, ⟨fpx, fpy, fvx, fvy, fsp⟩, f_o⟩ := b1
  obtain ⟨xt, xn, ⟨x2, x3, x4, x5, x6⟩, x7⟩ := x
  obtain ⟨yt, yn, ⟨y2, y3, y4, y5, y6⟩, y7⟩ := y
  dsimp only at HXP HYP HVX HVY
  obtain ⟨h2x, h3x⟩ := HXP
  obtain ⟨h2y, h3y⟩ := HYP
  replace h2x := h2x.symm
  replace h3x := h3x.symm
  replace h2y := h2y.symm
  replace h3y := h3y.symm
  subst h2x
  subst h3x
  subst h2y
  subst h3y
  have hbx := movOk_b HXYO.1
  have hby := movOk_b HXYO.2
  have hbe := movOk_b HAO
  have hbf := movOk_b HBO
  dsimp only at hbx hby hbe hbf
  obtain ⟨p1, hp1⟩ : ∃ p, x4 + y4 = p := ⟨_, rfl⟩
  obtain ⟨p2, hp2⟩ : ∃ p, p1 - evx = p := ⟨_, rfl⟩
  obtain ⟨q1, hq1⟩ : ∃ p, x5 + y5 = p := ⟨_, rfl⟩
  obtain ⟨q2, hq2⟩ : ∃ p, q1 - evy = p := ⟨_, rfl⟩
  have HW := hid (show (IntKind.i64.wrap (x4 + y4) = p1 ∧ IntKind.i64.wrap (p1 - evx) = p2 ∧ IntKind.i64.wrap (p2 - fvx) = 0) ∧ IntKind.i64.wrap (x5 + y5) = q1 ∧ IntKind.i64.wrap (q1 - evy) = q2 ∧ IntKind.i64.wrap (q2 - fvy) = 0 from by
    simp only [IntKind.wrap_i64]
    omega)
  have HTA := hid HTA
  have HTB := hid HTB
  clear hp1 hp2 hq1 hq2 hbx hby hbe hbf HXYO HAO HBO HVX HVY HXE HYE HLAW HRES
  obtain ⟨bz, hbz⟩ : ∃ b, w4.heap.size = b := ⟨_, rfl⟩
  have HBZ := hid (show w4.heap.size ≤ bz by omega)
  have hz5 : (w4.alloc (.cells #[.int .i64 0, .int .i64 0, .int .i64 0, .int .i64 0, .int .i64 0, .int .i64 0, .int .i64 0, .bool false, .int .i64 0, .int .i64 0, .int .i64 0, .int .i64 0, .int .i64 0, .int .i64 0, .int .i64 0, .bool false] 78)).heap[bz]? = some (.cells #[.int .i64 0, .int .i64 0, .int .i64 0, .int .i64 0, .int .i64 0, .int .i64 0, .int .i64 0, .bool false, .int .i64 0, .int .i64 0, .int .i64 0, .int .i64 0, .int .i64 0, .int .i64 0, .int .i64 0, .bool false] 78 (0, 0)) := by rw [← hbz]; exact heap_alloc_new w4 _
  have hb5 : Below w4.heap.size w4 (w4.alloc (.cells #[.int .i64 0, .int .i64 0, .int .i64 0, .int .i64 0, .int .i64 0, .int .i64 0, .int .i64 0, .bool false, .int .i64 0, .int .i64 0, .int .i64 0, .int .i64 0, .int .i64 0, .int .i64 0, .int .i64 0, .bool false] 78)) := (Below.refl _ _).alloc (Nat.le_refl _) _
  obtain ⟨W5, hW5⟩ : ∃ W, w4.alloc (.cells #[.int .i64 0, .int .i64 0, .int .i64 0, .int .i64 0, .int .i64 0, .int .i64 0, .int .i64 0, .bool false, .int .i64 0, .int .i64 0, .int .i64 0, .int .i64 0, .int .i64 0, .int .i64 0, .int .i64 0, .bool false] 78) = W := ⟨_, rfl⟩
  rw [hW5] at hz5 hb5
  have HZ5 := hid hz5
  have HB5 := hid hb5
  have HW5 := hid hW5
  have HQ14 := hid (show ∀ W : World, Below w4.heap.size w4 W → W.cell? ⟨w.heap.size, 0, none⟩ = some (.int .i64 r.i.cx) ∧ W.cell? ⟨w.heap.size, 1, none⟩ = some (.int .i64 r.i.cy) ∧ W.cell? ⟨w.heap.size, 2, none⟩ = some (.int .i64 r.i.sd) ∧ W.cell? ⟨w.heap.size, 3, none⟩ = some (.int .i64 r.i.W) ∧ W.cell? ⟨w.heap.size, 4, none⟩ = some (.int .i64 r.i.H) ∧ W.cell? ⟨w.heap.size, 5, none⟩ = some (.slice pa r.i.pl.length pc) ∧ W.cell? ⟨w.heap.size, 6, none⟩ = some (.slice qa r.i.ql.length qc) ∧ W.cell? ⟨w.heap.size, 7, none⟩ = some (.int .i64 r.g.fl) ∧ W.cell? ⟨w.heap.size, 8, none⟩ = some (.int .i64 r.g.kn) ∧ W.cell? ⟨w.heap.size, 9, none⟩ = some (.int .i64 r.g.a) ∧ W.cell? ⟨w.heap.size, 10, none⟩ = some (.int .i64 r.g.b) ∧ W.cell? ⟨w.heap.size, 11, none⟩ = some (.int .i64 r.g.c) ∧ W.cell? ⟨w.heap.size, 12, none⟩ = some (.slice ba r.bl.length bc) ∧ W.cell? ⟨w.heap.size, 14, none⟩ = some (.int .i64 r.el) from fun W h => by have h1 := carry HP1.out h; exact ⟨cellN (i := 0) h1 rfl, cellN (i := 1) h1 rfl, cellN (i := 2) h1 rfl, cellN (i := 3) h1 rfl, cellN (i := 4) h1 rfl, cellN (i := 5) h1 rfl, cellN (i := 6) h1 rfl, cellN (i := 7) h1 rfl, cellN (i := 8) h1 rfl, cellN (i := 9) h1 rfl, cellN (i := 10) h1 rfl, cellN (i := 11) h1 rfl, cellN (i := 12) h1 rfl, cellN (i := 14) h1 rfl⟩)
  have HQ13 := hid (show ∀ W : World, Below w4.heap.size w4 W → W.cell? ⟨w.heap.size, 13, none⟩ = some (.int .i64 r.who) from fun W h => cellN (carry HP1.out h) rfl)
  clear hz5 hb5 hW5
  go_upto_region 8 with fail
  rw [HW5.out]
  clear HW5 h0 h0' hxo hyo
  try clear hbz
  go_wp2_with fail
  go_loopw [78] (fun i wr => ∃ k : Nat, k ≤ 2 ∧ i = .int .i64 k ∧ wr.heap[bz]? = some (.cells (match k with | 0 => #[.int .i64 0, .int .i64 0, .int .i64 0, .int .i64 0, .int .i64 0, .int .i64 0, .int .i64 0, .bool false, .int .i64 0, .int .i64 0, .int .i64 0, .int .i64 0, .int .i64 0, .int .i64 0, .int .i64 0, .bool false] | 1 => #[.int .i64 et, .int .i64 en, .int .i64 epx, .int .i64 epy, .int .i64 evx, .int .i64 evy, .int .i64 esp, .bool e_o, .int .i64 0, .int .i64 0, .int .i64 0, .int .i64 0, .int .i64 0, .int .i64 0, .int .i64 0, .bool false] | _ => #[.int .i64 et, .int .i64 en, .int .i64 epx, .int .i64 epy, .int .i64 evx, .int .i64 evy, .int .i64 esp, .bool e_o, .int .i64 ft, .int .i64 fn, .int .i64 fpx, .int .i64 fpy, .int .i64 fvx, .int .i64 fvy, .int .i64 fsp, .bool f_o]) 78 (0, 0)) ∧ Below w4.heap.size w4 wr) (fun i _ => 2 - (intOf i).toNat)
  case atStart => exact ⟨0, by omega, rfl, HZ5.out, HB5.out⟩
  case round =>
    clear HZ5 HB5
    obtain ⟨k, hk, rfl, hz, hb⟩ := hrel
    obtain ⟨wq, rfl⟩ : ∃ wq, wq = wr := ⟨_, rfl⟩
    have HBQ := hid hb
    clear hb
    have HLN0 := HTA.out
    have HLN1 := HTB.out
    rcases (show k = 0 ∨ k = 1 ∨ k = 2 by omega) with rfl | rfl | rfl
    · have HZQ := hid (show wq.heap[bz]? = some (.cells #[.int .i64 0, .int .i64 0, .int .i64 0, .int .i64 0, .int .i64 0, .int .i64 0, .int .i64 0, .bool false, .int .i64 0, .int .i64 0, .int .i64 0, .int .i64 0, .int .i64 0, .int .i64 0, .int .i64 0, .bool false] 78 (0, 0)) from hz)
      clear hz
      have r13 : wq.cell? ⟨w.heap.size, 13, none⟩ = some (.int .i64 r.who) := HQ13.out _ HBQ.out
      by_cases hw : r.who = ((0 : Nat) : Int)
      · rw [if_pos hw] at HLN0
        have HTN := hid (show ∀ W, Below w4.heap.size w4 W → Calls Tryz.prog 17 #[.agg #[.int .i64 r.i.cx, .int .i64 r.i.cy, .int .i64 r.i.sd, .int .i64 r.i.W, .int .i64 r.i.H, .slice pa r.i.pl.length pc, .slice qa r.i.ql.length qc], .agg #[.int .i64 r.g.fl, .int .i64 r.g.kn, .int .i64 r.g.a, .int .i64 r.g.b, .int .i64 r.g.c], .slice (some ⟨bl, 0, none⟩) 1 2, .slice ba r.bl.length bc, .int .i64 (0), .int .i64 r.el, .int .i64 t] W fun e w' => ∃ g2 c2 h2 c3 cur2, e = .returned (.tuple #[.slice (some ⟨g2, 0, none⟩) 1 c2, .slice h2 0 c3, .int .i64 0]) ∧ w'.heap[g2]? = some (.cells cur2 72 (0, 0)) ∧ RowB cur2 (0 + 0) ⟨et, en, ⟨epx, epy, evx, evy, esp⟩, e_o⟩ ∧ Below W.heap.size W w' from fun W hB => by
          have h := HTK.out ⟨r.i, r.g, r.bl, (0), r.el⟩ HRA.out (.slice (some ⟨bl, 0, none⟩) 1 2) [⟨ct, cn, ⟨cpx, cpy, cvx, cvy, csp⟩, c_o⟩] W (HB4.out.trans (hB.mono HB4.out.size)) (slB_one (carry HP4.out hB) HRV.out.1)
          rw [HLN0] at h
          exact h.mono (fun e w' hx => tickX_one hx))
        have r13' : wq.cell? ⟨w.heap.size, 13, none⟩ = some (.int .i64 0) := by rw [r13, hw]; rfl
        clear hw r13 HLN0 HLN1
        go_upto_region 14 with fail
        clear r13'
        refine wp_region_held_drew (S := (fun W => W.cell? ⟨w.heap.size, 0, none⟩ = some (.int .i64 r.i.cx) ∧ W.cell? ⟨w.heap.size, 1, none⟩ = some (.int .i64 r.i.cy) ∧ W.cell? ⟨w.heap.size, 2, none⟩ = some (.int .i64 r.i.sd) ∧ W.cell? ⟨w.heap.size, 3, none⟩ = some (.int .i64 r.i.W) ∧ W.cell? ⟨w.heap.size, 4, none⟩ = some (.int .i64 r.i.H) ∧ W.cell? ⟨w.heap.size, 5, none⟩ = some (.slice pa r.i.pl.length pc) ∧ W.cell? ⟨w.heap.size, 6, none⟩ = some (.slice qa r.i.ql.length qc) ∧ W.cell? ⟨w.heap.size, 7, none⟩ = some (.int .i64 r.g.fl) ∧ W.cell? ⟨w.heap.size, 8, none⟩ = some (.int .i64 r.g.kn) ∧ W.cell? ⟨w.heap.size, 9, none⟩ = some (.int .i64 r.g.a) ∧ W.cell? ⟨w.heap.size, 10, none⟩ = some (.int .i64 r.g.b) ∧ W.cell? ⟨w.heap.size, 11, none⟩ = some (.int .i64 r.g.c) ∧ W.cell? ⟨w.heap.size, 12, none⟩ = some (.slice ba r.bl.length bc) ∧ W.cell? ⟨w.heap.size, 14, none⟩ = some (.int .i64 r.el))) (by kernel_rfl) (HQ14.out _ HBQ.out.drew) (fun hH => ?_)
        obtain ⟨v0, hv0⟩ : ∃ v0, v0 = wq.drew := ⟨_, rfl⟩
        have HBV := hid (show Below w4.heap.size w4 v0 by rw [hv0]; exact HBQ.out.drew)
        have HZV := hid (show v0.heap[bz]? = some (.cells #[.int .i64 0, .int .i64 0, .int .i64 0, .int .i64 0, .int .i64 0, .int .i64 0, .int .i64 0, .bool false, .int .i64 0, .int .i64 0, .int .i64 0, .int .i64 0, .int .i64 0, .int .i64 0, .int .i64 0, .bool false] 78 (0, 0)) by rw [hv0]; exact HZQ.out)
        rw [← hv0] at hH ⊢
        clear hv0
        refine wpAnyH_take (i := 0) (oi := { dst := some 86, op := Go.Op.fieldAddr 70 (Go.Operand.tmp 4) 0, type := 0, pos := "top05.go:63", after := #[], guard := none }) (v := (.pointer (some ⟨w.heap.size, 0, none⟩))) rfl (by kernel_rfl) (by kernel_rfl) (by kernel_rfl) (fun _ _ _ h => h) (Or.inl ⟨by rfl, ?_⟩) hH ?_
        · intro w hSw
          (try dsimp only at hSw)
          go_simp
        (try simp only [Act.put, List.setIfInBounds_toArray, List.set_cons_zero, List.set_cons_succ])
        refine wpAnyH_take (i := 1) (oi := { dst := some 87, op := Go.Op.load 31 (Go.Operand.tmp 86), type := 31, pos := "top05.go:63", after := #[{ on := 0, ground := Go.Ground.data }], guard := none }) (v := (.agg #[.int .i64 r.i.cx, .int .i64 r.i.cy, .int .i64 r.i.sd, .int .i64 r.i.W, .int .i64 r.i.H, .slice pa r.i.pl.length pc, .slice qa r.i.ql.length qc])) rfl (by kernel_rfl) (by kernel_rfl) (by kernel_rfl) (fun _ _ _ h => h) (Or.inl ⟨by rfl, ?_⟩) hH ?_
        · intro w hSw
          (try dsimp only at hSw)
          go_simp
        (try simp only [Act.put, List.setIfInBounds_toArray, List.set_cons_zero, List.set_cons_succ])
        refine wpAnyH_take (i := 2) (oi := { dst := some 88, op := Go.Op.fieldAddr 70 (Go.Operand.tmp 4) 1, type := 0, pos := "top05.go:63", after := #[], guard := none }) (v := (.pointer (some ⟨w.heap.size, 7, none⟩))) rfl (by kernel_rfl) (by kernel_rfl) (by kernel_rfl) (fun _ _ _ h => h) (Or.inl ⟨by rfl, ?_⟩) hH ?_
        · intro w hSw
          (try dsimp only at hSw)
          go_simp
        (try simp only [Act.put, List.setIfInBounds_toArray, List.set_cons_zero, List.set_cons_succ])
        refine wpAnyH_take (i := 3) (oi := { dst := some 89, op := Go.Op.load 24 (Go.Operand.tmp 88), type := 24, pos := "top05.go:63", after := #[{ on := 2, ground := Go.Ground.data }], guard := none }) (v := (.agg #[.int .i64 r.g.fl, .int .i64 r.g.kn, .int .i64 r.g.a, .int .i64 r.g.b, .int .i64 r.g.c])) rfl (by kernel_rfl) (by kernel_rfl) (by kernel_rfl) (fun _ _ _ h => h) (Or.inl ⟨by rfl, ?_⟩) hH ?_
        · intro w hSw
          (try dsimp only at hSw)
          go_simp
        (try simp only [Act.put, List.setIfInBounds_toArray, List.set_cons_zero, List.set_cons_succ])
        refine wpAnyH_take (i := 4) (oi := { dst := some 90, op := Go.Op.move (Go.Operand.tmp 9), type := 74, pos := "top05.go:63", after := #[], guard := none }) (v := (.slice (some ⟨bl, 0, none⟩) 2 2)) rfl (by kernel_rfl) (by kernel_rfl) (by kernel_rfl) (fun _ _ _ h => h) (Or.inl ⟨by rfl, ?_⟩) hH ?_
        · intro w hSw
          (try dsimp only at hSw)
          go_simp
        (try simp only [Act.put, List.setIfInBounds_toArray, List.set_cons_zero, List.set_cons_succ])
        refine wpAnyH_take (i := 5) (oi := { dst := some 91, op := Go.Op.move (Go.Operand.tmp 14), type := 3, pos := "top05.go:63", after := #[], guard := none }) (v := (.int .i64 0)) rfl (by kernel_rfl) (by kernel_rfl) (by kernel_rfl) (fun _ _ _ h => h) (Or.inl ⟨by rfl, ?_⟩) hH ?_
        · intro w hSw
          (try dsimp only at hSw)
          go_simp
        (try simp only [Act.put, List.setIfInBounds_toArray, List.set_cons_zero, List.set_cons_succ])
        refine wpAnyH_take (i := 6) (oi := { dst := some 92, op := Go.Op.move (Go.Operand.tmp 14), type := 3, pos := "top05.go:63", after := #[], guard := none }) (v := (.int .i64 0)) rfl (by kernel_rfl) (by kernel_rfl) (by kernel_rfl) (fun _ _ _ h => h) (Or.inl ⟨by rfl, ?_⟩) hH ?_
        · intro w hSw
          (try dsimp only at hSw)
          go_simp
        (try simp only [Act.put, List.setIfInBounds_toArray, List.set_cons_zero, List.set_cons_succ])
        refine wpAnyH_take (i := 7) (oi := { dst := some 93, op := Go.Op.binOp Go.BinOp.add 3 (Go.Operand.tmp 92) (Go.Operand.const (Go.Value.int Go.IntKind.i64 1)) 3, type := 3, pos := "top05.go:63", after := #[{ on := 6, ground := Go.Ground.data }], guard := none }) (v := (.int .i64 1)) rfl (by kernel_rfl) (by kernel_rfl) (by kernel_rfl) (fun _ _ _ h => h) (Or.inl ⟨by rfl, ?_⟩) hH ?_
        · intro w hSw
          (try dsimp only at hSw)
          go_simp
          rfl
        (try simp only [Act.put, List.setIfInBounds_toArray, List.set_cons_zero, List.set_cons_succ])
        refine wpAnyH_take (i := 8) (oi := { dst := some 94, op := Go.Op.slice 74 (Go.Operand.tmp 90) (some (Go.Operand.tmp 91)) (some (Go.Operand.tmp 93)) none, type := 74, pos := "top05.go:63", after := #[{ on := 4, ground := Go.Ground.data }, { on := 5, ground := Go.Ground.data }, { on := 7, ground := Go.Ground.data }], guard := none }) (v := (.slice (some ⟨bl, 0, none⟩) 1 2)) rfl (by kernel_rfl) (by kernel_rfl) (by kernel_rfl) (fun _ _ _ h => h) (Or.inl ⟨by rfl, ?_⟩) hH ?_
        · intro w hSw
          (try dsimp only at hSw)
          go_simp
        (try simp only [Act.put, List.setIfInBounds_toArray, List.set_cons_zero, List.set_cons_succ])
        refine wpAnyH_take (i := 9) (oi := { dst := some 95, op := Go.Op.fieldAddr 70 (Go.Operand.tmp 4) 2, type := 0, pos := "top05.go:63", after := #[], guard := none }) (v := (.pointer (some ⟨w.heap.size, 12, none⟩))) rfl (by kernel_rfl) (by kernel_rfl) (by kernel_rfl) (fun _ _ _ h => h) (Or.inl ⟨by rfl, ?_⟩) hH ?_
        · intro w hSw
          (try dsimp only at hSw)
          go_simp
        (try simp only [Act.put, List.setIfInBounds_toArray, List.set_cons_zero, List.set_cons_succ])
        refine wpAnyH_take (i := 10) (oi := { dst := some 96, op := Go.Op.load 68 (Go.Operand.tmp 95), type := 68, pos := "top05.go:63", after := #[{ on := 9, ground := Go.Ground.data }], guard := none }) (v := (.slice ba r.bl.length bc)) rfl (by kernel_rfl) (by kernel_rfl) (by kernel_rfl) (fun _ _ _ h => h) (Or.inl ⟨by rfl, ?_⟩) hH ?_
        · intro w hSw
          (try dsimp only at hSw)
          go_simp
        (try simp only [Act.put, List.setIfInBounds_toArray, List.set_cons_zero, List.set_cons_succ])
        refine wpAnyH_take (i := 11) (oi := { dst := some 97, op := Go.Op.move (Go.Operand.tmp 15), type := 3, pos := "top05.go:63", after := #[], guard := none }) (v := (.int .i64 0)) rfl (by kernel_rfl) (by kernel_rfl) (by kernel_rfl) (fun _ _ _ h => h) (Or.inl ⟨by rfl, ?_⟩) hH ?_
        · intro w hSw
          (try dsimp only at hSw)
          go_simp
        (try simp only [Act.put, List.setIfInBounds_toArray, List.set_cons_zero, List.set_cons_succ])
        refine wpAnyH_take (i := 12) (oi := { dst := some 98, op := Go.Op.fieldAddr 70 (Go.Operand.tmp 4) 4, type := 0, pos := "top05.go:63", after := #[], guard := none }) (v := (.pointer (some ⟨w.heap.size, 14, none⟩))) rfl (by kernel_rfl) (by kernel_rfl) (by kernel_rfl) (fun _ _ _ h => h) (Or.inl ⟨by rfl, ?_⟩) hH ?_
        · intro w hSw
          (try dsimp only at hSw)
          go_simp
        (try simp only [Act.put, List.setIfInBounds_toArray, List.set_cons_zero, List.set_cons_succ])
        refine wpAnyH_take (i := 13) (oi := { dst := some 99, op := Go.Op.load 3 (Go.Operand.tmp 98), type := 3, pos := "top05.go:63", after := #[{ on := 12, ground := Go.Ground.data }], guard := none }) (v := (.int .i64 r.el)) rfl (by kernel_rfl) (by kernel_rfl) (by kernel_rfl) (fun _ _ _ h => h) (Or.inl ⟨by rfl, ?_⟩) hH ?_
        · intro w hSw
          (try dsimp only at hSw)
          go_simp
        (try simp only [Act.put, List.setIfInBounds_toArray, List.set_cons_zero, List.set_cons_succ])
        refine wpAnyH_take (i := 14) (oi := { dst := some 100, op := Go.Op.move (Go.Operand.tmp 3), type := 3, pos := "top05.go:63", after := #[], guard := none }) (v := (.int .i64 t)) rfl (by kernel_rfl) (by kernel_rfl) (by kernel_rfl) (fun _ _ _ h => h) (Or.inl ⟨by rfl, ?_⟩) hH ?_
        · intro w hSw
          (try dsimp only at hSw)
          go_simp
        (try simp only [Act.put, List.setIfInBounds_toArray, List.set_cons_zero, List.set_cons_succ])
        refine wpAnyH_ready (rs := [15]) (by kernel_rfl) (by simp) ?_
        refine AllReadyH.cons rfl (fun K hK => ?_) AllReadyH.nil
        (try dsimp only at hH)
        go_simp
        refine (HTN.out _ HBV.out).mono ?_
        rintro e w6 ⟨g2, c2, h2, c3, cur2, rfl, hg2, hr2, hb6⟩
        refine hK.out _ _ (HQ14.out _ (HBV.out.trans (hb6.mono HBV.out.size))) (fun hH1 => ?_)
        clear hK K
        have HB6 := hid (HBV.out.trans (hb6.mono HBV.out.size))
        have HZ6 := hid (carry HZV.out hb6)
        have HG2 := hid hg2
        have HR2 := hid hr2
        clear hb6 hg2 hr2
        (try simp only [Act.put, List.setIfInBounds_toArray, List.set_cons_zero, List.set_cons_succ])
        refine wpAnyH_take (i := 16) (oi := { dst := some 85, op := Go.Op.move (Go.Operand.tmp 101), type := 76, pos := "top05.go:63", after := #[{ on := 15, ground := Go.Ground.data }], guard := none }) (v := (.tuple #[.slice (some ⟨g2, 0, none⟩) 1 c2, .slice h2 0 c3, .int .i64 0])) rfl (by kernel_rfl) (by kernel_rfl) (by kernel_rfl) (fun _ _ _ h => h) (Or.inl ⟨by rfl, ?_⟩) hH1 ?_
        · intro w hSw
          (try dsimp only at hSw)
          go_simp
        (try simp only [Act.put, List.setIfInBounds_toArray, List.set_cons_zero, List.set_cons_succ])
        refine wpAnyH_take (i := 17) (oi := { dst := some 102, op := Go.Op.extract (Go.Operand.tmp 85) 0, type := 74, pos := "top05.go:63", after := #[{ on := 16, ground := Go.Ground.data }], guard := none }) (v := (.slice (some ⟨g2, 0, none⟩) 1 c2)) rfl (by kernel_rfl) (by kernel_rfl) (by kernel_rfl) (fun _ _ _ h => h) (Or.inl ⟨by rfl, ?_⟩) hH1 ?_
        · intro w hSw
          (try dsimp only at hSw)
          go_simp
        (try simp only [Act.put, List.setIfInBounds_toArray, List.set_cons_zero, List.set_cons_succ])
        refine wpAnyH_take (i := 18) (oi := { dst := some 103, op := Go.Op.extract (Go.Operand.tmp 85) 1, type := 75, pos := "top05.go:63", after := #[{ on := 16, ground := Go.Ground.data }, { on := 20, ground := Go.Ground.gcOnly Go.Departure.lateStores }], guard := none }) (v := (.slice h2 0 c3)) rfl (by kernel_rfl) (by kernel_rfl) (by kernel_rfl) (fun _ _ _ h => h) (Or.inl ⟨by rfl, ?_⟩) hH1 ?_
        · intro w hSw
          (try dsimp only at hSw)
          go_simp
        (try simp only [Act.put, List.setIfInBounds_toArray, List.set_cons_zero, List.set_cons_succ])
        refine wpAnyH_take (i := 19) (oi := { dst := some 104, op := Go.Op.extract (Go.Operand.tmp 85) 2, type := 33, pos := "top05.go:63", after := #[{ on := 16, ground := Go.Ground.data }, { on := 21, ground := Go.Ground.gcOnly Go.Departure.lateStores }], guard := none }) (v := (.int .i64 0)) rfl (by kernel_rfl) (by kernel_rfl) (by kernel_rfl) (fun _ _ _ h => h) (Or.inl ⟨by rfl, ?_⟩) hH1 ?_
        · intro w hSw
          (try dsimp only at hSw)
          go_simp
        (try simp only [Act.put, List.setIfInBounds_toArray, List.set_cons_zero, List.set_cons_succ])
        refine wpAnyH_take (i := 20) (oi := { dst := some 16, op := Go.Op.assign (Go.Operand.tmp 102), type := 74, pos := "top05.go:63", after := #[{ on := 17, ground := Go.Ground.data }, { on := 15, ground := Go.Ground.chain }, { on := 0, ground := Go.Ground.phase }, { on := 1, ground := Go.Ground.phase }, { on := 2, ground := Go.Ground.phase }, { on := 3, ground := Go.Ground.phase }, { on := 4, ground := Go.Ground.phase }, { on := 5, ground := Go.Ground.phase }, { on := 6, ground := Go.Ground.phase }, { on := 7, ground := Go.Ground.phase }, { on := 8, ground := Go.Ground.phase }, { on := 9, ground := Go.Ground.phase }, { on := 10, ground := Go.Ground.phase }, { on := 11, ground := Go.Ground.phase }, { on := 12, ground := Go.Ground.phase }, { on := 13, ground := Go.Ground.phase }, { on := 14, ground := Go.Ground.phase }, { on := 15, ground := Go.Ground.phase }, { on := 16, ground := Go.Ground.phase }, { on := 17, ground := Go.Ground.phase }, { on := 18, ground := Go.Ground.textOnly Go.Departure.lateStores }, { on := 19, ground := Go.Ground.textOnly Go.Departure.lateStores }], guard := none }) (v := (.slice (some ⟨g2, 0, none⟩) 1 c2)) rfl (by kernel_rfl) (by kernel_rfl) (by kernel_rfl) (fun _ _ _ h => h) (Or.inl ⟨by rfl, ?_⟩) hH1 ?_
        · intro w hSw
          (try dsimp only at hSw)
          go_simp
        (try simp only [Act.put, List.setIfInBounds_toArray, List.set_cons_zero, List.set_cons_succ])
        refine wpAnyH_take (i := 21) (oi := { dst := some 17, op := Go.Op.assign (Go.Operand.tmp 103), type := 75, pos := "top05.go:63", after := #[{ on := 18, ground := Go.Ground.data }, { on := 20, ground := Go.Ground.chain }, { on := 0, ground := Go.Ground.phase }, { on := 1, ground := Go.Ground.phase }, { on := 2, ground := Go.Ground.phase }, { on := 3, ground := Go.Ground.phase }, { on := 4, ground := Go.Ground.phase }, { on := 5, ground := Go.Ground.phase }, { on := 6, ground := Go.Ground.phase }, { on := 7, ground := Go.Ground.phase }, { on := 8, ground := Go.Ground.phase }, { on := 9, ground := Go.Ground.phase }, { on := 10, ground := Go.Ground.phase }, { on := 11, ground := Go.Ground.phase }, { on := 12, ground := Go.Ground.phase }, { on := 13, ground := Go.Ground.phase }, { on := 14, ground := Go.Ground.phase }, { on := 15, ground := Go.Ground.phase }, { on := 16, ground := Go.Ground.phase }, { on := 17, ground := Go.Ground.phase }, { on := 18, ground := Go.Ground.phase }, { on := 19, ground := Go.Ground.textOnly Go.Departure.lateStores }, { on := 20, ground := Go.Ground.phase }], guard := none }) (v := (.slice h2 0 c3)) rfl (by kernel_rfl) (by kernel_rfl) (by kernel_rfl) (fun _ _ _ h => h) (Or.inl ⟨by rfl, ?_⟩) hH1 ?_
        · intro w hSw
          (try dsimp only at hSw)
          go_simp
        (try simp only [Act.put, List.setIfInBounds_toArray, List.set_cons_zero, List.set_cons_succ])
        refine wpAnyH_take (i := 22) (oi := { dst := some 18, op := Go.Op.assign (Go.Operand.tmp 104), type := 33, pos := "top05.go:63", after := #[{ on := 19, ground := Go.Ground.data }, { on := 21, ground := Go.Ground.chain }, { on := 0, ground := Go.Ground.phase }, { on := 1, ground := Go.Ground.phase }, { on := 2, ground := Go.Ground.phase }, { on := 3, ground := Go.Ground.phase }, { on := 4, ground := Go.Ground.phase }, { on := 5, ground := Go.Ground.phase }, { on := 6, ground := Go.Ground.phase }, { on := 7, ground := Go.Ground.phase }, { on := 8, ground := Go.Ground.phase }, { on := 9, ground := Go.Ground.phase }, { on := 10, ground := Go.Ground.phase }, { on := 11, ground := Go.Ground.phase }, { on := 12, ground := Go.Ground.phase }, { on := 13, ground := Go.Ground.phase }, { on := 14, ground := Go.Ground.phase }, { on := 15, ground := Go.Ground.phase }, { on := 16, ground := Go.Ground.phase }, { on := 17, ground := Go.Ground.phase }, { on := 18, ground := Go.Ground.phase }, { on := 19, ground := Go.Ground.phase }, { on := 20, ground := Go.Ground.phase }, { on := 21, ground := Go.Ground.phase }], guard := none }) (v := (.int .i64 0)) rfl (by kernel_rfl) (by kernel_rfl) (by kernel_rfl) (fun _ _ _ h => h) (Or.inl ⟨by rfl, ?_⟩) hH1 ?_
        · intro w hSw
          (try dsimp only at hSw)
          go_simp
        (try simp only [Act.put, List.setIfInBounds_toArray, List.set_cons_zero, List.set_cons_succ])
        refine wpAnyH_done (by kernel_rfl) ?_ _
        clear HBV HZV
        have q0 : w6.cell? ⟨g2, 0, none⟩ = some (.int .i64 et) := cellN HG2.out (by have h := HR2.out 0 (by omega); rwa [Nat.zero_add] at h)
        have q1 : w6.cell? ⟨g2, 1, none⟩ = some (.int .i64 en) := cellN HG2.out (by have h := HR2.out 1 (by omega); rwa [Nat.zero_add] at h)
        have q2 : w6.cell? ⟨g2, 2, none⟩ = some (.int .i64 epx) := cellN HG2.out (by have h := HR2.out 2 (by omega); rwa [Nat.zero_add] at h)
        have q3 : w6.cell? ⟨g2, 3, none⟩ = some (.int .i64 epy) := cellN HG2.out (by have h := HR2.out 3 (by omega); rwa [Nat.zero_add] at h)
        have q4 : w6.cell? ⟨g2, 4, none⟩ = some (.int .i64 evx) := cellN HG2.out (by have h := HR2.out 4 (by omega); rwa [Nat.zero_add] at h)
        have q5 : w6.cell? ⟨g2, 5, none⟩ = some (.int .i64 evy) := cellN HG2.out (by have h := HR2.out 5 (by omega); rwa [Nat.zero_add] at h)
        have q6 : w6.cell? ⟨g2, 6, none⟩ = some (.int .i64 esp) := cellN HG2.out (by have h := HR2.out 6 (by omega); rwa [Nat.zero_add] at h)
        have q7 : w6.cell? ⟨g2, 7, none⟩ = some (.bool e_o) := cellN HG2.out (by have h := HR2.out 7 (by omega); rwa [Nat.zero_add] at h)
        have z0 := cellN (i := 0) (v := .int .i64 0) HZ6.out rfl
        have z1 := cellN (i := 1) (v := .int .i64 0) HZ6.out rfl
        have z2 := cellN (i := 2) (v := .int .i64 0) HZ6.out rfl
        have z3 := cellN (i := 3) (v := .int .i64 0) HZ6.out rfl
        have z4 := cellN (i := 4) (v := .int .i64 0) HZ6.out rfl
        have z5 := cellN (i := 5) (v := .int .i64 0) HZ6.out rfl
        have z6 := cellN (i := 6) (v := .int .i64 0) HZ6.out rfl
        have z7 := cellN (i := 7) (v := .bool false) HZ6.out rfl
        have f0 := frozN (i := 0) HZ6.out
        have f1 := frozN (i := 1) HZ6.out
        have f2 := frozN (i := 2) HZ6.out
        have f3 := frozN (i := 3) HZ6.out
        have f4 := frozN (i := 4) HZ6.out
        have f5 := frozN (i := 5) HZ6.out
        have f6 := frozN (i := 6) HZ6.out
        have f7 := frozN (i := 7) HZ6.out
        go_wp2_with fail
        have hz9 := put8 (o := 0) (.int .i64 et) (.int .i64 en) (.int .i64 epx) (.int .i64 epy) (.int .i64 evx) (.int .i64 evy) (.int .i64 esp) (.bool e_o) HZ6.out
        have hb9 := put8_below (o := 0) (.int .i64 et) (.int .i64 en) (.int .i64 epx) (.int .i64 epy) (.int .i64 evx) (.int .i64 evy) (.int .i64 esp) (.bool e_o) HB6.out HBZ.out
        refine ⟨?_, ?_⟩
        · iterate 46 apply Exists.intro
          refine ⟨⟨1, by omega, rfl, hz9, hb9⟩, ?_⟩
          rfl
        · simp [intOf]
      · rw [if_neg hw] at HLN0
        have HTN := hid (show ∀ W, Below w4.heap.size w4 W → Calls Tryz.prog 17 #[.agg #[.int .i64 r.i.cx, .int .i64 r.i.cy, .int .i64 r.i.sd, .int .i64 r.i.W, .int .i64 r.i.H, .slice pa r.i.pl.length pc, .slice qa r.i.ql.length qc], .agg #[.int .i64 r.g.fl, .int .i64 r.g.kn, .int .i64 r.g.a, .int .i64 r.g.b, .int .i64 r.g.c], .slice (some ⟨bl, 0, none⟩) 1 2, .slice ba r.bl.length bc, .int .i64 (-1), .int .i64 r.el, .int .i64 t] W fun e w' => ∃ g2 c2 h2 c3 cur2, e = .returned (.tuple #[.slice (some ⟨g2, 0, none⟩) 1 c2, .slice h2 0 c3, .int .i64 0]) ∧ w'.heap[g2]? = some (.cells cur2 72 (0, 0)) ∧ RowB cur2 (0 + 0) ⟨et, en, ⟨epx, epy, evx, evy, esp⟩, e_o⟩ ∧ Below W.heap.size W w' from fun W hB => by
          have h := HTK.out ⟨r.i, r.g, r.bl, (-1), r.el⟩ HRA.out (.slice (some ⟨bl, 0, none⟩) 1 2) [⟨ct, cn, ⟨cpx, cpy, cvx, cvy, csp⟩, c_o⟩] W (HB4.out.trans (hB.mono HB4.out.size)) (slB_one (carry HP4.out hB) HRV.out.1)
          rw [HLN0] at h
          exact h.mono (fun e w' hx => tickX_one hx))
        have hw2 : (r.who == (0 : Int)) = false := by rw [beq_eq_false_iff_ne]; exact hw
        clear hw HLN0 HLN1
        go_upto_region 14 with fail
        clear r13 hw2
        refine wp_region_held_drew (S := (fun W => W.cell? ⟨w.heap.size, 0, none⟩ = some (.int .i64 r.i.cx) ∧ W.cell? ⟨w.heap.size, 1, none⟩ = some (.int .i64 r.i.cy) ∧ W.cell? ⟨w.heap.size, 2, none⟩ = some (.int .i64 r.i.sd) ∧ W.cell? ⟨w.heap.size, 3, none⟩ = some (.int .i64 r.i.W) ∧ W.cell? ⟨w.heap.size, 4, none⟩ = some (.int .i64 r.i.H) ∧ W.cell? ⟨w.heap.size, 5, none⟩ = some (.slice pa r.i.pl.length pc) ∧ W.cell? ⟨w.heap.size, 6, none⟩ = some (.slice qa r.i.ql.length qc) ∧ W.cell? ⟨w.heap.size, 7, none⟩ = some (.int .i64 r.g.fl) ∧ W.cell? ⟨w.heap.size, 8, none⟩ = some (.int .i64 r.g.kn) ∧ W.cell? ⟨w.heap.size, 9, none⟩ = some (.int .i64 r.g.a) ∧ W.cell? ⟨w.heap.size, 10, none⟩ = some (.int .i64 r.g.b) ∧ W.cell? ⟨w.heap.size, 11, none⟩ = some (.int .i64 r.g.c) ∧ W.cell? ⟨w.heap.size, 12, none⟩ = some (.slice ba r.bl.length bc) ∧ W.cell? ⟨w.heap.size, 14, none⟩ = some (.int .i64 r.el))) (by kernel_rfl) (HQ14.out _ HBQ.out.drew) (fun hH => ?_)
        obtain ⟨v0, hv0⟩ : ∃ v0, v0 = wq.drew := ⟨_, rfl⟩
        have HBV := hid (show Below w4.heap.size w4 v0 by rw [hv0]; exact HBQ.out.drew)
        have HZV := hid (show v0.heap[bz]? = some (.cells #[.int .i64 0, .int .i64 0, .int .i64 0, .int .i64 0, .int .i64 0, .int .i64 0, .int .i64 0, .bool false, .int .i64 0, .int .i64 0, .int .i64 0, .int .i64 0, .int .i64 0, .int .i64 0, .int .i64 0, .bool false] 78 (0, 0)) by rw [hv0]; exact HZQ.out)
        rw [← hv0] at hH ⊢
        clear hv0
        refine wpAnyH_take (i := 0) (oi := { dst := some 86, op := Go.Op.fieldAddr 70 (Go.Operand.tmp 4) 0, type := 0, pos := "top05.go:63", after := #[], guard := none }) (v := (.pointer (some ⟨w.heap.size, 0, none⟩))) rfl (by kernel_rfl) (by kernel_rfl) (by kernel_rfl) (fun _ _ _ h => h) (Or.inl ⟨by rfl, ?_⟩) hH ?_
        · intro w hSw
          (try dsimp only at hSw)
          go_simp
        (try simp only [Act.put, List.setIfInBounds_toArray, List.set_cons_zero, List.set_cons_succ])
        refine wpAnyH_take (i := 1) (oi := { dst := some 87, op := Go.Op.load 31 (Go.Operand.tmp 86), type := 31, pos := "top05.go:63", after := #[{ on := 0, ground := Go.Ground.data }], guard := none }) (v := (.agg #[.int .i64 r.i.cx, .int .i64 r.i.cy, .int .i64 r.i.sd, .int .i64 r.i.W, .int .i64 r.i.H, .slice pa r.i.pl.length pc, .slice qa r.i.ql.length qc])) rfl (by kernel_rfl) (by kernel_rfl) (by kernel_rfl) (fun _ _ _ h => h) (Or.inl ⟨by rfl, ?_⟩) hH ?_
        · intro w hSw
          (try dsimp only at hSw)
          go_simp
        (try simp only [Act.put, List.setIfInBounds_toArray, List.set_cons_zero, List.set_cons_succ])
        refine wpAnyH_take (i := 2) (oi := { dst := some 88, op := Go.Op.fieldAddr 70 (Go.Operand.tmp 4) 1, type := 0, pos := "top05.go:63", after := #[], guard := none }) (v := (.pointer (some ⟨w.heap.size, 7, none⟩))) rfl (by kernel_rfl) (by kernel_rfl) (by kernel_rfl) (fun _ _ _ h => h) (Or.inl ⟨by rfl, ?_⟩) hH ?_
        · intro w hSw
          (try dsimp only at hSw)
          go_simp
        (try simp only [Act.put, List.setIfInBounds_toArray, List.set_cons_zero, List.set_cons_succ])
        refine wpAnyH_take (i := 3) (oi := { dst := some 89, op := Go.Op.load 24 (Go.Operand.tmp 88), type := 24, pos := "top05.go:63", after := #[{ on := 2, ground := Go.Ground.data }], guard := none }) (v := (.agg #[.int .i64 r.g.fl, .int .i64 r.g.kn, .int .i64 r.g.a, .int .i64 r.g.b, .int .i64 r.g.c])) rfl (by kernel_rfl) (by kernel_rfl) (by kernel_rfl) (fun _ _ _ h => h) (Or.inl ⟨by rfl, ?_⟩) hH ?_
        · intro w hSw
          (try dsimp only at hSw)
          go_simp
        (try simp only [Act.put, List.setIfInBounds_toArray, List.set_cons_zero, List.set_cons_succ])
        refine wpAnyH_take (i := 4) (oi := { dst := some 90, op := Go.Op.move (Go.Operand.tmp 9), type := 74, pos := "top05.go:63", after := #[], guard := none }) (v := (.slice (some ⟨bl, 0, none⟩) 2 2)) rfl (by kernel_rfl) (by kernel_rfl) (by kernel_rfl) (fun _ _ _ h => h) (Or.inl ⟨by rfl, ?_⟩) hH ?_
        · intro w hSw
          (try dsimp only at hSw)
          go_simp
        (try simp only [Act.put, List.setIfInBounds_toArray, List.set_cons_zero, List.set_cons_succ])
        refine wpAnyH_take (i := 5) (oi := { dst := some 91, op := Go.Op.move (Go.Operand.tmp 14), type := 3, pos := "top05.go:63", after := #[], guard := none }) (v := (.int .i64 0)) rfl (by kernel_rfl) (by kernel_rfl) (by kernel_rfl) (fun _ _ _ h => h) (Or.inl ⟨by rfl, ?_⟩) hH ?_
        · intro w hSw
          (try dsimp only at hSw)
          go_simp
        (try simp only [Act.put, List.setIfInBounds_toArray, List.set_cons_zero, List.set_cons_succ])
        refine wpAnyH_take (i := 6) (oi := { dst := some 92, op := Go.Op.move (Go.Operand.tmp 14), type := 3, pos := "top05.go:63", after := #[], guard := none }) (v := (.int .i64 0)) rfl (by kernel_rfl) (by kernel_rfl) (by kernel_rfl) (fun _ _ _ h => h) (Or.inl ⟨by rfl, ?_⟩) hH ?_
        · intro w hSw
          (try dsimp only at hSw)
          go_simp
        (try simp only [Act.put, List.setIfInBounds_toArray, List.set_cons_zero, List.set_cons_succ])
        refine wpAnyH_take (i := 7) (oi := { dst := some 93, op := Go.Op.binOp Go.BinOp.add 3 (Go.Operand.tmp 92) (Go.Operand.const (Go.Value.int Go.IntKind.i64 1)) 3, type := 3, pos := "top05.go:63", after := #[{ on := 6, ground := Go.Ground.data }], guard := none }) (v := (.int .i64 1)) rfl (by kernel_rfl) (by kernel_rfl) (by kernel_rfl) (fun _ _ _ h => h) (Or.inl ⟨by rfl, ?_⟩) hH ?_
        · intro w hSw
          (try dsimp only at hSw)
          go_simp
          rfl
        (try simp only [Act.put, List.setIfInBounds_toArray, List.set_cons_zero, List.set_cons_succ])
        refine wpAnyH_take (i := 8) (oi := { dst := some 94, op := Go.Op.slice 74 (Go.Operand.tmp 90) (some (Go.Operand.tmp 91)) (some (Go.Operand.tmp 93)) none, type := 74, pos := "top05.go:63", after := #[{ on := 4, ground := Go.Ground.data }, { on := 5, ground := Go.Ground.data }, { on := 7, ground := Go.Ground.data }], guard := none }) (v := (.slice (some ⟨bl, 0, none⟩) 1 2)) rfl (by kernel_rfl) (by kernel_rfl) (by kernel_rfl) (fun _ _ _ h => h) (Or.inl ⟨by rfl, ?_⟩) hH ?_
        · intro w hSw
          (try dsimp only at hSw)
          go_simp
        (try simp only [Act.put, List.setIfInBounds_toArray, List.set_cons_zero, List.set_cons_succ])
        refine wpAnyH_take (i := 9) (oi := { dst := some 95, op := Go.Op.fieldAddr 70 (Go.Operand.tmp 4) 2, type := 0, pos := "top05.go:63", after := #[], guard := none }) (v := (.pointer (some ⟨w.heap.size, 12, none⟩))) rfl (by kernel_rfl) (by kernel_rfl) (by kernel_rfl) (fun _ _ _ h => h) (Or.inl ⟨by rfl, ?_⟩) hH ?_
        · intro w hSw
          (try dsimp only at hSw)
          go_simp
        (try simp only [Act.put, List.setIfInBounds_toArray, List.set_cons_zero, List.set_cons_succ])
        refine wpAnyH_take (i := 10) (oi := { dst := some 96, op := Go.Op.load 68 (Go.Operand.tmp 95), type := 68, pos := "top05.go:63", after := #[{ on := 9, ground := Go.Ground.data }], guard := none }) (v := (.slice ba r.bl.length bc)) rfl (by kernel_rfl) (by kernel_rfl) (by kernel_rfl) (fun _ _ _ h => h) (Or.inl ⟨by rfl, ?_⟩) hH ?_
        · intro w hSw
          (try dsimp only at hSw)
          go_simp
        (try simp only [Act.put, List.setIfInBounds_toArray, List.set_cons_zero, List.set_cons_succ])
        refine wpAnyH_take (i := 11) (oi := { dst := some 97, op := Go.Op.move (Go.Operand.tmp 15), type := 3, pos := "top05.go:63", after := #[], guard := none }) (v := (.int .i64 (-1))) rfl (by kernel_rfl) (by kernel_rfl) (by kernel_rfl) (fun _ _ _ h => h) (Or.inl ⟨by rfl, ?_⟩) hH ?_
        · intro w hSw
          (try dsimp only at hSw)
          go_simp
        (try simp only [Act.put, List.setIfInBounds_toArray, List.set_cons_zero, List.set_cons_succ])
        refine wpAnyH_take (i := 12) (oi := { dst := some 98, op := Go.Op.fieldAddr 70 (Go.Operand.tmp 4) 4, type := 0, pos := "top05.go:63", after := #[], guard := none }) (v := (.pointer (some ⟨w.heap.size, 14, none⟩))) rfl (by kernel_rfl) (by kernel_rfl) (by kernel_rfl) (fun _ _ _ h => h) (Or.inl ⟨by rfl, ?_⟩) hH ?_
        · intro w hSw
          (try dsimp only at hSw)
          go_simp
        (try simp only [Act.put, List.setIfInBounds_toArray, List.set_cons_zero, List.set_cons_succ])
        refine wpAnyH_take (i := 13) (oi := { dst := some 99, op := Go.Op.load 3 (Go.Operand.tmp 98), type := 3, pos := "top05.go:63", after := #[{ on := 12, ground := Go.Ground.data }], guard := none }) (v := (.int .i64 r.el)) rfl (by kernel_rfl) (by kernel_rfl) (by kernel_rfl) (fun _ _ _ h => h) (Or.inl ⟨by rfl, ?_⟩) hH ?_
        · intro w hSw
          (try dsimp only at hSw)
          go_simp
        (try simp only [Act.put, List.setIfInBounds_toArray, List.set_cons_zero, List.set_cons_succ])
        refine wpAnyH_take (i := 14) (oi := { dst := some 100, op := Go.Op.move (Go.Operand.tmp 3), type := 3, pos := "top05.go:63", after := #[], guard := none }) (v := (.int .i64 t)) rfl (by kernel_rfl) (by kernel_rfl) (by kernel_rfl) (fun _ _ _ h => h) (Or.inl ⟨by rfl, ?_⟩) hH ?_
        · intro w hSw
          (try dsimp only at hSw)
          go_simp
        (try simp only [Act.put, List.setIfInBounds_toArray, List.set_cons_zero, List.set_cons_succ])
        refine wpAnyH_ready (rs := [15]) (by kernel_rfl) (by simp) ?_
        refine AllReadyH.cons rfl (fun K hK => ?_) AllReadyH.nil
        (try dsimp only at hH)
        go_simp
        refine (HTN.out _ HBV.out).mono ?_
        rintro e w6 ⟨g2, c2, h2, c3, cur2, rfl, hg2, hr2, hb6⟩
        refine hK.out _ _ (HQ14.out _ (HBV.out.trans (hb6.mono HBV.out.size))) (fun hH1 => ?_)
        clear hK K
        have HB6 := hid (HBV.out.trans (hb6.mono HBV.out.size))
        have HZ6 := hid (carry HZV.out hb6)
        have HG2 := hid hg2
        have HR2 := hid hr2
        clear hb6 hg2 hr2
        (try simp only [Act.put, List.setIfInBounds_toArray, List.set_cons_zero, List.set_cons_succ])
        refine wpAnyH_take (i := 16) (oi := { dst := some 85, op := Go.Op.move (Go.Operand.tmp 101), type := 76, pos := "top05.go:63", after := #[{ on := 15, ground := Go.Ground.data }], guard := none }) (v := (.tuple #[.slice (some ⟨g2, 0, none⟩) 1 c2, .slice h2 0 c3, .int .i64 0])) rfl (by kernel_rfl) (by kernel_rfl) (by kernel_rfl) (fun _ _ _ h => h) (Or.inl ⟨by rfl, ?_⟩) hH1 ?_
        · intro w hSw
          (try dsimp only at hSw)
          go_simp
        (try simp only [Act.put, List.setIfInBounds_toArray, List.set_cons_zero, List.set_cons_succ])
        refine wpAnyH_take (i := 17) (oi := { dst := some 102, op := Go.Op.extract (Go.Operand.tmp 85) 0, type := 74, pos := "top05.go:63", after := #[{ on := 16, ground := Go.Ground.data }], guard := none }) (v := (.slice (some ⟨g2, 0, none⟩) 1 c2)) rfl (by kernel_rfl) (by kernel_rfl) (by kernel_rfl) (fun _ _ _ h => h) (Or.inl ⟨by rfl, ?_⟩) hH1 ?_
        · intro w hSw
          (try dsimp only at hSw)
          go_simp
        (try simp only [Act.put, List.setIfInBounds_toArray, List.set_cons_zero, List.set_cons_succ])
        refine wpAnyH_take (i := 18) (oi := { dst := some 103, op := Go.Op.extract (Go.Operand.tmp 85) 1, type := 75, pos := "top05.go:63", after := #[{ on := 16, ground := Go.Ground.data }, { on := 20, ground := Go.Ground.gcOnly Go.Departure.lateStores }], guard := none }) (v := (.slice h2 0 c3)) rfl (by kernel_rfl) (by kernel_rfl) (by kernel_rfl) (fun _ _ _ h => h) (Or.inl ⟨by rfl, ?_⟩) hH1 ?_
        · intro w hSw
          (try dsimp only at hSw)
          go_simp
        (try simp only [Act.put, List.setIfInBounds_toArray, List.set_cons_zero, List.set_cons_succ])
        refine wpAnyH_take (i := 19) (oi := { dst := some 104, op := Go.Op.extract (Go.Operand.tmp 85) 2, type := 33, pos := "top05.go:63", after := #[{ on := 16, ground := Go.Ground.data }, { on := 21, ground := Go.Ground.gcOnly Go.Departure.lateStores }], guard := none }) (v := (.int .i64 0)) rfl (by kernel_rfl) (by kernel_rfl) (by kernel_rfl) (fun _ _ _ h => h) (Or.inl ⟨by rfl, ?_⟩) hH1 ?_
        · intro w hSw
          (try dsimp only at hSw)
          go_simp
        (try simp only [Act.put, List.setIfInBounds_toArray, List.set_cons_zero, List.set_cons_succ])
        refine wpAnyH_take (i := 20) (oi := { dst := some 16, op := Go.Op.assign (Go.Operand.tmp 102), type := 74, pos := "top05.go:63", after := #[{ on := 17, ground := Go.Ground.data }, { on := 15, ground := Go.Ground.chain }, { on := 0, ground := Go.Ground.phase }, { on := 1, ground := Go.Ground.phase }, { on := 2, ground := Go.Ground.phase }, { on := 3, ground := Go.Ground.phase }, { on := 4, ground := Go.Ground.phase }, { on := 5, ground := Go.Ground.phase }, { on := 6, ground := Go.Ground.phase }, { on := 7, ground := Go.Ground.phase }, { on := 8, ground := Go.Ground.phase }, { on := 9, ground := Go.Ground.phase }, { on := 10, ground := Go.Ground.phase }, { on := 11, ground := Go.Ground.phase }, { on := 12, ground := Go.Ground.phase }, { on := 13, ground := Go.Ground.phase }, { on := 14, ground := Go.Ground.phase }, { on := 15, ground := Go.Ground.phase }, { on := 16, ground := Go.Ground.phase }, { on := 17, ground := Go.Ground.phase }, { on := 18, ground := Go.Ground.textOnly Go.Departure.lateStores }, { on := 19, ground := Go.Ground.textOnly Go.Departure.lateStores }], guard := none }) (v := (.slice (some ⟨g2, 0, none⟩) 1 c2)) rfl (by kernel_rfl) (by kernel_rfl) (by kernel_rfl) (fun _ _ _ h => h) (Or.inl ⟨by rfl, ?_⟩) hH1 ?_
        · intro w hSw
          (try dsimp only at hSw)
          go_simp
        (try simp only [Act.put, List.setIfInBounds_toArray, List.set_cons_zero, List.set_cons_succ])
        refine wpAnyH_take (i := 21) (oi := { dst := some 17, op := Go.Op.assign (Go.Operand.tmp 103), type := 75, pos := "top05.go:63", after := #[{ on := 18, ground := Go.Ground.data }, { on := 20, ground := Go.Ground.chain }, { on := 0, ground := Go.Ground.phase }, { on := 1, ground := Go.Ground.phase }, { on := 2, ground := Go.Ground.phase }, { on := 3, ground := Go.Ground.phase }, { on := 4, ground := Go.Ground.phase }, { on := 5, ground := Go.Ground.phase }, { on := 6, ground := Go.Ground.phase }, { on := 7, ground := Go.Ground.phase }, { on := 8, ground := Go.Ground.phase }, { on := 9, ground := Go.Ground.phase }, { on := 10, ground := Go.Ground.phase }, { on := 11, ground := Go.Ground.phase }, { on := 12, ground := Go.Ground.phase }, { on := 13, ground := Go.Ground.phase }, { on := 14, ground := Go.Ground.phase }, { on := 15, ground := Go.Ground.phase }, { on := 16, ground := Go.Ground.phase }, { on := 17, ground := Go.Ground.phase }, { on := 18, ground := Go.Ground.phase }, { on := 19, ground := Go.Ground.textOnly Go.Departure.lateStores }, { on := 20, ground := Go.Ground.phase }], guard := none }) (v := (.slice h2 0 c3)) rfl (by kernel_rfl) (by kernel_rfl) (by kernel_rfl) (fun _ _ _ h => h) (Or.inl ⟨by rfl, ?_⟩) hH1 ?_
        · intro w hSw
          (try dsimp only at hSw)
          go_simp
        (try simp only [Act.put, List.setIfInBounds_toArray, List.set_cons_zero, List.set_cons_succ])
        refine wpAnyH_take (i := 22) (oi := { dst := some 18, op := Go.Op.assign (Go.Operand.tmp 104), type := 33, pos := "top05.go:63", after := #[{ on := 19, ground := Go.Ground.data }, { on := 21, ground := Go.Ground.chain }, { on := 0, ground := Go.Ground.phase }, { on := 1, ground := Go.Ground.phase }, { on := 2, ground := Go.Ground.phase }, { on := 3, ground := Go.Ground.phase }, { on := 4, ground := Go.Ground.phase }, { on := 5, ground := Go.Ground.phase }, { on := 6, ground := Go.Ground.phase }, { on := 7, ground := Go.Ground.phase }, { on := 8, ground := Go.Ground.phase }, { on := 9, ground := Go.Ground.phase }, { on := 10, ground := Go.Ground.phase }, { on := 11, ground := Go.Ground.phase }, { on := 12, ground := Go.Ground.phase }, { on := 13, ground := Go.Ground.phase }, { on := 14, ground := Go.Ground.phase }, { on := 15, ground := Go.Ground.phase }, { on := 16, ground := Go.Ground.phase }, { on := 17, ground := Go.Ground.phase }, { on := 18, ground := Go.Ground.phase }, { on := 19, ground := Go.Ground.phase }, { on := 20, ground := Go.Ground.phase }, { on := 21, ground := Go.Ground.phase }], guard := none }) (v := (.int .i64 0)) rfl (by kernel_rfl) (by kernel_rfl) (by kernel_rfl) (fun _ _ _ h => h) (Or.inl ⟨by rfl, ?_⟩) hH1 ?_
        · intro w hSw
          (try dsimp only at hSw)
          go_simp
        (try simp only [Act.put, List.setIfInBounds_toArray, List.set_cons_zero, List.set_cons_succ])
        refine wpAnyH_done (by kernel_rfl) ?_ _
        clear HBV HZV
        have q0 : w6.cell? ⟨g2, 0, none⟩ = some (.int .i64 et) := cellN HG2.out (by have h := HR2.out 0 (by omega); rwa [Nat.zero_add] at h)
        have q1 : w6.cell? ⟨g2, 1, none⟩ = some (.int .i64 en) := cellN HG2.out (by have h := HR2.out 1 (by omega); rwa [Nat.zero_add] at h)
        have q2 : w6.cell? ⟨g2, 2, none⟩ = some (.int .i64 epx) := cellN HG2.out (by have h := HR2.out 2 (by omega); rwa [Nat.zero_add] at h)
        have q3 : w6.cell? ⟨g2, 3, none⟩ = some (.int .i64 epy) := cellN HG2.out (by have h := HR2.out 3 (by omega); rwa [Nat.zero_add] at h)
        have q4 : w6.cell? ⟨g2, 4, none⟩ = some (.int .i64 evx) := cellN HG2.out (by have h := HR2.out 4 (by omega); rwa [Nat.zero_add] at h)
        have q5 : w6.cell? ⟨g2, 5, none⟩ = some (.int .i64 evy) := cellN HG2.out (by have h := HR2.out 5 (by omega); rwa [Nat.zero_add] at h)
        have q6 : w6.cell? ⟨g2, 6, none⟩ = some (.int .i64 esp) := cellN HG2.out (by have h := HR2.out 6 (by omega); rwa [Nat.zero_add] at h)
        have q7 : w6.cell? ⟨g2, 7, none⟩ = some (.bool e_o) := cellN HG2.out (by have h := HR2.out 7 (by omega); rwa [Nat.zero_add] at h)
        have z0 := cellN (i := 0) (v := .int .i64 0) HZ6.out rfl
        have z1 := cellN (i := 1) (v := .int .i64 0) HZ6.out rfl
        have z2 := cellN (i := 2) (v := .int .i64 0) HZ6.out rfl
        have z3 := cellN (i := 3) (v := .int .i64 0) HZ6.out rfl
        have z4 := cellN (i := 4) (v := .int .i64 0) HZ6.out rfl
        have z5 := cellN (i := 5) (v := .int .i64 0) HZ6.out rfl
        have z6 := cellN (i := 6) (v := .int .i64 0) HZ6.out rfl
        have z7 := cellN (i := 7) (v := .bool false) HZ6.out rfl
        have f0 := frozN (i := 0) HZ6.out
        have f1 := frozN (i := 1) HZ6.out
        have f2 := frozN (i := 2) HZ6.out
        have f3 := frozN (i := 3) HZ6.out
        have f4 := frozN (i := 4) HZ6.out
        have f5 := frozN (i := 5) HZ6.out
        have f6 := frozN (i := 6) HZ6.out
        have f7 := frozN (i := 7) HZ6.out
        go_wp2_with fail
        have hz9 := put8 (o := 0) (.int .i64 et) (.int .i64 en) (.int .i64 epx) (.int .i64 epy) (.int .i64 evx) (.int .i64 evy) (.int .i64 esp) (.bool e_o) HZ6.out
        have hb9 := put8_below (o := 0) (.int .i64 et) (.int .i64 en) (.int .i64 epx) (.int .i64 epy) (.int .i64 evx) (.int .i64 evy) (.int .i64 esp) (.bool e_o) HB6.out HBZ.out
        refine ⟨?_, ?_⟩
        · iterate 46 apply Exists.intro
          refine ⟨⟨1, by omega, rfl, hz9, hb9⟩, ?_⟩
          rfl
        · simp [intOf]
    · have HZQ := hid (show wq.heap[bz]? = some (.cells #[.int .i64 et, .int .i64 en, .int .i64 epx, .int .i64 epy, .int .i64 evx, .int .i64 evy, .int .i64 esp, .bool e_o, .int .i64 0, .int .i64 0, .int .i64 0, .int .i64 0, .int .i64 0, .int .i64 0, .int .i64 0, .bool false] 78 (0, 0)) from hz)
      clear hz
      have r13 : wq.cell? ⟨w.heap.size, 13, none⟩ = some (.int .i64 r.who) := HQ13.out _ HBQ.out
      by_cases hw : r.who = ((1 : Nat) : Int)
      · rw [if_pos hw] at HLN1
        have HTN := hid (show ∀ W, Below w4.heap.size w4 W → Calls Tryz.prog 17 #[.agg #[.int .i64 r.i.cx, .int .i64 r.i.cy, .int .i64 r.i.sd, .int .i64 r.i.W, .int .i64 r.i.H, .slice pa r.i.pl.length pc, .slice qa r.i.ql.length qc], .agg #[.int .i64 r.g.fl, .int .i64 r.g.kn, .int .i64 r.g.a, .int .i64 r.g.b, .int .i64 r.g.c], .slice (some ⟨bl, 8, none⟩) 1 1, .slice ba r.bl.length bc, .int .i64 (0), .int .i64 r.el, .int .i64 t] W fun e w' => ∃ g2 c2 h2 c3 cur2, e = .returned (.tuple #[.slice (some ⟨g2, 0, none⟩) 1 c2, .slice h2 0 c3, .int .i64 0]) ∧ w'.heap[g2]? = some (.cells cur2 72 (0, 0)) ∧ RowB cur2 (0 + 0) ⟨ft, fn, ⟨fpx, fpy, fvx, fvy, fsp⟩, f_o⟩ ∧ Below W.heap.size W w' from fun W hB => by
          have h := HTK.out ⟨r.i, r.g, r.bl, (0), r.el⟩ HRA.out (.slice (some ⟨bl, 8, none⟩) 1 1) [⟨dt, dn, ⟨dpx, dpy, dvx, dvy, dsp⟩, d_o⟩] W (HB4.out.trans (hB.mono HB4.out.size)) (slB_one (carry HP4.out hB) HRV.out.2)
          rw [HLN1] at h
          exact h.mono (fun e w' hx => tickX_one hx))
        have r13' : wq.cell? ⟨w.heap.size, 13, none⟩ = some (.int .i64 1) := by rw [r13, hw]; rfl
        clear hw r13 HLN0 HLN1
        go_upto_region 14 with fail
        clear r13'
        refine wp_region_held_drew (S := (fun W => W.cell? ⟨w.heap.size, 0, none⟩ = some (.int .i64 r.i.cx) ∧ W.cell? ⟨w.heap.size, 1, none⟩ = some (.int .i64 r.i.cy) ∧ W.cell? ⟨w.heap.size, 2, none⟩ = some (.int .i64 r.i.sd) ∧ W.cell? ⟨w.heap.size, 3, none⟩ = some (.int .i64 r.i.W) ∧ W.cell? ⟨w.heap.size, 4, none⟩ = some (.int .i64 r.i.H) ∧ W.cell? ⟨w.heap.size, 5, none⟩ = some (.slice pa r.i.pl.length pc) ∧ W.cell? ⟨w.heap.size, 6, none⟩ = some (.slice qa r.i.ql.length qc) ∧ W.cell? ⟨w.heap.size, 7, none⟩ = some (.int .i64 r.g.fl) ∧ W.cell? ⟨w.heap.size, 8, none⟩ = some (.int .i64 r.g.kn) ∧ W.cell? ⟨w.heap.size, 9, none⟩ = some (.int .i64 r.g.a) ∧ W.cell? ⟨w.heap.size, 10, none⟩ = some (.int .i64 r.g.b) ∧ W.cell? ⟨w.heap.size, 11, none⟩ = some (.int .i64 r.g.c) ∧ W.cell? ⟨w.heap.size, 12, none⟩ = some (.slice ba r.bl.length bc) ∧ W.cell? ⟨w.heap.size, 14, none⟩ = some (.int .i64 r.el))) (by kernel_rfl) (HQ14.out _ HBQ.out.drew) (fun hH => ?_)
        obtain ⟨v0, hv0⟩ : ∃ v0, v0 = wq.drew := ⟨_, rfl⟩
        have HBV := hid (show Below w4.heap.size w4 v0 by rw [hv0]; exact HBQ.out.drew)
        have HZV := hid (show v0.heap[bz]? = some (.cells #[.int .i64 et, .int .i64 en, .int .i64 epx, .int .i64 epy, .int .i64 evx, .int .i64 evy, .int .i64 esp, .bool e_o, .int .i64 0, .int .i64 0, .int .i64 0, .int .i64 0, .int .i64 0, .int .i64 0, .int .i64 0, .bool false] 78 (0, 0)) by rw [hv0]; exact HZQ.out)
        rw [← hv0] at hH ⊢
        clear hv0
        refine wpAnyH_take (i := 0) (oi := { dst := some 86, op := Go.Op.fieldAddr 70 (Go.Operand.tmp 4) 0, type := 0, pos := "top05.go:63", after := #[], guard := none }) (v := (.pointer (some ⟨w.heap.size, 0, none⟩))) rfl (by kernel_rfl) (by kernel_rfl) (by kernel_rfl) (fun _ _ _ h => h) (Or.inl ⟨by rfl, ?_⟩) hH ?_
        · intro w hSw
          (try dsimp only at hSw)
          go_simp
        (try simp only [Act.put, List.setIfInBounds_toArray, List.set_cons_zero, List.set_cons_succ])
        refine wpAnyH_take (i := 1) (oi := { dst := some 87, op := Go.Op.load 31 (Go.Operand.tmp 86), type := 31, pos := "top05.go:63", after := #[{ on := 0, ground := Go.Ground.data }], guard := none }) (v := (.agg #[.int .i64 r.i.cx, .int .i64 r.i.cy, .int .i64 r.i.sd, .int .i64 r.i.W, .int .i64 r.i.H, .slice pa r.i.pl.length pc, .slice qa r.i.ql.length qc])) rfl (by kernel_rfl) (by kernel_rfl) (by kernel_rfl) (fun _ _ _ h => h) (Or.inl ⟨by rfl, ?_⟩) hH ?_
        · intro w hSw
          (try dsimp only at hSw)
          go_simp
        (try simp only [Act.put, List.setIfInBounds_toArray, List.set_cons_zero, List.set_cons_succ])
        refine wpAnyH_take (i := 2) (oi := { dst := some 88, op := Go.Op.fieldAddr 70 (Go.Operand.tmp 4) 1, type := 0, pos := "top05.go:63", after := #[], guard := none }) (v := (.pointer (some ⟨w.heap.size, 7, none⟩))) rfl (by kernel_rfl) (by kernel_rfl) (by kernel_rfl) (fun _ _ _ h => h) (Or.inl ⟨by rfl, ?_⟩) hH ?_
        · intro w hSw
          (try dsimp only at hSw)
          go_simp
        (try simp only [Act.put, List.setIfInBounds_toArray, List.set_cons_zero, List.set_cons_succ])
        refine wpAnyH_take (i := 3) (oi := { dst := some 89, op := Go.Op.load 24 (Go.Operand.tmp 88), type := 24, pos := "top05.go:63", after := #[{ on := 2, ground := Go.Ground.data }], guard := none }) (v := (.agg #[.int .i64 r.g.fl, .int .i64 r.g.kn, .int .i64 r.g.a, .int .i64 r.g.b, .int .i64 r.g.c])) rfl (by kernel_rfl) (by kernel_rfl) (by kernel_rfl) (fun _ _ _ h => h) (Or.inl ⟨by rfl, ?_⟩) hH ?_
        · intro w hSw
          (try dsimp only at hSw)
          go_simp
        (try simp only [Act.put, List.setIfInBounds_toArray, List.set_cons_zero, List.set_cons_succ])
        refine wpAnyH_take (i := 4) (oi := { dst := some 90, op := Go.Op.move (Go.Operand.tmp 9), type := 74, pos := "top05.go:63", after := #[], guard := none }) (v := (.slice (some ⟨bl, 0, none⟩) 2 2)) rfl (by kernel_rfl) (by kernel_rfl) (by kernel_rfl) (fun _ _ _ h => h) (Or.inl ⟨by rfl, ?_⟩) hH ?_
        · intro w hSw
          (try dsimp only at hSw)
          go_simp
        (try simp only [Act.put, List.setIfInBounds_toArray, List.set_cons_zero, List.set_cons_succ])
        refine wpAnyH_take (i := 5) (oi := { dst := some 91, op := Go.Op.move (Go.Operand.tmp 14), type := 3, pos := "top05.go:63", after := #[], guard := none }) (v := (.int .i64 1)) rfl (by kernel_rfl) (by kernel_rfl) (by kernel_rfl) (fun _ _ _ h => h) (Or.inl ⟨by rfl, ?_⟩) hH ?_
        · intro w hSw
          (try dsimp only at hSw)
          go_simp
        (try simp only [Act.put, List.setIfInBounds_toArray, List.set_cons_zero, List.set_cons_succ])
        refine wpAnyH_take (i := 6) (oi := { dst := some 92, op := Go.Op.move (Go.Operand.tmp 14), type := 3, pos := "top05.go:63", after := #[], guard := none }) (v := (.int .i64 1)) rfl (by kernel_rfl) (by kernel_rfl) (by kernel_rfl) (fun _ _ _ h => h) (Or.inl ⟨by rfl, ?_⟩) hH ?_
        · intro w hSw
          (try dsimp only at hSw)
          go_simp
        (try simp only [Act.put, List.setIfInBounds_toArray, List.set_cons_zero, List.set_cons_succ])
        refine wpAnyH_take (i := 7) (oi := { dst := some 93, op := Go.Op.binOp Go.BinOp.add 3 (Go.Operand.tmp 92) (Go.Operand.const (Go.Value.int Go.IntKind.i64 1)) 3, type := 3, pos := "top05.go:63", after := #[{ on := 6, ground := Go.Ground.data }], guard := none }) (v := (.int .i64 2)) rfl (by kernel_rfl) (by kernel_rfl) (by kernel_rfl) (fun _ _ _ h => h) (Or.inl ⟨by rfl, ?_⟩) hH ?_
        · intro w hSw
          (try dsimp only at hSw)
          go_simp
          rfl
        (try simp only [Act.put, List.setIfInBounds_toArray, List.set_cons_zero, List.set_cons_succ])
        refine wpAnyH_take (i := 8) (oi := { dst := some 94, op := Go.Op.slice 74 (Go.Operand.tmp 90) (some (Go.Operand.tmp 91)) (some (Go.Operand.tmp 93)) none, type := 74, pos := "top05.go:63", after := #[{ on := 4, ground := Go.Ground.data }, { on := 5, ground := Go.Ground.data }, { on := 7, ground := Go.Ground.data }], guard := none }) (v := (.slice (some ⟨bl, 8, none⟩) 1 1)) rfl (by kernel_rfl) (by kernel_rfl) (by kernel_rfl) (fun _ _ _ h => h) (Or.inl ⟨by rfl, ?_⟩) hH ?_
        · intro w hSw
          (try dsimp only at hSw)
          go_simp
        (try simp only [Act.put, List.setIfInBounds_toArray, List.set_cons_zero, List.set_cons_succ])
        refine wpAnyH_take (i := 9) (oi := { dst := some 95, op := Go.Op.fieldAddr 70 (Go.Operand.tmp 4) 2, type := 0, pos := "top05.go:63", after := #[], guard := none }) (v := (.pointer (some ⟨w.heap.size, 12, none⟩))) rfl (by kernel_rfl) (by kernel_rfl) (by kernel_rfl) (fun _ _ _ h => h) (Or.inl ⟨by rfl, ?_⟩) hH ?_
        · intro w hSw
          (try dsimp only at hSw)
          go_simp
        (try simp only [Act.put, List.setIfInBounds_toArray, List.set_cons_zero, List.set_cons_succ])
        refine wpAnyH_take (i := 10) (oi := { dst := some 96, op := Go.Op.load 68 (Go.Operand.tmp 95), type := 68, pos := "top05.go:63", after := #[{ on := 9, ground := Go.Ground.data }], guard := none }) (v := (.slice ba r.bl.length bc)) rfl (by kernel_rfl) (by kernel_rfl) (by kernel_rfl) (fun _ _ _ h => h) (Or.inl ⟨by rfl, ?_⟩) hH ?_
        · intro w hSw
          (try dsimp only at hSw)
          go_simp
        (try simp only [Act.put, List.setIfInBounds_toArray, List.set_cons_zero, List.set_cons_succ])
        refine wpAnyH_take (i := 11) (oi := { dst := some 97, op := Go.Op.move (Go.Operand.tmp 15), type := 3, pos := "top05.go:63", after := #[], guard := none }) (v := (.int .i64 0)) rfl (by kernel_rfl) (by kernel_rfl) (by kernel_rfl) (fun _ _ _ h => h) (Or.inl ⟨by rfl, ?_⟩) hH ?_
        · intro w hSw
          (try dsimp only at hSw)
          go_simp
        (try simp only [Act.put, List.setIfInBounds_toArray, List.set_cons_zero, List.set_cons_succ])
        refine wpAnyH_take (i := 12) (oi := { dst := some 98, op := Go.Op.fieldAddr 70 (Go.Operand.tmp 4) 4, type := 0, pos := "top05.go:63", after := #[], guard := none }) (v := (.pointer (some ⟨w.heap.size, 14, none⟩))) rfl (by kernel_rfl) (by kernel_rfl) (by kernel_rfl) (fun _ _ _ h => h) (Or.inl ⟨by rfl, ?_⟩) hH ?_
        · intro w hSw
          (try dsimp only at hSw)
          go_simp
        (try simp only [Act.put, List.setIfInBounds_toArray, List.set_cons_zero, List.set_cons_succ])
        refine wpAnyH_take (i := 13) (oi := { dst := some 99, op := Go.Op.load 3 (Go.Operand.tmp 98), type := 3, pos := "top05.go:63", after := #[{ on := 12, ground := Go.Ground.data }], guard := none }) (v := (.int .i64 r.el)) rfl (by kernel_rfl) (by kernel_rfl) (by kernel_rfl) (fun _ _ _ h => h) (Or.inl ⟨by rfl, ?_⟩) hH ?_
        · intro w hSw
          (try dsimp only at hSw)
          go_simp
        (try simp only [Act.put, List.setIfInBounds_toArray, List.set_cons_zero, List.set_cons_succ])
        refine wpAnyH_take (i := 14) (oi := { dst := some 100, op := Go.Op.move (Go.Operand.tmp 3), type := 3, pos := "top05.go:63", after := #[], guard := none }) (v := (.int .i64 t)) rfl (by kernel_rfl) (by kernel_rfl) (by kernel_rfl) (fun _ _ _ h => h) (Or.inl ⟨by rfl, ?_⟩) hH ?_
        · intro w hSw
          (try dsimp only at hSw)
          go_simp
        (try simp only [Act.put, List.setIfInBounds_toArray, List.set_cons_zero, List.set_cons_succ])
        refine wpAnyH_ready (rs := [15]) (by kernel_rfl) (by simp) ?_
        refine AllReadyH.cons rfl (fun K hK => ?_) AllReadyH.nil
        (try dsimp only at hH)
        go_simp
        refine (HTN.out _ HBV.out).mono ?_
        rintro e w6 ⟨g2, c2, h2, c3, cur2, rfl, hg2, hr2, hb6⟩
        refine hK.out _ _ (HQ14.out _ (HBV.out.trans (hb6.mono HBV.out.size))) (fun hH1 => ?_)
        clear hK K
        have HB6 := hid (HBV.out.trans (hb6.mono HBV.out.size))
        have HZ6 := hid (carry HZV.out hb6)
        have HG2 := hid hg2
        have HR2 := hid hr2
        clear hb6 hg2 hr2
        (try simp only [Act.put, List.setIfInBounds_toArray, List.set_cons_zero, List.set_cons_succ])
        refine wpAnyH_take (i := 16) (oi := { dst := some 85, op := Go.Op.move (Go.Operand.tmp 101), type := 76, pos := "top05.go:63", after := #[{ on := 15, ground := Go.Ground.data }], guard := none }) (v := (.tuple #[.slice (some ⟨g2, 0, none⟩) 1 c2, .slice h2 0 c3, .int .i64 0])) rfl (by kernel_rfl) (by kernel_rfl) (by kernel_rfl) (fun _ _ _ h => h) (Or.inl ⟨by rfl, ?_⟩) hH1 ?_
        · intro w hSw
          (try dsimp only at hSw)
          go_simp
        (try simp only [Act.put, List.setIfInBounds_toArray, List.set_cons_zero, List.set_cons_succ])
        refine wpAnyH_take (i := 17) (oi := { dst := some 102, op := Go.Op.extract (Go.Operand.tmp 85) 0, type := 74, pos := "top05.go:63", after := #[{ on := 16, ground := Go.Ground.data }], guard := none }) (v := (.slice (some ⟨g2, 0, none⟩) 1 c2)) rfl (by kernel_rfl) (by kernel_rfl) (by kernel_rfl) (fun _ _ _ h => h) (Or.inl ⟨by rfl, ?_⟩) hH1 ?_
        · intro w hSw
          (try dsimp only at hSw)
          go_simp
        (try simp only [Act.put, List.setIfInBounds_toArray, List.set_cons_zero, List.set_cons_succ])
        refine wpAnyH_take (i := 18) (oi := { dst := some 103, op := Go.Op.extract (Go.Operand.tmp 85) 1, type := 75, pos := "top05.go:63", after := #[{ on := 16, ground := Go.Ground.data }, { on := 20, ground := Go.Ground.gcOnly Go.Departure.lateStores }], guard := none }) (v := (.slice h2 0 c3)) rfl (by kernel_rfl) (by kernel_rfl) (by kernel_rfl) (fun _ _ _ h => h) (Or.inl ⟨by rfl, ?_⟩) hH1 ?_
        · intro w hSw
          (try dsimp only at hSw)
          go_simp
        (try simp only [Act.put, List.setIfInBounds_toArray, List.set_cons_zero, List.set_cons_succ])
        refine wpAnyH_take (i := 19) (oi := { dst := some 104, op := Go.Op.extract (Go.Operand.tmp 85) 2, type := 33, pos := "top05.go:63", after := #[{ on := 16, ground := Go.Ground.data }, { on := 21, ground := Go.Ground.gcOnly Go.Departure.lateStores }], guard := none }) (v := (.int .i64 0)) rfl (by kernel_rfl) (by kernel_rfl) (by kernel_rfl) (fun _ _ _ h => h) (Or.inl ⟨by rfl, ?_⟩) hH1 ?_
        · intro w hSw
          (try dsimp only at hSw)
          go_simp
        (try simp only [Act.put, List.setIfInBounds_toArray, List.set_cons_zero, List.set_cons_succ])
        refine wpAnyH_take (i := 20) (oi := { dst := some 16, op := Go.Op.assign (Go.Operand.tmp 102), type := 74, pos := "top05.go:63", after := #[{ on := 17, ground := Go.Ground.data }, { on := 15, ground := Go.Ground.chain }, { on := 0, ground := Go.Ground.phase }, { on := 1, ground := Go.Ground.phase }, { on := 2, ground := Go.Ground.phase }, { on := 3, ground := Go.Ground.phase }, { on := 4, ground := Go.Ground.phase }, { on := 5, ground := Go.Ground.phase }, { on := 6, ground := Go.Ground.phase }, { on := 7, ground := Go.Ground.phase }, { on := 8, ground := Go.Ground.phase }, { on := 9, ground := Go.Ground.phase }, { on := 10, ground := Go.Ground.phase }, { on := 11, ground := Go.Ground.phase }, { on := 12, ground := Go.Ground.phase }, { on := 13, ground := Go.Ground.phase }, { on := 14, ground := Go.Ground.phase }, { on := 15, ground := Go.Ground.phase }, { on := 16, ground := Go.Ground.phase }, { on := 17, ground := Go.Ground.phase }, { on := 18, ground := Go.Ground.textOnly Go.Departure.lateStores }, { on := 19, ground := Go.Ground.textOnly Go.Departure.lateStores }], guard := none }) (v := (.slice (some ⟨g2, 0, none⟩) 1 c2)) rfl (by kernel_rfl) (by kernel_rfl) (by kernel_rfl) (fun _ _ _ h => h) (Or.inl ⟨by rfl, ?_⟩) hH1 ?_
        · intro w hSw
          (try dsimp only at hSw)
          go_simp
        (try simp only [Act.put, List.setIfInBounds_toArray, List.set_cons_zero, List.set_cons_succ])
        refine wpAnyH_take (i := 21) (oi := { dst := some 17, op := Go.Op.assign (Go.Operand.tmp 103), type := 75, pos := "top05.go:63", after := #[{ on := 18, ground := Go.Ground.data }, { on := 20, ground := Go.Ground.chain }, { on := 0, ground := Go.Ground.phase }, { on := 1, ground := Go.Ground.phase }, { on := 2, ground := Go.Ground.phase }, { on := 3, ground := Go.Ground.phase }, { on := 4, ground := Go.Ground.phase }, { on := 5, ground := Go.Ground.phase }, { on := 6, ground := Go.Ground.phase }, { on := 7, ground := Go.Ground.phase }, { on := 8, ground := Go.Ground.phase }, { on := 9, ground := Go.Ground.phase }, { on := 10, ground := Go.Ground.phase }, { on := 11, ground := Go.Ground.phase }, { on := 12, ground := Go.Ground.phase }, { on := 13, ground := Go.Ground.phase }, { on := 14, ground := Go.Ground.phase }, { on := 15, ground := Go.Ground.phase }, { on := 16, ground := Go.Ground.phase }, { on := 17, ground := Go.Ground.phase }, { on := 18, ground := Go.Ground.phase }, { on := 19, ground := Go.Ground.textOnly Go.Departure.lateStores }, { on := 20, ground := Go.Ground.phase }], guard := none }) (v := (.slice h2 0 c3)) rfl (by kernel_rfl) (by kernel_rfl) (by kernel_rfl) (fun _ _ _ h => h) (Or.inl ⟨by rfl, ?_⟩) hH1 ?_
        · intro w hSw
          (try dsimp only at hSw)
          go_simp
        (try simp only [Act.put, List.setIfInBounds_toArray, List.set_cons_zero, List.set_cons_succ])
        refine wpAnyH_take (i := 22) (oi := { dst := some 18, op := Go.Op.assign (Go.Operand.tmp 104), type := 33, pos := "top05.go:63", after := #[{ on := 19, ground := Go.Ground.data }, { on := 21, ground := Go.Ground.chain }, { on := 0, ground := Go.Ground.phase }, { on := 1, ground := Go.Ground.phase }, { on := 2, ground := Go.Ground.phase }, { on := 3, ground := Go.Ground.phase }, { on := 4, ground := Go.Ground.phase }, { on := 5, ground := Go.Ground.phase }, { on := 6, ground := Go.Ground.phase }, { on := 7, ground := Go.Ground.phase }, { on := 8, ground := Go.Ground.phase }, { on := 9, ground := Go.Ground.phase }, { on := 10, ground := Go.Ground.phase }, { on := 11, ground := Go.Ground.phase }, { on := 12, ground := Go.Ground.phase }, { on := 13, ground := Go.Ground.phase }, { on := 14, ground := Go.Ground.phase }, { on := 15, ground := Go.Ground.phase }, { on := 16, ground := Go.Ground.phase }, { on := 17, ground := Go.Ground.phase }, { on := 18, ground := Go.Ground.phase }, { on := 19, ground := Go.Ground.phase }, { on := 20, ground := Go.Ground.phase }, { on := 21, ground := Go.Ground.phase }], guard := none }) (v := (.int .i64 0)) rfl (by kernel_rfl) (by kernel_rfl) (by kernel_rfl) (fun _ _ _ h => h) (Or.inl ⟨by rfl, ?_⟩) hH1 ?_
        · intro w hSw
          (try dsimp only at hSw)
          go_simp
        (try simp only [Act.put, List.setIfInBounds_toArray, List.set_cons_zero, List.set_cons_succ])
        refine wpAnyH_done (by kernel_rfl) ?_ _
        clear HBV HZV
        have q0 : w6.cell? ⟨g2, 0, none⟩ = some (.int .i64 ft) := cellN HG2.out (by have h := HR2.out 0 (by omega); rwa [Nat.zero_add] at h)
        have q1 : w6.cell? ⟨g2, 1, none⟩ = some (.int .i64 fn) := cellN HG2.out (by have h := HR2.out 1 (by omega); rwa [Nat.zero_add] at h)
        have q2 : w6.cell? ⟨g2, 2, none⟩ = some (.int .i64 fpx) := cellN HG2.out (by have h := HR2.out 2 (by omega); rwa [Nat.zero_add] at h)
        have q3 : w6.cell? ⟨g2, 3, none⟩ = some (.int .i64 fpy) := cellN HG2.out (by have h := HR2.out 3 (by omega); rwa [Nat.zero_add] at h)
        have q4 : w6.cell? ⟨g2, 4, none⟩ = some (.int .i64 fvx) := cellN HG2.out (by have h := HR2.out 4 (by omega); rwa [Nat.zero_add] at h)
        have q5 : w6.cell? ⟨g2, 5, none⟩ = some (.int .i64 fvy) := cellN HG2.out (by have h := HR2.out 5 (by omega); rwa [Nat.zero_add] at h)
        have q6 : w6.cell? ⟨g2, 6, none⟩ = some (.int .i64 fsp) := cellN HG2.out (by have h := HR2.out 6 (by omega); rwa [Nat.zero_add] at h)
        have q7 : w6.cell? ⟨g2, 7, none⟩ = some (.bool f_o) := cellN HG2.out (by have h := HR2.out 7 (by omega); rwa [Nat.zero_add] at h)
        have z0 := cellN (i := 8) (v := .int .i64 0) HZ6.out rfl
        have z1 := cellN (i := 9) (v := .int .i64 0) HZ6.out rfl
        have z2 := cellN (i := 10) (v := .int .i64 0) HZ6.out rfl
        have z3 := cellN (i := 11) (v := .int .i64 0) HZ6.out rfl
        have z4 := cellN (i := 12) (v := .int .i64 0) HZ6.out rfl
        have z5 := cellN (i := 13) (v := .int .i64 0) HZ6.out rfl
        have z6 := cellN (i := 14) (v := .int .i64 0) HZ6.out rfl
        have z7 := cellN (i := 15) (v := .bool false) HZ6.out rfl
        have f0 := frozN (i := 8) HZ6.out
        have f1 := frozN (i := 9) HZ6.out
        have f2 := frozN (i := 10) HZ6.out
        have f3 := frozN (i := 11) HZ6.out
        have f4 := frozN (i := 12) HZ6.out
        have f5 := frozN (i := 13) HZ6.out
        have f6 := frozN (i := 14) HZ6.out
        have f7 := frozN (i := 15) HZ6.out
        go_wp2_with fail
        have hz9 := put8 (o := 8) (.int .i64 ft) (.int .i64 fn) (.int .i64 fpx) (.int .i64 fpy) (.int .i64 fvx) (.int .i64 fvy) (.int .i64 fsp) (.bool f_o) HZ6.out
        have hb9 := put8_below (o := 8) (.int .i64 ft) (.int .i64 fn) (.int .i64 fpx) (.int .i64 fpy) (.int .i64 fvx) (.int .i64 fvy) (.int .i64 fsp) (.bool f_o) HB6.out HBZ.out
        refine ⟨?_, ?_⟩
        · iterate 46 apply Exists.intro
          refine ⟨⟨2, by omega, rfl, hz9, hb9⟩, ?_⟩
          rfl
        · simp [intOf]
      · rw [if_neg hw] at HLN1
        have HTN := hid (show ∀ W, Below w4.heap.size w4 W → Calls Tryz.prog 17 #[.agg #[.int .i64 r.i.cx, .int .i64 r.i.cy, .int .i64 r.i.sd, .int .i64 r.i.W, .int .i64 r.i.H, .slice pa r.i.pl.length pc, .slice qa r.i.ql.length qc], .agg #[.int .i64 r.g.fl, .int .i64 r.g.kn, .int .i64 r.g.a, .int .i64 r.g.b, .int .i64 r.g.c], .slice (some ⟨bl, 8, none⟩) 1 1, .slice ba r.bl.length bc, .int .i64 (-1), .int .i64 r.el, .int .i64 t] W fun e w' => ∃ g2 c2 h2 c3 cur2, e = .returned (.tuple #[.slice (some ⟨g2, 0, none⟩) 1 c2, .slice h2 0 c3, .int .i64 0]) ∧ w'.heap[g2]? = some (.cells cur2 72 (0, 0)) ∧ RowB cur2 (0 + 0) ⟨ft, fn, ⟨fpx, fpy, fvx, fvy, fsp⟩, f_o⟩ ∧ Below W.heap.size W w' from fun W hB => by
          have h := HTK.out ⟨r.i, r.g, r.bl, (-1), r.el⟩ HRA.out (.slice (some ⟨bl, 8, none⟩) 1 1) [⟨dt, dn, ⟨dpx, dpy, dvx, dvy, dsp⟩, d_o⟩] W (HB4.out.trans (hB.mono HB4.out.size)) (slB_one (carry HP4.out hB) HRV.out.2)
          rw [HLN1] at h
          exact h.mono (fun e w' hx => tickX_one hx))
        have hw2 : (r.who == (1 : Int)) = false := by rw [beq_eq_false_iff_ne]; exact hw
        clear hw HLN0 HLN1
        go_upto_region 14 with fail
        clear r13 hw2
        refine wp_region_held_drew (S := (fun W => W.cell? ⟨w.heap.size, 0, none⟩ = some (.int .i64 r.i.cx) ∧ W.cell? ⟨w.heap.size, 1, none⟩ = some (.int .i64 r.i.cy) ∧ W.cell? ⟨w.heap.size, 2, none⟩ = some (.int .i64 r.i.sd) ∧ W.cell? ⟨w.heap.size, 3, none⟩ = some (.int .i64 r.i.W) ∧ W.cell? ⟨w.heap.size, 4, none⟩ = some (.int .i64 r.i.H) ∧ W.cell? ⟨w.heap.size, 5, none⟩ = some (.slice pa r.i.pl.length pc) ∧ W.cell? ⟨w.heap.size, 6, none⟩ = some (.slice qa r.i.ql.length qc) ∧ W.cell? ⟨w.heap.size, 7, none⟩ = some (.int .i64 r.g.fl) ∧ W.cell? ⟨w.heap.size, 8, none⟩ = some (.int .i64 r.g.kn) ∧ W.cell? ⟨w.heap.size, 9, none⟩ = some (.int .i64 r.g.a) ∧ W.cell? ⟨w.heap.size, 10, none⟩ = some (.int .i64 r.g.b) ∧ W.cell? ⟨w.heap.size, 11, none⟩ = some (.int .i64 r.g.c) ∧ W.cell? ⟨w.heap.size, 12, none⟩ = some (.slice ba r.bl.length bc) ∧ W.cell? ⟨w.heap.size, 14, none⟩ = some (.int .i64 r.el))) (by kernel_rfl) (HQ14.out _ HBQ.out.drew) (fun hH => ?_)
        obtain ⟨v0, hv0⟩ : ∃ v0, v0 = wq.drew := ⟨_, rfl⟩
        have HBV := hid (show Below w4.heap.size w4 v0 by rw [hv0]; exact HBQ.out.drew)
        have HZV := hid (show v0.heap[bz]? = some (.cells #[.int .i64 et, .int .i64 en, .int .i64 epx, .int .i64 epy, .int .i64 evx, .int .i64 evy, .int .i64 esp, .bool e_o, .int .i64 0, .int .i64 0, .int .i64 0, .int .i64 0, .int .i64 0, .int .i64 0, .int .i64 0, .bool false] 78 (0, 0)) by rw [hv0]; exact HZQ.out)
        rw [← hv0] at hH ⊢
        clear hv0
        refine wpAnyH_take (i := 0) (oi := { dst := some 86, op := Go.Op.fieldAddr 70 (Go.Operand.tmp 4) 0, type := 0, pos := "top05.go:63", after := #[], guard := none }) (v := (.pointer (some ⟨w.heap.size, 0, none⟩))) rfl (by kernel_rfl) (by kernel_rfl) (by kernel_rfl) (fun _ _ _ h => h) (Or.inl ⟨by rfl, ?_⟩) hH ?_
        · intro w hSw
          (try dsimp only at hSw)
          go_simp
        (try simp only [Act.put, List.setIfInBounds_toArray, List.set_cons_zero, List.set_cons_succ])
        refine wpAnyH_take (i := 1) (oi := { dst := some 87, op := Go.Op.load 31 (Go.Operand.tmp 86), type := 31, pos := "top05.go:63", after := #[{ on := 0, ground := Go.Ground.data }], guard := none }) (v := (.agg #[.int .i64 r.i.cx, .int .i64 r.i.cy, .int .i64 r.i.sd, .int .i64 r.i.W, .int .i64 r.i.H, .slice pa r.i.pl.length pc, .slice qa r.i.ql.length qc])) rfl (by kernel_rfl) (by kernel_rfl) (by kernel_rfl) (fun _ _ _ h => h) (Or.inl ⟨by rfl, ?_⟩) hH ?_
        · intro w hSw
          (try dsimp only at hSw)
          go_simp
        (try simp only [Act.put, List.setIfInBounds_toArray, List.set_cons_zero, List.set_cons_succ])
        refine wpAnyH_take (i := 2) (oi := { dst := some 88, op := Go.Op.fieldAddr 70 (Go.Operand.tmp 4) 1, type := 0, pos := "top05.go:63", after := #[], guard := none }) (v := (.pointer (some ⟨w.heap.size, 7, none⟩))) rfl (by kernel_rfl) (by kernel_rfl) (by kernel_rfl) (fun _ _ _ h => h) (Or.inl ⟨by rfl, ?_⟩) hH ?_
        · intro w hSw
          (try dsimp only at hSw)
          go_simp
        (try simp only [Act.put, List.setIfInBounds_toArray, List.set_cons_zero, List.set_cons_succ])
        refine wpAnyH_take (i := 3) (oi := { dst := some 89, op := Go.Op.load 24 (Go.Operand.tmp 88), type := 24, pos := "top05.go:63", after := #[{ on := 2, ground := Go.Ground.data }], guard := none }) (v := (.agg #[.int .i64 r.g.fl, .int .i64 r.g.kn, .int .i64 r.g.a, .int .i64 r.g.b, .int .i64 r.g.c])) rfl (by kernel_rfl) (by kernel_rfl) (by kernel_rfl) (fun _ _ _ h => h) (Or.inl ⟨by rfl, ?_⟩) hH ?_
        · intro w hSw
          (try dsimp only at hSw)
          go_simp
        (try simp only [Act.put, List.setIfInBounds_toArray, List.set_cons_zero, List.set_cons_succ])
        refine wpAnyH_take (i := 4) (oi := { dst := some 90, op := Go.Op.move (Go.Operand.tmp 9), type := 74, pos := "top05.go:63", after := #[], guard := none }) (v := (.slice (some ⟨bl, 0, none⟩) 2 2)) rfl (by kernel_rfl) (by kernel_rfl) (by kernel_rfl) (fun _ _ _ h => h) (Or.inl ⟨by rfl, ?_⟩) hH ?_
        · intro w hSw
          (try dsimp only at hSw)
          go_simp
        (try simp only [Act.put, List.setIfInBounds_toArray, List.set_cons_zero, List.set_cons_succ])
        refine wpAnyH_take (i := 5) (oi := { dst := some 91, op := Go.Op.move (Go.Operand.tmp 14), type := 3, pos := "top05.go:63", after := #[], guard := none }) (v := (.int .i64 1)) rfl (by kernel_rfl) (by kernel_rfl) (by kernel_rfl) (fun _ _ _ h => h) (Or.inl ⟨by rfl, ?_⟩) hH ?_
        · intro w hSw
          (try dsimp only at hSw)
          go_simp
        (try simp only [Act.put, List.setIfInBounds_toArray, List.set_cons_zero, List.set_cons_succ])
        refine wpAnyH_take (i := 6) (oi := { dst := some 92, op := Go.Op.move (Go.Operand.tmp 14), type := 3, pos := "top05.go:63", after := #[], guard := none }) (v := (.int .i64 1)) rfl (by kernel_rfl) (by kernel_rfl) (by kernel_rfl) (fun _ _ _ h => h) (Or.inl ⟨by rfl, ?_⟩) hH ?_
        · intro w hSw
          (try dsimp only at hSw)
          go_simp
        (try simp only [Act.put, List.setIfInBounds_toArray, List.set_cons_zero, List.set_cons_succ])
        refine wpAnyH_take (i := 7) (oi := { dst := some 93, op := Go.Op.binOp Go.BinOp.add 3 (Go.Operand.tmp 92) (Go.Operand.const (Go.Value.int Go.IntKind.i64 1)) 3, type := 3, pos := "top05.go:63", after := #[{ on := 6, ground := Go.Ground.data }], guard := none }) (v := (.int .i64 2)) rfl (by kernel_rfl) (by kernel_rfl) (by kernel_rfl) (fun _ _ _ h => h) (Or.inl ⟨by rfl, ?_⟩) hH ?_
        · intro w hSw
          (try dsimp only at hSw)
          go_simp
          rfl
        (try simp only [Act.put, List.setIfInBounds_toArray, List.set_cons_zero, List.set_cons_succ])
        refine wpAnyH_take (i := 8) (oi := { dst := some 94, op := Go.Op.slice 74 (Go.Operand.tmp 90) (some (Go.Operand.tmp 91)) (some (Go.Operand.tmp 93)) none, type := 74, pos := "top05.go:63", after := #[{ on := 4, ground := Go.Ground.data }, { on := 5, ground := Go.Ground.data }, { on := 7, ground := Go.Ground.data }], guard := none }) (v := (.slice (some ⟨bl, 8, none⟩) 1 1)) rfl (by kernel_rfl) (by kernel_rfl) (by kernel_rfl) (fun _ _ _ h => h) (Or.inl ⟨by rfl, ?_⟩) hH ?_
        · intro w hSw
          (try dsimp only at hSw)
          go_simp
        (try simp only [Act.put, List.setIfInBounds_toArray, List.set_cons_zero, List.set_cons_succ])
        refine wpAnyH_take (i := 9) (oi := { dst := some 95, op := Go.Op.fieldAddr 70 (Go.Operand.tmp 4) 2, type := 0, pos := "top05.go:63", after := #[], guard := none }) (v := (.pointer (some ⟨w.heap.size, 12, none⟩))) rfl (by kernel_rfl) (by kernel_rfl) (by kernel_rfl) (fun _ _ _ h => h) (Or.inl ⟨by rfl, ?_⟩) hH ?_
        · intro w hSw
          (try dsimp only at hSw)
          go_simp
        (try simp only [Act.put, List.setIfInBounds_toArray, List.set_cons_zero, List.set_cons_succ])
        refine wpAnyH_take (i := 10) (oi := { dst := some 96, op := Go.Op.load 68 (Go.Operand.tmp 95), type := 68, pos := "top05.go:63", after := #[{ on := 9, ground := Go.Ground.data }], guard := none }) (v := (.slice ba r.bl.length bc)) rfl (by kernel_rfl) (by kernel_rfl) (by kernel_rfl) (fun _ _ _ h => h) (Or.inl ⟨by rfl, ?_⟩) hH ?_
        · intro w hSw
          (try dsimp only at hSw)
          go_simp
        (try simp only [Act.put, List.setIfInBounds_toArray, List.set_cons_zero, List.set_cons_succ])
        refine wpAnyH_take (i := 11) (oi := { dst := some 97, op := Go.Op.move (Go.Operand.tmp 15), type := 3, pos := "top05.go:63", after := #[], guard := none }) (v := (.int .i64 (-1))) rfl (by kernel_rfl) (by kernel_rfl) (by kernel_rfl) (fun _ _ _ h => h) (Or.inl ⟨by rfl, ?_⟩) hH ?_
        · intro w hSw
          (try dsimp only at hSw)
          go_simp
        (try simp only [Act.put, List.setIfInBounds_toArray, List.set_cons_zero, List.set_cons_succ])
        refine wpAnyH_take (i := 12) (oi := { dst := some 98, op := Go.Op.fieldAddr 70 (Go.Operand.tmp 4) 4, type := 0, pos := "top05.go:63", after := #[], guard := none }) (v := (.pointer (some ⟨w.heap.size, 14, none⟩))) rfl (by kernel_rfl) (by kernel_rfl) (by kernel_rfl) (fun _ _ _ h => h) (Or.inl ⟨by rfl, ?_⟩) hH ?_
        · intro w hSw
          (try dsimp only at hSw)
          go_simp
        (try simp only [Act.put, List.setIfInBounds_toArray, List.set_cons_zero, List.set_cons_succ])
        refine wpAnyH_take (i := 13) (oi := { dst := some 99, op := Go.Op.load 3 (Go.Operand.tmp 98), type := 3, pos := "top05.go:63", after := #[{ on := 12, ground := Go.Ground.data }], guard := none }) (v := (.int .i64 r.el)) rfl (by kernel_rfl) (by kernel_rfl) (by kernel_rfl) (fun _ _ _ h => h) (Or.inl ⟨by rfl, ?_⟩) hH ?_
        · intro w hSw
          (try dsimp only at hSw)
          go_simp
        (try simp only [Act.put, List.setIfInBounds_toArray, List.set_cons_zero, List.set_cons_succ])
        refine wpAnyH_take (i := 14) (oi := { dst := some 100, op := Go.Op.move (Go.Operand.tmp 3), type := 3, pos := "top05.go:63", after := #[], guard := none }) (v := (.int .i64 t)) rfl (by kernel_rfl) (by kernel_rfl) (by kernel_rfl) (fun _ _ _ h => h) (Or.inl ⟨by rfl, ?_⟩) hH ?_
        · intro w hSw
          (try dsimp only at hSw)
          go_simp
        (try simp only [Act.put, List.setIfInBounds_toArray, List.set_cons_zero, List.set_cons_succ])
        refine wpAnyH_ready (rs := [15]) (by kernel_rfl) (by simp) ?_
        refine AllReadyH.cons rfl (fun K hK => ?_) AllReadyH.nil
        (try dsimp only at hH)
        go_simp
        refine (HTN.out _ HBV.out).mono ?_
        rintro e w6 ⟨g2, c2, h2, c3, cur2, rfl, hg2, hr2, hb6⟩
        refine hK.out _ _ (HQ14.out _ (HBV.out.trans (hb6.mono HBV.out.size))) (fun hH1 => ?_)
        clear hK K
        have HB6 := hid (HBV.out.trans (hb6.mono HBV.out.size))
        have HZ6 := hid (carry HZV.out hb6)
        have HG2 := hid hg2
        have HR2 := hid hr2
        clear hb6 hg2 hr2
        (try simp only [Act.put, List.setIfInBounds_toArray, List.set_cons_zero, List.set_cons_succ])
        refine wpAnyH_take (i := 16) (oi := { dst := some 85, op := Go.Op.move (Go.Operand.tmp 101), type := 76, pos := "top05.go:63", after := #[{ on := 15, ground := Go.Ground.data }], guard := none }) (v := (.tuple #[.slice (some ⟨g2, 0, none⟩) 1 c2, .slice h2 0 c3, .int .i64 0])) rfl (by kernel_rfl) (by kernel_rfl) (by kernel_rfl) (fun _ _ _ h => h) (Or.inl ⟨by rfl, ?_⟩) hH1 ?_
        · intro w hSw
          (try dsimp only at hSw)
          go_simp
        (try simp only [Act.put, List.setIfInBounds_toArray, List.set_cons_zero, List.set_cons_succ])
        refine wpAnyH_take (i := 17) (oi := { dst := some 102, op := Go.Op.extract (Go.Operand.tmp 85) 0, type := 74, pos := "top05.go:63", after := #[{ on := 16, ground := Go.Ground.data }], guard := none }) (v := (.slice (some ⟨g2, 0, none⟩) 1 c2)) rfl (by kernel_rfl) (by kernel_rfl) (by kernel_rfl) (fun _ _ _ h => h) (Or.inl ⟨by rfl, ?_⟩) hH1 ?_
        · intro w hSw
          (try dsimp only at hSw)
          go_simp
        (try simp only [Act.put, List.setIfInBounds_toArray, List.set_cons_zero, List.set_cons_succ])
        refine wpAnyH_take (i := 18) (oi := { dst := some 103, op := Go.Op.extract (Go.Operand.tmp 85) 1, type := 75, pos := "top05.go:63", after := #[{ on := 16, ground := Go.Ground.data }, { on := 20, ground := Go.Ground.gcOnly Go.Departure.lateStores }], guard := none }) (v := (.slice h2 0 c3)) rfl (by kernel_rfl) (by kernel_rfl) (by kernel_rfl) (fun _ _ _ h => h) (Or.inl ⟨by rfl, ?_⟩) hH1 ?_
        · intro w hSw
          (try dsimp only at hSw)
          go_simp
        (try simp only [Act.put, List.setIfInBounds_toArray, List.set_cons_zero, List.set_cons_succ])
        refine wpAnyH_take (i := 19) (oi := { dst := some 104, op := Go.Op.extract (Go.Operand.tmp 85) 2, type := 33, pos := "top05.go:63", after := #[{ on := 16, ground := Go.Ground.data }, { on := 21, ground := Go.Ground.gcOnly Go.Departure.lateStores }], guard := none }) (v := (.int .i64 0)) rfl (by kernel_rfl) (by kernel_rfl) (by kernel_rfl) (fun _ _ _ h => h) (Or.inl ⟨by rfl, ?_⟩) hH1 ?_
        · intro w hSw
          (try dsimp only at hSw)
          go_simp
        (try simp only [Act.put, List.setIfInBounds_toArray, List.set_cons_zero, List.set_cons_succ])
        refine wpAnyH_take (i := 20) (oi := { dst := some 16, op := Go.Op.assign (Go.Operand.tmp 102), type := 74, pos := "top05.go:63", after := #[{ on := 17, ground := Go.Ground.data }, { on := 15, ground := Go.Ground.chain }, { on := 0, ground := Go.Ground.phase }, { on := 1, ground := Go.Ground.phase }, { on := 2, ground := Go.Ground.phase }, { on := 3, ground := Go.Ground.phase }, { on := 4, ground := Go.Ground.phase }, { on := 5, ground := Go.Ground.phase }, { on := 6, ground := Go.Ground.phase }, { on := 7, ground := Go.Ground.phase }, { on := 8, ground := Go.Ground.phase }, { on := 9, ground := Go.Ground.phase }, { on := 10, ground := Go.Ground.phase }, { on := 11, ground := Go.Ground.phase }, { on := 12, ground := Go.Ground.phase }, { on := 13, ground := Go.Ground.phase }, { on := 14, ground := Go.Ground.phase }, { on := 15, ground := Go.Ground.phase }, { on := 16, ground := Go.Ground.phase }, { on := 17, ground := Go.Ground.phase }, { on := 18, ground := Go.Ground.textOnly Go.Departure.lateStores }, { on := 19, ground := Go.Ground.textOnly Go.Departure.lateStores }], guard := none }) (v := (.slice (some ⟨g2, 0, none⟩) 1 c2)) rfl (by kernel_rfl) (by kernel_rfl) (by kernel_rfl) (fun _ _ _ h => h) (Or.inl ⟨by rfl, ?_⟩) hH1 ?_
        · intro w hSw
          (try dsimp only at hSw)
          go_simp
        (try simp only [Act.put, List.setIfInBounds_toArray, List.set_cons_zero, List.set_cons_succ])
        refine wpAnyH_take (i := 21) (oi := { dst := some 17, op := Go.Op.assign (Go.Operand.tmp 103), type := 75, pos := "top05.go:63", after := #[{ on := 18, ground := Go.Ground.data }, { on := 20, ground := Go.Ground.chain }, { on := 0, ground := Go.Ground.phase }, { on := 1, ground := Go.Ground.phase }, { on := 2, ground := Go.Ground.phase }, { on := 3, ground := Go.Ground.phase }, { on := 4, ground := Go.Ground.phase }, { on := 5, ground := Go.Ground.phase }, { on := 6, ground := Go.Ground.phase }, { on := 7, ground := Go.Ground.phase }, { on := 8, ground := Go.Ground.phase }, { on := 9, ground := Go.Ground.phase }, { on := 10, ground := Go.Ground.phase }, { on := 11, ground := Go.Ground.phase }, { on := 12, ground := Go.Ground.phase }, { on := 13, ground := Go.Ground.phase }, { on := 14, ground := Go.Ground.phase }, { on := 15, ground := Go.Ground.phase }, { on := 16, ground := Go.Ground.phase }, { on := 17, ground := Go.Ground.phase }, { on := 18, ground := Go.Ground.phase }, { on := 19, ground := Go.Ground.textOnly Go.Departure.lateStores }, { on := 20, ground := Go.Ground.phase }], guard := none }) (v := (.slice h2 0 c3)) rfl (by kernel_rfl) (by kernel_rfl) (by kernel_rfl) (fun _ _ _ h => h) (Or.inl ⟨by rfl, ?_⟩) hH1 ?_
        · intro w hSw
          (try dsimp only at hSw)
          go_simp
        (try simp only [Act.put, List.setIfInBounds_toArray, List.set_cons_zero, List.set_cons_succ])
        refine wpAnyH_take (i := 22) (oi := { dst := some 18, op := Go.Op.assign (Go.Operand.tmp 104), type := 33, pos := "top05.go:63", after := #[{ on := 19, ground := Go.Ground.data }, { on := 21, ground := Go.Ground.chain }, { on := 0, ground := Go.Ground.phase }, { on := 1, ground := Go.Ground.phase }, { on := 2, ground := Go.Ground.phase }, { on := 3, ground := Go.Ground.phase }, { on := 4, ground := Go.Ground.phase }, { on := 5, ground := Go.Ground.phase }, { on := 6, ground := Go.Ground.phase }, { on := 7, ground := Go.Ground.phase }, { on := 8, ground := Go.Ground.phase }, { on := 9, ground := Go.Ground.phase }, { on := 10, ground := Go.Ground.phase }, { on := 11, ground := Go.Ground.phase }, { on := 12, ground := Go.Ground.phase }, { on := 13, ground := Go.Ground.phase }, { on := 14, ground := Go.Ground.phase }, { on := 15, ground := Go.Ground.phase }, { on := 16, ground := Go.Ground.phase }, { on := 17, ground := Go.Ground.phase }, { on := 18, ground := Go.Ground.phase }, { on := 19, ground := Go.Ground.phase }, { on := 20, ground := Go.Ground.phase }, { on := 21, ground := Go.Ground.phase }], guard := none }) (v := (.int .i64 0)) rfl (by kernel_rfl) (by kernel_rfl) (by kernel_rfl) (fun _ _ _ h => h) (Or.inl ⟨by rfl, ?_⟩) hH1 ?_
        · intro w hSw
          (try dsimp only at hSw)
          go_simp
        (try simp only [Act.put, List.setIfInBounds_toArray, List.set_cons_zero, List.set_cons_succ])
        refine wpAnyH_done (by kernel_rfl) ?_ _
        clear HBV HZV
        have q0 : w6.cell? ⟨g2, 0, none⟩ = some (.int .i64 ft) := cellN HG2.out (by have h := HR2.out 0 (by omega); rwa [Nat.zero_add] at h)
        have q1 : w6.cell? ⟨g2, 1, none⟩ = some (.int .i64 fn) := cellN HG2.out (by have h := HR2.out 1 (by omega); rwa [Nat.zero_add] at h)
        have q2 : w6.cell? ⟨g2, 2, none⟩ = some (.int .i64 fpx) := cellN HG2.out (by have h := HR2.out 2 (by omega); rwa [Nat.zero_add] at h)
        have q3 : w6.cell? ⟨g2, 3, none⟩ = some (.int .i64 fpy) := cellN HG2.out (by have h := HR2.out 3 (by omega); rwa [Nat.zero_add] at h)
        have q4 : w6.cell? ⟨g2, 4, none⟩ = some (.int .i64 fvx) := cellN HG2.out (by have h := HR2.out 4 (by omega); rwa [Nat.zero_add] at h)
        have q5 : w6.cell? ⟨g2, 5, none⟩ = some (.int .i64 fvy) := cellN HG2.out (by have h := HR2.out 5 (by omega); rwa [Nat.zero_add] at h)
        have q6 : w6.cell? ⟨g2, 6, none⟩ = some (.int .i64 fsp) := cellN HG2.out (by have h := HR2.out 6 (by omega); rwa [Nat.zero_add] at h)
        have q7 : w6.cell? ⟨g2, 7, none⟩ = some (.bool f_o) := cellN HG2.out (by have h := HR2.out 7 (by omega); rwa [Nat.zero_add] at h)
        have z0 := cellN (i := 8) (v := .int .i64 0) HZ6.out rfl
        have z1 := cellN (i := 9) (v := .int .i64 0) HZ6.out rfl
        have z2 := cellN (i := 10) (v := .int .i64 0) HZ6.out rfl
        have z3 := cellN (i := 11) (v := .int .i64 0) HZ6.out rfl
        have z4 := cellN (i := 12) (v := .int .i64 0) HZ6.out rfl
        have z5 := cellN (i := 13) (v := .int .i64 0) HZ6.out rfl
        have z6 := cellN (i := 14) (v := .int .i64 0) HZ6.out rfl
        have z7 := cellN (i := 15) (v := .bool false) HZ6.out rfl
        have f0 := frozN (i := 8) HZ6.out
        have f1 := frozN (i := 9) HZ6.out
        have f2 := frozN (i := 10) HZ6.out
        have f3 := frozN (i := 11) HZ6.out
        have f4 := frozN (i := 12) HZ6.out
        have f5 := frozN (i := 13) HZ6.out
        have f6 := frozN (i := 14) HZ6.out
        have f7 := frozN (i := 15) HZ6.out
        go_wp2_with fail
        have hz9 := put8 (o := 8) (.int .i64 ft) (.int .i64 fn) (.int .i64 fpx) (.int .i64 fpy) (.int .i64 fvx) (.int .i64 fvy) (.int .i64 fsp) (.bool f_o) HZ6.out
        have hb9 := put8_below (o := 8) (.int .i64 ft) (.int .i64 fn) (.int .i64 fpx) (.int .i64 fpy) (.int .i64 fvx) (.int .i64 fvy) (.int .i64 fsp) (.bool f_o) HB6.out HBZ.out
        refine ⟨?_, ?_⟩
        · iterate 46 apply Exists.intro
          refine ⟨⟨2, by omega, rfl, hz9, hb9⟩, ?_⟩
          rfl
        · simp [intOf]
    · have HZQ := hid (show wq.heap[bz]? = some (.cells #[.int .i64 et, .int .i64 en, .int .i64 epx, .int .i64 epy, .int .i64 evx, .int .i64 evy, .int .i64 esp, .bool e_o, .int .i64 ft, .int .i64 fn, .int .i64 fpx, .int .i64 fpy, .int .i64 fvx, .int .i64 fvy, .int .i64 fsp, .bool f_o] 78 (0, 0)) from hz)
      clear hz HLN0 HLN1
      have HSK := hid (show ∀ W : World, Below wq.heap.size wq W → W.cell? ⟨go, 2, none⟩ = some (.int .i64 epx) ∧ W.cell? ⟨go, 3, none⟩ = some (.int .i64 epy) ∧ W.cell? ⟨go, 4, none⟩ = some (.int .i64 x4) ∧ W.cell? ⟨go, 5, none⟩ = some (.int .i64 x5) ∧ W.cell? ⟨go, 10, none⟩ = some (.int .i64 fpx) ∧ W.cell? ⟨go, 11, none⟩ = some (.int .i64 fpy) ∧ W.cell? ⟨go, 12, none⟩ = some (.int .i64 y4) ∧ W.cell? ⟨go, 13, none⟩ = some (.int .i64 y5) ∧ W.cell? ⟨bz, 2, none⟩ = some (.int .i64 epx) ∧ W.cell? ⟨bz, 3, none⟩ = some (.int .i64 epy) ∧ W.cell? ⟨bz, 4, none⟩ = some (.int .i64 evx) ∧ W.cell? ⟨bz, 5, none⟩ = some (.int .i64 evy) ∧ W.cell? ⟨bz, 10, none⟩ = some (.int .i64 fpx) ∧ W.cell? ⟨bz, 11, none⟩ = some (.int .i64 fpy) ∧ W.cell? ⟨bz, 12, none⟩ = some (.int .i64 fvx) ∧ W.cell? ⟨bz, 13, none⟩ = some (.int .i64 fvy) from fun W h => by
        have h1 := carry HZQ.out h
        have h2 := carry (carry HOC.out HBQ.out) h
        exact ⟨cellN h2 (HRX.out 2 (by omega)), cellN h2 (HRX.out 3 (by omega)), cellN h2 (HRX.out 4 (by omega)), cellN h2 (HRX.out 5 (by omega)), cellN h2 (HRY.out 2 (by omega)), cellN h2 (HRY.out 3 (by omega)), cellN h2 (HRY.out 4 (by omega)), cellN h2 (HRY.out 5 (by omega)), cellN (i := 2) h1 rfl, cellN (i := 3) h1 rfl, cellN (i := 4) h1 rfl, cellN (i := 5) h1 rfl, cellN (i := 10) h1 rfl, cellN (i := 11) h1 rfl, cellN (i := 12) h1 rfl, cellN (i := 13) h1 rfl⟩)
      have HSF := hid (HSK.out wq (Below.refl _ _))
      obtain ⟨⟨w1, w2', w3⟩, w4', w5', w6'⟩ := HW.out
      go_upto_region 19 with fail
      refine wp_region_held_drew (S := (fun W => W.cell? ⟨go, 2, none⟩ = some (.int .i64 epx) ∧ W.cell? ⟨go, 3, none⟩ = some (.int .i64 epy) ∧ W.cell? ⟨go, 4, none⟩ = some (.int .i64 x4) ∧ W.cell? ⟨go, 5, none⟩ = some (.int .i64 x5) ∧ W.cell? ⟨go, 10, none⟩ = some (.int .i64 fpx) ∧ W.cell? ⟨go, 11, none⟩ = some (.int .i64 fpy) ∧ W.cell? ⟨go, 12, none⟩ = some (.int .i64 y4) ∧ W.cell? ⟨go, 13, none⟩ = some (.int .i64 y5) ∧ W.cell? ⟨bz, 2, none⟩ = some (.int .i64 epx) ∧ W.cell? ⟨bz, 3, none⟩ = some (.int .i64 epy) ∧ W.cell? ⟨bz, 4, none⟩ = some (.int .i64 evx) ∧ W.cell? ⟨bz, 5, none⟩ = some (.int .i64 evy) ∧ W.cell? ⟨bz, 10, none⟩ = some (.int .i64 fpx) ∧ W.cell? ⟨bz, 11, none⟩ = some (.int .i64 fpy) ∧ W.cell? ⟨bz, 12, none⟩ = some (.int .i64 fvx) ∧ W.cell? ⟨bz, 13, none⟩ = some (.int .i64 fvy))) (by kernel_rfl) (HSF.out) (fun hH => ?_)
      refine wpAnyH_take (i := 0) (oi := { dst := some 118, op := Go.Op.move (Go.Operand.tmp 10), type := 74, pos := "top05.go:69", after := #[], guard := none }) (v := (.slice (some ⟨go, 0, none⟩) 2 ocap)) rfl (by kernel_rfl) (by kernel_rfl) (by kernel_rfl) (fun _ _ _ h => h) (Or.inl ⟨by rfl, ?_⟩) hH ?_
      · intro w hSw
        (try dsimp only at hSw)
        go_simp
      (try simp only [Act.put, List.setIfInBounds_toArray, List.set_cons_zero, List.set_cons_succ])
      refine wpAnyH_take (i := 1) (oi := { dst := some 119, op := Go.Op.indexAddr 74 (Go.Operand.tmp 118) (Go.Operand.const (Go.Value.int Go.IntKind.i64 0)), type := 0, pos := "top05.go:69", after := #[{ on := 0, ground := Go.Ground.data }], guard := none }) (v := (.pointer (some ⟨go, 0, none⟩))) rfl (by kernel_rfl) (by kernel_rfl) (by kernel_rfl) (fun _ _ _ h => h) (Or.inl ⟨by rfl, ?_⟩) hH ?_
      · intro w hSw
        (try dsimp only at hSw)
        go_simp
      (try simp only [Act.put, List.setIfInBounds_toArray, List.set_cons_zero, List.set_cons_succ])
      refine wpAnyH_take (i := 2) (oi := { dst := some 120, op := Go.Op.fieldAddr 72 (Go.Operand.tmp 119) 2, type := 0, pos := "top05.go:69", after := #[{ on := 1, ground := Go.Ground.data }], guard := none }) (v := (.pointer (some ⟨go, 2, none⟩))) rfl (by kernel_rfl) (by kernel_rfl) (by kernel_rfl) (fun _ _ _ h => h) (Or.inl ⟨by rfl, ?_⟩) hH ?_
      · intro w hSw
        (try dsimp only at hSw)
        go_simp
      (try simp only [Act.put, List.setIfInBounds_toArray, List.set_cons_zero, List.set_cons_succ])
      refine wpAnyH_take (i := 3) (oi := { dst := some 121, op := Go.Op.fieldAddr 39 (Go.Operand.tmp 120) 1, type := 0, pos := "top05.go:69", after := #[{ on := 2, ground := Go.Ground.data }], guard := none }) (v := (.pointer (some ⟨go, 4, none⟩))) rfl (by kernel_rfl) (by kernel_rfl) (by kernel_rfl) (fun _ _ _ h => h) (Or.inl ⟨by rfl, ?_⟩) hH ?_
      · intro w hSw
        (try dsimp only at hSw)
        go_simp
      (try simp only [Act.put, List.setIfInBounds_toArray, List.set_cons_zero, List.set_cons_succ])
      refine wpAnyH_take (i := 4) (oi := { dst := some 122, op := Go.Op.fieldAddr 28 (Go.Operand.tmp 121) 0, type := 0, pos := "top05.go:69", after := #[{ on := 3, ground := Go.Ground.data }], guard := none }) (v := (.pointer (some ⟨go, 4, none⟩))) rfl (by kernel_rfl) (by kernel_rfl) (by kernel_rfl) (fun _ _ _ h => h) (Or.inl ⟨by rfl, ?_⟩) hH ?_
      · intro w hSw
        (try dsimp only at hSw)
        go_simp
      (try simp only [Act.put, List.setIfInBounds_toArray, List.set_cons_zero, List.set_cons_succ])
      refine wpAnyH_take (i := 5) (oi := { dst := some 123, op := Go.Op.load 22 (Go.Operand.tmp 122), type := 22, pos := "top05.go:69", after := #[{ on := 4, ground := Go.Ground.data }], guard := none }) (v := (.int .i64 x4)) rfl (by kernel_rfl) (by kernel_rfl) (by kernel_rfl) (fun _ _ _ h => h) (Or.inl ⟨by rfl, ?_⟩) hH ?_
      · intro w hSw
        (try dsimp only at hSw)
        go_simp
      (try simp only [Act.put, List.setIfInBounds_toArray, List.set_cons_zero, List.set_cons_succ])
      refine wpAnyH_take (i := 6) (oi := { dst := some 124, op := Go.Op.move (Go.Operand.tmp 10), type := 74, pos := "top05.go:69", after := #[], guard := none }) (v := (.slice (some ⟨go, 0, none⟩) 2 ocap)) rfl (by kernel_rfl) (by kernel_rfl) (by kernel_rfl) (fun _ _ _ h => h) (Or.inl ⟨by rfl, ?_⟩) hH ?_
      · intro w hSw
        (try dsimp only at hSw)
        go_simp
      (try simp only [Act.put, List.setIfInBounds_toArray, List.set_cons_zero, List.set_cons_succ])
      refine wpAnyH_take (i := 7) (oi := { dst := some 125, op := Go.Op.indexAddr 74 (Go.Operand.tmp 124) (Go.Operand.const (Go.Value.int Go.IntKind.i64 1)), type := 0, pos := "top05.go:69", after := #[{ on := 6, ground := Go.Ground.data }], guard := none }) (v := (.pointer (some ⟨go, 8, none⟩))) rfl (by kernel_rfl) (by kernel_rfl) (by kernel_rfl) (fun _ _ _ h => h) (Or.inl ⟨by rfl, ?_⟩) hH ?_
      · intro w hSw
        (try dsimp only at hSw)
        go_simp
      (try simp only [Act.put, List.setIfInBounds_toArray, List.set_cons_zero, List.set_cons_succ])
      refine wpAnyH_take (i := 8) (oi := { dst := some 126, op := Go.Op.fieldAddr 72 (Go.Operand.tmp 125) 2, type := 0, pos := "top05.go:69", after := #[{ on := 7, ground := Go.Ground.data }], guard := none }) (v := (.pointer (some ⟨go, 10, none⟩))) rfl (by kernel_rfl) (by kernel_rfl) (by kernel_rfl) (fun _ _ _ h => h) (Or.inl ⟨by rfl, ?_⟩) hH ?_
      · intro w hSw
        (try dsimp only at hSw)
        go_simp
      (try simp only [Act.put, List.setIfInBounds_toArray, List.set_cons_zero, List.set_cons_succ])
      refine wpAnyH_take (i := 9) (oi := { dst := some 127, op := Go.Op.fieldAddr 39 (Go.Operand.tmp 126) 1, type := 0, pos := "top05.go:69", after := #[{ on := 8, ground := Go.Ground.data }], guard := none }) (v := (.pointer (some ⟨go, 12, none⟩))) rfl (by kernel_rfl) (by kernel_rfl) (by kernel_rfl) (fun _ _ _ h => h) (Or.inl ⟨by rfl, ?_⟩) hH ?_
      · intro w hSw
        (try dsimp only at hSw)
        go_simp
      (try simp only [Act.put, List.setIfInBounds_toArray, List.set_cons_zero, List.set_cons_succ])
      refine wpAnyH_take (i := 10) (oi := { dst := some 128, op := Go.Op.fieldAddr 28 (Go.Operand.tmp 127) 0, type := 0, pos := "top05.go:69", after := #[{ on := 9, ground := Go.Ground.data }], guard := none }) (v := (.pointer (some ⟨go, 12, none⟩))) rfl (by kernel_rfl) (by kernel_rfl) (by kernel_rfl) (fun _ _ _ h => h) (Or.inl ⟨by rfl, ?_⟩) hH ?_
      · intro w hSw
        (try dsimp only at hSw)
        go_simp
      (try simp only [Act.put, List.setIfInBounds_toArray, List.set_cons_zero, List.set_cons_succ])
      refine wpAnyH_take (i := 11) (oi := { dst := some 129, op := Go.Op.load 22 (Go.Operand.tmp 128), type := 22, pos := "top05.go:69", after := #[{ on := 10, ground := Go.Ground.data }], guard := none }) (v := (.int .i64 y4)) rfl (by kernel_rfl) (by kernel_rfl) (by kernel_rfl) (fun _ _ _ h => h) (Or.inl ⟨by rfl, ?_⟩) hH ?_
      · intro w hSw
        (try dsimp only at hSw)
        go_simp
      (try simp only [Act.put, List.setIfInBounds_toArray, List.set_cons_zero, List.set_cons_succ])
      refine wpAnyH_take (i := 12) (oi := { dst := some 130, op := Go.Op.binOp Go.BinOp.add 22 (Go.Operand.tmp 123) (Go.Operand.tmp 129) 22, type := 22, pos := "top05.go:69", after := #[{ on := 5, ground := Go.Ground.data }, { on := 11, ground := Go.Ground.data }], guard := none }) (v := (.int .i64 p1)) rfl (by kernel_rfl) (by kernel_rfl) (by kernel_rfl) (fun _ _ _ h => h) (Or.inl ⟨by rfl, ?_⟩) hH ?_
      · intro w hSw
        (try dsimp only at hSw)
        go_simp
      (try simp only [Act.put, List.setIfInBounds_toArray, List.set_cons_zero, List.set_cons_succ])
      refine wpAnyH_take (i := 13) (oi := { dst := some 131, op := Go.Op.indexAddr 78 (Go.Operand.tmp 13) (Go.Operand.const (Go.Value.int Go.IntKind.i64 0)), type := 0, pos := "top05.go:69", after := #[], guard := none }) (v := (.pointer (some ⟨bz, 0, none⟩))) rfl (by kernel_rfl) (by kernel_rfl) (by kernel_rfl) (fun _ _ _ h => h) (Or.inl ⟨by rfl, ?_⟩) hH ?_
      · intro w hSw
        (try dsimp only at hSw)
        go_simp
      (try simp only [Act.put, List.setIfInBounds_toArray, List.set_cons_zero, List.set_cons_succ])
      refine wpAnyH_take (i := 14) (oi := { dst := some 132, op := Go.Op.fieldAddr 72 (Go.Operand.tmp 131) 2, type := 0, pos := "top05.go:69", after := #[{ on := 13, ground := Go.Ground.data }], guard := none }) (v := (.pointer (some ⟨bz, 2, none⟩))) rfl (by kernel_rfl) (by kernel_rfl) (by kernel_rfl) (fun _ _ _ h => h) (Or.inl ⟨by rfl, ?_⟩) hH ?_
      · intro w hSw
        (try dsimp only at hSw)
        go_simp
      (try simp only [Act.put, List.setIfInBounds_toArray, List.set_cons_zero, List.set_cons_succ])
      refine wpAnyH_take (i := 15) (oi := { dst := some 133, op := Go.Op.fieldAddr 39 (Go.Operand.tmp 132) 1, type := 0, pos := "top05.go:69", after := #[{ on := 14, ground := Go.Ground.data }], guard := none }) (v := (.pointer (some ⟨bz, 4, none⟩))) rfl (by kernel_rfl) (by kernel_rfl) (by kernel_rfl) (fun _ _ _ h => h) (Or.inl ⟨by rfl, ?_⟩) hH ?_
      · intro w hSw
        (try dsimp only at hSw)
        go_simp
      (try simp only [Act.put, List.setIfInBounds_toArray, List.set_cons_zero, List.set_cons_succ])
      refine wpAnyH_take (i := 16) (oi := { dst := some 134, op := Go.Op.fieldAddr 28 (Go.Operand.tmp 133) 0, type := 0, pos := "top05.go:69", after := #[{ on := 15, ground := Go.Ground.data }], guard := none }) (v := (.pointer (some ⟨bz, 4, none⟩))) rfl (by kernel_rfl) (by kernel_rfl) (by kernel_rfl) (fun _ _ _ h => h) (Or.inl ⟨by rfl, ?_⟩) hH ?_
      · intro w hSw
        (try dsimp only at hSw)
        go_simp
      (try simp only [Act.put, List.setIfInBounds_toArray, List.set_cons_zero, List.set_cons_succ])
      refine wpAnyH_take (i := 17) (oi := { dst := some 135, op := Go.Op.load 22 (Go.Operand.tmp 134), type := 22, pos := "top05.go:69", after := #[{ on := 16, ground := Go.Ground.data }], guard := none }) (v := (.int .i64 evx)) rfl (by kernel_rfl) (by kernel_rfl) (by kernel_rfl) (fun _ _ _ h => h) (Or.inl ⟨by rfl, ?_⟩) hH ?_
      · intro w hSw
        (try dsimp only at hSw)
        go_simp
      (try simp only [Act.put, List.setIfInBounds_toArray, List.set_cons_zero, List.set_cons_succ])
      refine wpAnyH_take (i := 18) (oi := { dst := some 136, op := Go.Op.binOp Go.BinOp.sub 22 (Go.Operand.tmp 130) (Go.Operand.tmp 135) 22, type := 22, pos := "top05.go:69", after := #[{ on := 12, ground := Go.Ground.data }, { on := 17, ground := Go.Ground.data }], guard := none }) (v := (.int .i64 p2)) rfl (by kernel_rfl) (by kernel_rfl) (by kernel_rfl) (fun _ _ _ h => h) (Or.inl ⟨by rfl, ?_⟩) hH ?_
      · intro w hSw
        (try dsimp only at hSw)
        go_simp
      (try simp only [Act.put, List.setIfInBounds_toArray, List.set_cons_zero, List.set_cons_succ])
      refine wpAnyH_take (i := 19) (oi := { dst := some 137, op := Go.Op.indexAddr 78 (Go.Operand.tmp 13) (Go.Operand.const (Go.Value.int Go.IntKind.i64 1)), type := 0, pos := "top05.go:69", after := #[], guard := none }) (v := (.pointer (some ⟨bz, 8, none⟩))) rfl (by kernel_rfl) (by kernel_rfl) (by kernel_rfl) (fun _ _ _ h => h) (Or.inl ⟨by rfl, ?_⟩) hH ?_
      · intro w hSw
        (try dsimp only at hSw)
        go_simp
      (try simp only [Act.put, List.setIfInBounds_toArray, List.set_cons_zero, List.set_cons_succ])
      refine wpAnyH_take (i := 20) (oi := { dst := some 138, op := Go.Op.fieldAddr 72 (Go.Operand.tmp 137) 2, type := 0, pos := "top05.go:69", after := #[{ on := 19, ground := Go.Ground.data }], guard := none }) (v := (.pointer (some ⟨bz, 10, none⟩))) rfl (by kernel_rfl) (by kernel_rfl) (by kernel_rfl) (fun _ _ _ h => h) (Or.inl ⟨by rfl, ?_⟩) hH ?_
      · intro w hSw
        (try dsimp only at hSw)
        go_simp
      (try simp only [Act.put, List.setIfInBounds_toArray, List.set_cons_zero, List.set_cons_succ])
      refine wpAnyH_take (i := 21) (oi := { dst := some 139, op := Go.Op.fieldAddr 39 (Go.Operand.tmp 138) 1, type := 0, pos := "top05.go:69", after := #[{ on := 20, ground := Go.Ground.data }], guard := none }) (v := (.pointer (some ⟨bz, 12, none⟩))) rfl (by kernel_rfl) (by kernel_rfl) (by kernel_rfl) (fun _ _ _ h => h) (Or.inl ⟨by rfl, ?_⟩) hH ?_
      · intro w hSw
        (try dsimp only at hSw)
        go_simp
      (try simp only [Act.put, List.setIfInBounds_toArray, List.set_cons_zero, List.set_cons_succ])
      refine wpAnyH_take (i := 22) (oi := { dst := some 140, op := Go.Op.fieldAddr 28 (Go.Operand.tmp 139) 0, type := 0, pos := "top05.go:69", after := #[{ on := 21, ground := Go.Ground.data }], guard := none }) (v := (.pointer (some ⟨bz, 12, none⟩))) rfl (by kernel_rfl) (by kernel_rfl) (by kernel_rfl) (fun _ _ _ h => h) (Or.inl ⟨by rfl, ?_⟩) hH ?_
      · intro w hSw
        (try dsimp only at hSw)
        go_simp
      (try simp only [Act.put, List.setIfInBounds_toArray, List.set_cons_zero, List.set_cons_succ])
      refine wpAnyH_take (i := 23) (oi := { dst := some 141, op := Go.Op.load 22 (Go.Operand.tmp 140), type := 22, pos := "top05.go:69", after := #[{ on := 22, ground := Go.Ground.data }], guard := none }) (v := (.int .i64 fvx)) rfl (by kernel_rfl) (by kernel_rfl) (by kernel_rfl) (fun _ _ _ h => h) (Or.inl ⟨by rfl, ?_⟩) hH ?_
      · intro w hSw
        (try dsimp only at hSw)
        go_simp
      (try simp only [Act.put, List.setIfInBounds_toArray, List.set_cons_zero, List.set_cons_succ])
      refine wpAnyH_take (i := 24) (oi := { dst := some 142, op := Go.Op.binOp Go.BinOp.sub 22 (Go.Operand.tmp 136) (Go.Operand.tmp 141) 22, type := 22, pos := "top05.go:69", after := #[{ on := 18, ground := Go.Ground.data }, { on := 23, ground := Go.Ground.data }], guard := none }) (v := (.int .i64 0)) rfl (by kernel_rfl) (by kernel_rfl) (by kernel_rfl) (fun _ _ _ h => h) (Or.inl ⟨by rfl, ?_⟩) hH ?_
      · intro w hSw
        (try dsimp only at hSw)
        go_simp
      (try simp only [Act.put, List.setIfInBounds_toArray, List.set_cons_zero, List.set_cons_succ])
      refine wpAnyH_take (i := 25) (oi := { dst := some 19, op := Go.Op.assign (Go.Operand.tmp 142), type := 22, pos := "top05.go:69", after := #[{ on := 24, ground := Go.Ground.data }, { on := 0, ground := Go.Ground.phase }, { on := 1, ground := Go.Ground.phase }, { on := 2, ground := Go.Ground.phase }, { on := 3, ground := Go.Ground.phase }, { on := 4, ground := Go.Ground.phase }, { on := 5, ground := Go.Ground.phase }, { on := 6, ground := Go.Ground.phase }, { on := 7, ground := Go.Ground.phase }, { on := 8, ground := Go.Ground.phase }, { on := 9, ground := Go.Ground.phase }, { on := 10, ground := Go.Ground.phase }, { on := 11, ground := Go.Ground.phase }, { on := 12, ground := Go.Ground.phase }, { on := 13, ground := Go.Ground.phase }, { on := 14, ground := Go.Ground.phase }, { on := 15, ground := Go.Ground.phase }, { on := 16, ground := Go.Ground.phase }, { on := 17, ground := Go.Ground.phase }, { on := 18, ground := Go.Ground.phase }, { on := 19, ground := Go.Ground.phase }, { on := 20, ground := Go.Ground.phase }, { on := 21, ground := Go.Ground.phase }, { on := 22, ground := Go.Ground.phase }, { on := 23, ground := Go.Ground.phase }, { on := 24, ground := Go.Ground.phase }], guard := none }) (v := (.int .i64 0)) rfl (by kernel_rfl) (by kernel_rfl) (by kernel_rfl) (fun _ _ _ h => h) (Or.inl ⟨by rfl, ?_⟩) hH ?_
      · intro w hSw
        (try dsimp only at hSw)
        go_simp
      (try simp only [Act.put, List.setIfInBounds_toArray, List.set_cons_zero, List.set_cons_succ])
      refine wpAnyH_done (by kernel_rfl) ?_ _
      obtain ⟨v1, hv⟩ : ∃ v, v = wq.drew := ⟨_, rfl⟩
      have HS1 := hid (show (fun W => W.cell? ⟨go, 2, none⟩ = some (.int .i64 epx) ∧ W.cell? ⟨go, 3, none⟩ = some (.int .i64 epy) ∧ W.cell? ⟨go, 4, none⟩ = some (.int .i64 x4) ∧ W.cell? ⟨go, 5, none⟩ = some (.int .i64 x5) ∧ W.cell? ⟨go, 10, none⟩ = some (.int .i64 fpx) ∧ W.cell? ⟨go, 11, none⟩ = some (.int .i64 fpy) ∧ W.cell? ⟨go, 12, none⟩ = some (.int .i64 y4) ∧ W.cell? ⟨go, 13, none⟩ = some (.int .i64 y5) ∧ W.cell? ⟨bz, 2, none⟩ = some (.int .i64 epx) ∧ W.cell? ⟨bz, 3, none⟩ = some (.int .i64 epy) ∧ W.cell? ⟨bz, 4, none⟩ = some (.int .i64 evx) ∧ W.cell? ⟨bz, 5, none⟩ = some (.int .i64 evy) ∧ W.cell? ⟨bz, 10, none⟩ = some (.int .i64 fpx) ∧ W.cell? ⟨bz, 11, none⟩ = some (.int .i64 fpy) ∧ W.cell? ⟨bz, 12, none⟩ = some (.int .i64 fvx) ∧ W.cell? ⟨bz, 13, none⟩ = some (.int .i64 fvy)) v1 by rw [hv]; exact HSF.out)
      have HBF1 := hid (show Below wq.heap.size wq v1 by rw [hv]; exact (Below.refl _ _).drew)
      rw [← hv]
      clear hv hH
      clear HSF
      go_upto_region 20 with fail
      refine wp_region_held_drew (S := (fun W => W.cell? ⟨go, 2, none⟩ = some (.int .i64 epx) ∧ W.cell? ⟨go, 3, none⟩ = some (.int .i64 epy) ∧ W.cell? ⟨go, 4, none⟩ = some (.int .i64 x4) ∧ W.cell? ⟨go, 5, none⟩ = some (.int .i64 x5) ∧ W.cell? ⟨go, 10, none⟩ = some (.int .i64 fpx) ∧ W.cell? ⟨go, 11, none⟩ = some (.int .i64 fpy) ∧ W.cell? ⟨go, 12, none⟩ = some (.int .i64 y4) ∧ W.cell? ⟨go, 13, none⟩ = some (.int .i64 y5) ∧ W.cell? ⟨bz, 2, none⟩ = some (.int .i64 epx) ∧ W.cell? ⟨bz, 3, none⟩ = some (.int .i64 epy) ∧ W.cell? ⟨bz, 4, none⟩ = some (.int .i64 evx) ∧ W.cell? ⟨bz, 5, none⟩ = some (.int .i64 evy) ∧ W.cell? ⟨bz, 10, none⟩ = some (.int .i64 fpx) ∧ W.cell? ⟨bz, 11, none⟩ = some (.int .i64 fpy) ∧ W.cell? ⟨bz, 12, none⟩ = some (.int .i64 fvx) ∧ W.cell? ⟨bz, 13, none⟩ = some (.int .i64 fvy))) (by kernel_rfl) (HS1.out) (fun hH => ?_)
      refine wpAnyH_take (i := 0) (oi := { dst := some 143, op := Go.Op.move (Go.Operand.tmp 10), type := 74, pos := "top05.go:70", after := #[], guard := none }) (v := (.slice (some ⟨go, 0, none⟩) 2 ocap)) rfl (by kernel_rfl) (by kernel_rfl) (by kernel_rfl) (fun _ _ _ h => h) (Or.inl ⟨by rfl, ?_⟩) hH ?_
      · intro w hSw
        (try dsimp only at hSw)
        go_simp
      (try simp only [Act.put, List.setIfInBounds_toArray, List.set_cons_zero, List.set_cons_succ])
      refine wpAnyH_take (i := 1) (oi := { dst := some 144, op := Go.Op.indexAddr 74 (Go.Operand.tmp 143) (Go.Operand.const (Go.Value.int Go.IntKind.i64 0)), type := 0, pos := "top05.go:70", after := #[{ on := 0, ground := Go.Ground.data }], guard := none }) (v := (.pointer (some ⟨go, 0, none⟩))) rfl (by kernel_rfl) (by kernel_rfl) (by kernel_rfl) (fun _ _ _ h => h) (Or.inl ⟨by rfl, ?_⟩) hH ?_
      · intro w hSw
        (try dsimp only at hSw)
        go_simp
      (try simp only [Act.put, List.setIfInBounds_toArray, List.set_cons_zero, List.set_cons_succ])
      refine wpAnyH_take (i := 2) (oi := { dst := some 145, op := Go.Op.fieldAddr 72 (Go.Operand.tmp 144) 2, type := 0, pos := "top05.go:70", after := #[{ on := 1, ground := Go.Ground.data }], guard := none }) (v := (.pointer (some ⟨go, 2, none⟩))) rfl (by kernel_rfl) (by kernel_rfl) (by kernel_rfl) (fun _ _ _ h => h) (Or.inl ⟨by rfl, ?_⟩) hH ?_
      · intro w hSw
        (try dsimp only at hSw)
        go_simp
      (try simp only [Act.put, List.setIfInBounds_toArray, List.set_cons_zero, List.set_cons_succ])
      refine wpAnyH_take (i := 3) (oi := { dst := some 146, op := Go.Op.fieldAddr 39 (Go.Operand.tmp 145) 1, type := 0, pos := "top05.go:70", after := #[{ on := 2, ground := Go.Ground.data }], guard := none }) (v := (.pointer (some ⟨go, 4, none⟩))) rfl (by kernel_rfl) (by kernel_rfl) (by kernel_rfl) (fun _ _ _ h => h) (Or.inl ⟨by rfl, ?_⟩) hH ?_
      · intro w hSw
        (try dsimp only at hSw)
        go_simp
      (try simp only [Act.put, List.setIfInBounds_toArray, List.set_cons_zero, List.set_cons_succ])
      refine wpAnyH_take (i := 4) (oi := { dst := some 147, op := Go.Op.fieldAddr 28 (Go.Operand.tmp 146) 1, type := 0, pos := "top05.go:70", after := #[{ on := 3, ground := Go.Ground.data }], guard := none }) (v := (.pointer (some ⟨go, 5, none⟩))) rfl (by kernel_rfl) (by kernel_rfl) (by kernel_rfl) (fun _ _ _ h => h) (Or.inl ⟨by rfl, ?_⟩) hH ?_
      · intro w hSw
        (try dsimp only at hSw)
        go_simp
      (try simp only [Act.put, List.setIfInBounds_toArray, List.set_cons_zero, List.set_cons_succ])
      refine wpAnyH_take (i := 5) (oi := { dst := some 148, op := Go.Op.load 22 (Go.Operand.tmp 147), type := 22, pos := "top05.go:70", after := #[{ on := 4, ground := Go.Ground.data }], guard := none }) (v := (.int .i64 x5)) rfl (by kernel_rfl) (by kernel_rfl) (by kernel_rfl) (fun _ _ _ h => h) (Or.inl ⟨by rfl, ?_⟩) hH ?_
      · intro w hSw
        (try dsimp only at hSw)
        go_simp
      (try simp only [Act.put, List.setIfInBounds_toArray, List.set_cons_zero, List.set_cons_succ])
      refine wpAnyH_take (i := 6) (oi := { dst := some 149, op := Go.Op.move (Go.Operand.tmp 10), type := 74, pos := "top05.go:70", after := #[], guard := none }) (v := (.slice (some ⟨go, 0, none⟩) 2 ocap)) rfl (by kernel_rfl) (by kernel_rfl) (by kernel_rfl) (fun _ _ _ h => h) (Or.inl ⟨by rfl, ?_⟩) hH ?_
      · intro w hSw
        (try dsimp only at hSw)
        go_simp
      (try simp only [Act.put, List.setIfInBounds_toArray, List.set_cons_zero, List.set_cons_succ])
      refine wpAnyH_take (i := 7) (oi := { dst := some 150, op := Go.Op.indexAddr 74 (Go.Operand.tmp 149) (Go.Operand.const (Go.Value.int Go.IntKind.i64 1)), type := 0, pos := "top05.go:70", after := #[{ on := 6, ground := Go.Ground.data }], guard := none }) (v := (.pointer (some ⟨go, 8, none⟩))) rfl (by kernel_rfl) (by kernel_rfl) (by kernel_rfl) (fun _ _ _ h => h) (Or.inl ⟨by rfl, ?_⟩) hH ?_
      · intro w hSw
        (try dsimp only at hSw)
        go_simp
      (try simp only [Act.put, List.setIfInBounds_toArray, List.set_cons_zero, List.set_cons_succ])
      refine wpAnyH_take (i := 8) (oi := { dst := some 151, op := Go.Op.fieldAddr 72 (Go.Operand.tmp 150) 2, type := 0, pos := "top05.go:70", after := #[{ on := 7, ground := Go.Ground.data }], guard := none }) (v := (.pointer (some ⟨go, 10, none⟩))) rfl (by kernel_rfl) (by kernel_rfl) (by kernel_rfl) (fun _ _ _ h => h) (Or.inl ⟨by rfl, ?_⟩) hH ?_
      · intro w hSw
        (try dsimp only at hSw)
        go_simp
      (try simp only [Act.put, List.setIfInBounds_toArray, List.set_cons_zero, List.set_cons_succ])
      refine wpAnyH_take (i := 9) (oi := { dst := some 152, op := Go.Op.fieldAddr 39 (Go.Operand.tmp 151) 1, type := 0, pos := "top05.go:70", after := #[{ on := 8, ground := Go.Ground.data }], guard := none }) (v := (.pointer (some ⟨go, 12, none⟩))) rfl (by kernel_rfl) (by kernel_rfl) (by kernel_rfl) (fun _ _ _ h => h) (Or.inl ⟨by rfl, ?_⟩) hH ?_
      · intro w hSw
        (try dsimp only at hSw)
        go_simp
      (try simp only [Act.put, List.setIfInBounds_toArray, List.set_cons_zero, List.set_cons_succ])
      refine wpAnyH_take (i := 10) (oi := { dst := some 153, op := Go.Op.fieldAddr 28 (Go.Operand.tmp 152) 1, type := 0, pos := "top05.go:70", after := #[{ on := 9, ground := Go.Ground.data }], guard := none }) (v := (.pointer (some ⟨go, 13, none⟩))) rfl (by kernel_rfl) (by kernel_rfl) (by kernel_rfl) (fun _ _ _ h => h) (Or.inl ⟨by rfl, ?_⟩) hH ?_
      · intro w hSw
        (try dsimp only at hSw)
        go_simp
      (try simp only [Act.put, List.setIfInBounds_toArray, List.set_cons_zero, List.set_cons_succ])
      refine wpAnyH_take (i := 11) (oi := { dst := some 154, op := Go.Op.load 22 (Go.Operand.tmp 153), type := 22, pos := "top05.go:70", after := #[{ on := 10, ground := Go.Ground.data }], guard := none }) (v := (.int .i64 y5)) rfl (by kernel_rfl) (by kernel_rfl) (by kernel_rfl) (fun _ _ _ h => h) (Or.inl ⟨by rfl, ?_⟩) hH ?_
      · intro w hSw
        (try dsimp only at hSw)
        go_simp
      (try simp only [Act.put, List.setIfInBounds_toArray, List.set_cons_zero, List.set_cons_succ])
      refine wpAnyH_take (i := 12) (oi := { dst := some 155, op := Go.Op.binOp Go.BinOp.add 22 (Go.Operand.tmp 148) (Go.Operand.tmp 154) 22, type := 22, pos := "top05.go:70", after := #[{ on := 5, ground := Go.Ground.data }, { on := 11, ground := Go.Ground.data }], guard := none }) (v := (.int .i64 q1)) rfl (by kernel_rfl) (by kernel_rfl) (by kernel_rfl) (fun _ _ _ h => h) (Or.inl ⟨by rfl, ?_⟩) hH ?_
      · intro w hSw
        (try dsimp only at hSw)
        go_simp
      (try simp only [Act.put, List.setIfInBounds_toArray, List.set_cons_zero, List.set_cons_succ])
      refine wpAnyH_take (i := 13) (oi := { dst := some 156, op := Go.Op.indexAddr 78 (Go.Operand.tmp 13) (Go.Operand.const (Go.Value.int Go.IntKind.i64 0)), type := 0, pos := "top05.go:70", after := #[], guard := none }) (v := (.pointer (some ⟨bz, 0, none⟩))) rfl (by kernel_rfl) (by kernel_rfl) (by kernel_rfl) (fun _ _ _ h => h) (Or.inl ⟨by rfl, ?_⟩) hH ?_
      · intro w hSw
        (try dsimp only at hSw)
        go_simp
      (try simp only [Act.put, List.setIfInBounds_toArray, List.set_cons_zero, List.set_cons_succ])
      refine wpAnyH_take (i := 14) (oi := { dst := some 157, op := Go.Op.fieldAddr 72 (Go.Operand.tmp 156) 2, type := 0, pos := "top05.go:70", after := #[{ on := 13, ground := Go.Ground.data }], guard := none }) (v := (.pointer (some ⟨bz, 2, none⟩))) rfl (by kernel_rfl) (by kernel_rfl) (by kernel_rfl) (fun _ _ _ h => h) (Or.inl ⟨by rfl, ?_⟩) hH ?_
      · intro w hSw
        (try dsimp only at hSw)
        go_simp
      (try simp only [Act.put, List.setIfInBounds_toArray, List.set_cons_zero, List.set_cons_succ])
      refine wpAnyH_take (i := 15) (oi := { dst := some 158, op := Go.Op.fieldAddr 39 (Go.Operand.tmp 157) 1, type := 0, pos := "top05.go:70", after := #[{ on := 14, ground := Go.Ground.data }], guard := none }) (v := (.pointer (some ⟨bz, 4, none⟩))) rfl (by kernel_rfl) (by kernel_rfl) (by kernel_rfl) (fun _ _ _ h => h) (Or.inl ⟨by rfl, ?_⟩) hH ?_
      · intro w hSw
        (try dsimp only at hSw)
        go_simp
      (try simp only [Act.put, List.setIfInBounds_toArray, List.set_cons_zero, List.set_cons_succ])
      refine wpAnyH_take (i := 16) (oi := { dst := some 159, op := Go.Op.fieldAddr 28 (Go.Operand.tmp 158) 1, type := 0, pos := "top05.go:70", after := #[{ on := 15, ground := Go.Ground.data }], guard := none }) (v := (.pointer (some ⟨bz, 5, none⟩))) rfl (by kernel_rfl) (by kernel_rfl) (by kernel_rfl) (fun _ _ _ h => h) (Or.inl ⟨by rfl, ?_⟩) hH ?_
      · intro w hSw
        (try dsimp only at hSw)
        go_simp
      (try simp only [Act.put, List.setIfInBounds_toArray, List.set_cons_zero, List.set_cons_succ])
      refine wpAnyH_take (i := 17) (oi := { dst := some 160, op := Go.Op.load 22 (Go.Operand.tmp 159), type := 22, pos := "top05.go:70", after := #[{ on := 16, ground := Go.Ground.data }], guard := none }) (v := (.int .i64 evy)) rfl (by kernel_rfl) (by kernel_rfl) (by kernel_rfl) (fun _ _ _ h => h) (Or.inl ⟨by rfl, ?_⟩) hH ?_
      · intro w hSw
        (try dsimp only at hSw)
        go_simp
      (try simp only [Act.put, List.setIfInBounds_toArray, List.set_cons_zero, List.set_cons_succ])
      refine wpAnyH_take (i := 18) (oi := { dst := some 161, op := Go.Op.binOp Go.BinOp.sub 22 (Go.Operand.tmp 155) (Go.Operand.tmp 160) 22, type := 22, pos := "top05.go:70", after := #[{ on := 12, ground := Go.Ground.data }, { on := 17, ground := Go.Ground.data }], guard := none }) (v := (.int .i64 q2)) rfl (by kernel_rfl) (by kernel_rfl) (by kernel_rfl) (fun _ _ _ h => h) (Or.inl ⟨by rfl, ?_⟩) hH ?_
      · intro w hSw
        (try dsimp only at hSw)
        go_simp
      (try simp only [Act.put, List.setIfInBounds_toArray, List.set_cons_zero, List.set_cons_succ])
      refine wpAnyH_take (i := 19) (oi := { dst := some 162, op := Go.Op.indexAddr 78 (Go.Operand.tmp 13) (Go.Operand.const (Go.Value.int Go.IntKind.i64 1)), type := 0, pos := "top05.go:70", after := #[], guard := none }) (v := (.pointer (some ⟨bz, 8, none⟩))) rfl (by kernel_rfl) (by kernel_rfl) (by kernel_rfl) (fun _ _ _ h => h) (Or.inl ⟨by rfl, ?_⟩) hH ?_
      · intro w hSw
        (try dsimp only at hSw)
        go_simp
      (try simp only [Act.put, List.setIfInBounds_toArray, List.set_cons_zero, List.set_cons_succ])
      refine wpAnyH_take (i := 20) (oi := { dst := some 163, op := Go.Op.fieldAddr 72 (Go.Operand.tmp 162) 2, type := 0, pos := "top05.go:70", after := #[{ on := 19, ground := Go.Ground.data }], guard := none }) (v := (.pointer (some ⟨bz, 10, none⟩))) rfl (by kernel_rfl) (by kernel_rfl) (by kernel_rfl) (fun _ _ _ h => h) (Or.inl ⟨by rfl, ?_⟩) hH ?_
      · intro w hSw
        (try dsimp only at hSw)
        go_simp
      (try simp only [Act.put, List.setIfInBounds_toArray, List.set_cons_zero, List.set_cons_succ])
      refine wpAnyH_take (i := 21) (oi := { dst := some 164, op := Go.Op.fieldAddr 39 (Go.Operand.tmp 163) 1, type := 0, pos := "top05.go:70", after := #[{ on := 20, ground := Go.Ground.data }], guard := none }) (v := (.pointer (some ⟨bz, 12, none⟩))) rfl (by kernel_rfl) (by kernel_rfl) (by kernel_rfl) (fun _ _ _ h => h) (Or.inl ⟨by rfl, ?_⟩) hH ?_
      · intro w hSw
        (try dsimp only at hSw)
        go_simp
      (try simp only [Act.put, List.setIfInBounds_toArray, List.set_cons_zero, List.set_cons_succ])
      refine wpAnyH_take (i := 22) (oi := { dst := some 165, op := Go.Op.fieldAddr 28 (Go.Operand.tmp 164) 1, type := 0, pos := "top05.go:70", after := #[{ on := 21, ground := Go.Ground.data }], guard := none }) (v := (.pointer (some ⟨bz, 13, none⟩))) rfl (by kernel_rfl) (by kernel_rfl) (by kernel_rfl) (fun _ _ _ h => h) (Or.inl ⟨by rfl, ?_⟩) hH ?_
      · intro w hSw
        (try dsimp only at hSw)
        go_simp
      (try simp only [Act.put, List.setIfInBounds_toArray, List.set_cons_zero, List.set_cons_succ])
      refine wpAnyH_take (i := 23) (oi := { dst := some 166, op := Go.Op.load 22 (Go.Operand.tmp 165), type := 22, pos := "top05.go:70", after := #[{ on := 22, ground := Go.Ground.data }], guard := none }) (v := (.int .i64 fvy)) rfl (by kernel_rfl) (by kernel_rfl) (by kernel_rfl) (fun _ _ _ h => h) (Or.inl ⟨by rfl, ?_⟩) hH ?_
      · intro w hSw
        (try dsimp only at hSw)
        go_simp
      (try simp only [Act.put, List.setIfInBounds_toArray, List.set_cons_zero, List.set_cons_succ])
      refine wpAnyH_take (i := 24) (oi := { dst := some 167, op := Go.Op.binOp Go.BinOp.sub 22 (Go.Operand.tmp 161) (Go.Operand.tmp 166) 22, type := 22, pos := "top05.go:70", after := #[{ on := 18, ground := Go.Ground.data }, { on := 23, ground := Go.Ground.data }], guard := none }) (v := (.int .i64 0)) rfl (by kernel_rfl) (by kernel_rfl) (by kernel_rfl) (fun _ _ _ h => h) (Or.inl ⟨by rfl, ?_⟩) hH ?_
      · intro w hSw
        (try dsimp only at hSw)
        go_simp
      (try simp only [Act.put, List.setIfInBounds_toArray, List.set_cons_zero, List.set_cons_succ])
      refine wpAnyH_take (i := 25) (oi := { dst := some 20, op := Go.Op.assign (Go.Operand.tmp 167), type := 22, pos := "top05.go:70", after := #[{ on := 24, ground := Go.Ground.data }, { on := 0, ground := Go.Ground.phase }, { on := 1, ground := Go.Ground.phase }, { on := 2, ground := Go.Ground.phase }, { on := 3, ground := Go.Ground.phase }, { on := 4, ground := Go.Ground.phase }, { on := 5, ground := Go.Ground.phase }, { on := 6, ground := Go.Ground.phase }, { on := 7, ground := Go.Ground.phase }, { on := 8, ground := Go.Ground.phase }, { on := 9, ground := Go.Ground.phase }, { on := 10, ground := Go.Ground.phase }, { on := 11, ground := Go.Ground.phase }, { on := 12, ground := Go.Ground.phase }, { on := 13, ground := Go.Ground.phase }, { on := 14, ground := Go.Ground.phase }, { on := 15, ground := Go.Ground.phase }, { on := 16, ground := Go.Ground.phase }, { on := 17, ground := Go.Ground.phase }, { on := 18, ground := Go.Ground.phase }, { on := 19, ground := Go.Ground.phase }, { on := 20, ground := Go.Ground.phase }, { on := 21, ground := Go.Ground.phase }, { on := 22, ground := Go.Ground.phase }, { on := 23, ground := Go.Ground.phase }, { on := 24, ground := Go.Ground.phase }], guard := none }) (v := (.int .i64 0)) rfl (by kernel_rfl) (by kernel_rfl) (by kernel_rfl) (fun _ _ _ h => h) (Or.inl ⟨by rfl, ?_⟩) hH ?_
      · intro w hSw
        (try dsimp only at hSw)
        go_simp
      (try simp only [Act.put, List.setIfInBounds_toArray, List.set_cons_zero, List.set_cons_succ])
      refine wpAnyH_done (by kernel_rfl) ?_ _
      obtain ⟨v2, hv⟩ : ∃ v, v = v1.drew := ⟨_, rfl⟩
      have HS2 := hid (show (fun W => W.cell? ⟨go, 2, none⟩ = some (.int .i64 epx) ∧ W.cell? ⟨go, 3, none⟩ = some (.int .i64 epy) ∧ W.cell? ⟨go, 4, none⟩ = some (.int .i64 x4) ∧ W.cell? ⟨go, 5, none⟩ = some (.int .i64 x5) ∧ W.cell? ⟨go, 10, none⟩ = some (.int .i64 fpx) ∧ W.cell? ⟨go, 11, none⟩ = some (.int .i64 fpy) ∧ W.cell? ⟨go, 12, none⟩ = some (.int .i64 y4) ∧ W.cell? ⟨go, 13, none⟩ = some (.int .i64 y5) ∧ W.cell? ⟨bz, 2, none⟩ = some (.int .i64 epx) ∧ W.cell? ⟨bz, 3, none⟩ = some (.int .i64 epy) ∧ W.cell? ⟨bz, 4, none⟩ = some (.int .i64 evx) ∧ W.cell? ⟨bz, 5, none⟩ = some (.int .i64 evy) ∧ W.cell? ⟨bz, 10, none⟩ = some (.int .i64 fpx) ∧ W.cell? ⟨bz, 11, none⟩ = some (.int .i64 fpy) ∧ W.cell? ⟨bz, 12, none⟩ = some (.int .i64 fvx) ∧ W.cell? ⟨bz, 13, none⟩ = some (.int .i64 fvy)) v2 by rw [hv]; exact HS1.out)
      have HBF2 := hid (show Below wq.heap.size wq v2 by rw [hv]; exact HBF1.out.drew)
      rw [← hv]
      clear hv hH
      clear HS1 HBF1
      go_upto_region 21 with fail
      refine wp_region_held_drew (S := (fun W => W.cell? ⟨go, 2, none⟩ = some (.int .i64 epx) ∧ W.cell? ⟨go, 3, none⟩ = some (.int .i64 epy) ∧ W.cell? ⟨go, 4, none⟩ = some (.int .i64 x4) ∧ W.cell? ⟨go, 5, none⟩ = some (.int .i64 x5) ∧ W.cell? ⟨go, 10, none⟩ = some (.int .i64 fpx) ∧ W.cell? ⟨go, 11, none⟩ = some (.int .i64 fpy) ∧ W.cell? ⟨go, 12, none⟩ = some (.int .i64 y4) ∧ W.cell? ⟨go, 13, none⟩ = some (.int .i64 y5) ∧ W.cell? ⟨bz, 2, none⟩ = some (.int .i64 epx) ∧ W.cell? ⟨bz, 3, none⟩ = some (.int .i64 epy) ∧ W.cell? ⟨bz, 4, none⟩ = some (.int .i64 evx) ∧ W.cell? ⟨bz, 5, none⟩ = some (.int .i64 evy) ∧ W.cell? ⟨bz, 10, none⟩ = some (.int .i64 fpx) ∧ W.cell? ⟨bz, 11, none⟩ = some (.int .i64 fpy) ∧ W.cell? ⟨bz, 12, none⟩ = some (.int .i64 fvx) ∧ W.cell? ⟨bz, 13, none⟩ = some (.int .i64 fvy))) (by kernel_rfl) (HS2.out) (fun hH => ?_)
      obtain ⟨v3, hv3⟩ : ∃ v, v = v2.drew := ⟨_, rfl⟩
      have HBF3 := hid (show Below wq.heap.size wq v3 by rw [hv3]; exact HBF2.out.drew)
      have HS3 := hid (show (fun W => W.cell? ⟨go, 2, none⟩ = some (.int .i64 epx) ∧ W.cell? ⟨go, 3, none⟩ = some (.int .i64 epy) ∧ W.cell? ⟨go, 4, none⟩ = some (.int .i64 x4) ∧ W.cell? ⟨go, 5, none⟩ = some (.int .i64 x5) ∧ W.cell? ⟨go, 10, none⟩ = some (.int .i64 fpx) ∧ W.cell? ⟨go, 11, none⟩ = some (.int .i64 fpy) ∧ W.cell? ⟨go, 12, none⟩ = some (.int .i64 y4) ∧ W.cell? ⟨go, 13, none⟩ = some (.int .i64 y5) ∧ W.cell? ⟨bz, 2, none⟩ = some (.int .i64 epx) ∧ W.cell? ⟨bz, 3, none⟩ = some (.int .i64 epy) ∧ W.cell? ⟨bz, 4, none⟩ = some (.int .i64 evx) ∧ W.cell? ⟨bz, 5, none⟩ = some (.int .i64 evy) ∧ W.cell? ⟨bz, 10, none⟩ = some (.int .i64 fpx) ∧ W.cell? ⟨bz, 11, none⟩ = some (.int .i64 fpy) ∧ W.cell? ⟨bz, 12, none⟩ = some (.int .i64 fvx) ∧ W.cell? ⟨bz, 13, none⟩ = some (.int .i64 fvy)) v3 by rw [hv3]; exact HS2.out)
      rw [← hv3] at hH ⊢
      clear hv3
      refine wpAnyH_take (i := 0) (oi := { dst := some 168, op := Go.Op.move (Go.Operand.tmp 19), type := 22, pos := "top05.go:71", after := #[], guard := none }) (v := (.int .i64 0)) rfl (by kernel_rfl) (by kernel_rfl) (by kernel_rfl) (fun _ _ _ h => h) (Or.inl ⟨by rfl, ?_⟩) hH ?_
      · intro w hSw
        (try dsimp only at hSw)
        go_simp
      (try simp only [Act.put, List.setIfInBounds_toArray, List.set_cons_zero, List.set_cons_succ])
      refine wpAnyH_take (i := 1) (oi := { dst := some 169, op := Go.Op.binOp Go.BinOp.eql 22 (Go.Operand.tmp 168) (Go.Operand.const (Go.Value.int Go.IntKind.i64 0)) 22, type := 4, pos := "top05.go:71", after := #[{ on := 0, ground := Go.Ground.data }], guard := none }) (v := (.bool true)) rfl (by kernel_rfl) (by kernel_rfl) (by kernel_rfl) (fun _ _ _ h => h) (Or.inl ⟨by rfl, ?_⟩) hH ?_
      · intro w hSw
        (try dsimp only at hSw)
        go_simp
      (try simp only [Act.put, List.setIfInBounds_toArray, List.set_cons_zero, List.set_cons_succ])
      refine wpAnyH_take (i := 2) (oi := { dst := some 170, op := Go.Op.move (Go.Operand.tmp 169), type := 4, pos := "top05.go:71", after := #[{ on := 1, ground := Go.Ground.data }], guard := none }) (v := (.bool true)) rfl (by kernel_rfl) (by kernel_rfl) (by kernel_rfl) (fun _ _ _ h => h) (Or.inl ⟨by rfl, ?_⟩) hH ?_
      · intro w hSw
        (try dsimp only at hSw)
        go_simp
      (try simp only [Act.put, List.setIfInBounds_toArray, List.set_cons_zero, List.set_cons_succ])
      refine wpAnyH_take (i := 3) (oi := { dst := some 171, op := Go.Op.move (Go.Operand.tmp 20), type := 22, pos := "top05.go:71", after := #[{ on := 2, ground := Go.Ground.guard }], guard := some (2, true) }) (v := (.int .i64 0)) rfl (by kernel_rfl) (by kernel_rfl) (by kernel_rfl) (fun _ _ _ h => h) (Or.inl ⟨by rfl, ?_⟩) hH ?_
      · intro w hSw
        (try dsimp only at hSw)
        go_simp
      (try simp only [Act.put, List.setIfInBounds_toArray, List.set_cons_zero, List.set_cons_succ])
      refine wpAnyH_take (i := 4) (oi := { dst := some 172, op := Go.Op.binOp Go.BinOp.eql 22 (Go.Operand.tmp 171) (Go.Operand.const (Go.Value.int Go.IntKind.i64 0)) 22, type := 4, pos := "top05.go:71", after := #[{ on := 3, ground := Go.Ground.data }, { on := 2, ground := Go.Ground.guard }], guard := some (2, true) }) (v := (.bool true)) rfl (by kernel_rfl) (by kernel_rfl) (by kernel_rfl) (fun _ _ _ h => h) (Or.inl ⟨by rfl, ?_⟩) hH ?_
      · intro w hSw
        (try dsimp only at hSw)
        go_simp
      (try simp only [Act.put, List.setIfInBounds_toArray, List.set_cons_zero, List.set_cons_succ])
      refine wpAnyH_take (i := 5) (oi := { dst := some 173, op := Go.Op.pick (Go.Operand.tmp 170) (Go.Operand.tmp 172) (Go.Operand.const (Go.Value.bool false)), type := 4, pos := "top05.go:71", after := #[{ on := 2, ground := Go.Ground.data }, { on := 4, ground := Go.Ground.data }], guard := none }) (v := (.bool true)) rfl (by kernel_rfl) (by kernel_rfl) (by kernel_rfl) (fun _ _ _ h => h) (Or.inl ⟨by rfl, ?_⟩) hH ?_
      · intro w hSw
        (try dsimp only at hSw)
        go_simp
      (try simp only [Act.put, List.setIfInBounds_toArray, List.set_cons_zero, List.set_cons_succ])
      refine wpAnyH_take (i := 6) (oi := { dst := some 174, op := Go.Op.move (Go.Operand.tmp 173), type := 4, pos := "top05.go:71", after := #[{ on := 5, ground := Go.Ground.data }, { on := 2, ground := Go.Ground.chain }], guard := none }) (v := (.bool true)) rfl (by kernel_rfl) (by kernel_rfl) (by kernel_rfl) (fun _ _ _ h => h) (Or.inl ⟨by rfl, ?_⟩) hH ?_
      · intro w hSw
        (try dsimp only at hSw)
        go_simp
      (try simp only [Act.put, List.setIfInBounds_toArray, List.set_cons_zero, List.set_cons_succ])
      refine wpAnyH_take (i := 7) (oi := { dst := some 175, op := Go.Op.move (Go.Operand.tmp 10), type := 74, pos := "top05.go:71", after := #[{ on := 6, ground := Go.Ground.guard }], guard := some (6, true) }) (v := (.slice (some ⟨go, 0, none⟩) 2 ocap)) rfl (by kernel_rfl) (by kernel_rfl) (by kernel_rfl) (fun _ _ _ h => h) (Or.inl ⟨by rfl, ?_⟩) hH ?_
      · intro w hSw
        (try dsimp only at hSw)
        go_simp
      (try simp only [Act.put, List.setIfInBounds_toArray, List.set_cons_zero, List.set_cons_succ])
      refine wpAnyH_take (i := 8) (oi := { dst := some 176, op := Go.Op.indexAddr 74 (Go.Operand.tmp 175) (Go.Operand.const (Go.Value.int Go.IntKind.i64 0)), type := 0, pos := "top05.go:71", after := #[{ on := 7, ground := Go.Ground.data }, { on := 6, ground := Go.Ground.guard }], guard := some (6, true) }) (v := (.pointer (some ⟨go, 0, none⟩))) rfl (by kernel_rfl) (by kernel_rfl) (by kernel_rfl) (fun _ _ _ h => h) (Or.inl ⟨by rfl, ?_⟩) hH ?_
      · intro w hSw
        (try dsimp only at hSw)
        go_simp
      (try simp only [Act.put, List.setIfInBounds_toArray, List.set_cons_zero, List.set_cons_succ])
      refine wpAnyH_take (i := 9) (oi := { dst := some 177, op := Go.Op.fieldAddr 72 (Go.Operand.tmp 176) 2, type := 0, pos := "top05.go:71", after := #[{ on := 8, ground := Go.Ground.data }, { on := 6, ground := Go.Ground.guard }], guard := some (6, true) }) (v := (.pointer (some ⟨go, 2, none⟩))) rfl (by kernel_rfl) (by kernel_rfl) (by kernel_rfl) (fun _ _ _ h => h) (Or.inl ⟨by rfl, ?_⟩) hH ?_
      · intro w hSw
        (try dsimp only at hSw)
        go_simp
      (try simp only [Act.put, List.setIfInBounds_toArray, List.set_cons_zero, List.set_cons_succ])
      refine wpAnyH_take (i := 10) (oi := { dst := some 178, op := Go.Op.fieldAddr 39 (Go.Operand.tmp 177) 0, type := 0, pos := "top05.go:71", after := #[{ on := 9, ground := Go.Ground.data }, { on := 6, ground := Go.Ground.guard }], guard := some (6, true) }) (v := (.pointer (some ⟨go, 2, none⟩))) rfl (by kernel_rfl) (by kernel_rfl) (by kernel_rfl) (fun _ _ _ h => h) (Or.inl ⟨by rfl, ?_⟩) hH ?_
      · intro w hSw
        (try dsimp only at hSw)
        go_simp
      (try simp only [Act.put, List.setIfInBounds_toArray, List.set_cons_zero, List.set_cons_succ])
      refine wpAnyH_take (i := 11) (oi := { dst := some 179, op := Go.Op.load 28 (Go.Operand.tmp 178), type := 28, pos := "top05.go:71", after := #[{ on := 10, ground := Go.Ground.data }, { on := 6, ground := Go.Ground.guard }], guard := some (6, true) }) (v := (.agg #[.int .i64 epx, .int .i64 epy])) rfl (by kernel_rfl) (by kernel_rfl) (by kernel_rfl) (fun _ _ _ h => h) (Or.inl ⟨by rfl, ?_⟩) hH ?_
      · intro w hSw
        (try dsimp only at hSw)
        go_simp
      (try simp only [Act.put, List.setIfInBounds_toArray, List.set_cons_zero, List.set_cons_succ])
      refine wpAnyH_take (i := 12) (oi := { dst := some 180, op := Go.Op.indexAddr 78 (Go.Operand.tmp 13) (Go.Operand.const (Go.Value.int Go.IntKind.i64 0)), type := 0, pos := "top05.go:71", after := #[{ on := 6, ground := Go.Ground.guard }], guard := some (6, true) }) (v := (.pointer (some ⟨bz, 0, none⟩))) rfl (by kernel_rfl) (by kernel_rfl) (by kernel_rfl) (fun _ _ _ h => h) (Or.inl ⟨by rfl, ?_⟩) hH ?_
      · intro w hSw
        (try dsimp only at hSw)
        go_simp
      (try simp only [Act.put, List.setIfInBounds_toArray, List.set_cons_zero, List.set_cons_succ])
      refine wpAnyH_take (i := 13) (oi := { dst := some 181, op := Go.Op.fieldAddr 72 (Go.Operand.tmp 180) 2, type := 0, pos := "top05.go:71", after := #[{ on := 12, ground := Go.Ground.data }, { on := 6, ground := Go.Ground.guard }], guard := some (6, true) }) (v := (.pointer (some ⟨bz, 2, none⟩))) rfl (by kernel_rfl) (by kernel_rfl) (by kernel_rfl) (fun _ _ _ h => h) (Or.inl ⟨by rfl, ?_⟩) hH ?_
      · intro w hSw
        (try dsimp only at hSw)
        go_simp
      (try simp only [Act.put, List.setIfInBounds_toArray, List.set_cons_zero, List.set_cons_succ])
      refine wpAnyH_take (i := 14) (oi := { dst := some 182, op := Go.Op.fieldAddr 39 (Go.Operand.tmp 181) 0, type := 0, pos := "top05.go:71", after := #[{ on := 13, ground := Go.Ground.data }, { on := 6, ground := Go.Ground.guard }], guard := some (6, true) }) (v := (.pointer (some ⟨bz, 2, none⟩))) rfl (by kernel_rfl) (by kernel_rfl) (by kernel_rfl) (fun _ _ _ h => h) (Or.inl ⟨by rfl, ?_⟩) hH ?_
      · intro w hSw
        (try dsimp only at hSw)
        go_simp
      (try simp only [Act.put, List.setIfInBounds_toArray, List.set_cons_zero, List.set_cons_succ])
      refine wpAnyH_take (i := 15) (oi := { dst := some 183, op := Go.Op.load 28 (Go.Operand.tmp 182), type := 28, pos := "top05.go:71", after := #[{ on := 14, ground := Go.Ground.data }, { on := 6, ground := Go.Ground.guard }], guard := some (6, true) }) (v := (.agg #[.int .i64 epx, .int .i64 epy])) rfl (by kernel_rfl) (by kernel_rfl) (by kernel_rfl) (fun _ _ _ h => h) (Or.inl ⟨by rfl, ?_⟩) hH ?_
      · intro w hSw
        (try dsimp only at hSw)
        go_simp
      (try simp only [Act.put, List.setIfInBounds_toArray, List.set_cons_zero, List.set_cons_succ])
      refine wpAnyH_take (i := 16) (oi := { dst := some 184, op := Go.Op.binOp Go.BinOp.eql 28 (Go.Operand.tmp 179) (Go.Operand.tmp 183) 28, type := 4, pos := "top05.go:71", after := #[{ on := 11, ground := Go.Ground.data }, { on := 15, ground := Go.Ground.data }, { on := 6, ground := Go.Ground.guard }], guard := some (6, true) }) (v := (.bool true)) rfl (by kernel_rfl) (by kernel_rfl) (by kernel_rfl) (fun _ _ _ h => h) (Or.inl ⟨by rfl, ?_⟩) hH ?_
      · intro w hSw
        (try dsimp only at hSw)
        go_simp
      (try simp only [Act.put, List.setIfInBounds_toArray, List.set_cons_zero, List.set_cons_succ])
      refine wpAnyH_take (i := 17) (oi := { dst := some 185, op := Go.Op.pick (Go.Operand.tmp 174) (Go.Operand.tmp 184) (Go.Operand.const (Go.Value.bool false)), type := 4, pos := "top05.go:71", after := #[{ on := 6, ground := Go.Ground.data }, { on := 16, ground := Go.Ground.data }], guard := none }) (v := (.bool true)) rfl (by kernel_rfl) (by kernel_rfl) (by kernel_rfl) (fun _ _ _ h => h) (Or.inl ⟨by rfl, ?_⟩) hH ?_
      · intro w hSw
        (try dsimp only at hSw)
        go_simp
      (try simp only [Act.put, List.setIfInBounds_toArray, List.set_cons_zero, List.set_cons_succ])
      refine wpAnyH_take (i := 18) (oi := { dst := some 186, op := Go.Op.move (Go.Operand.tmp 185), type := 4, pos := "top05.go:71", after := #[{ on := 17, ground := Go.Ground.data }, { on := 6, ground := Go.Ground.chain }], guard := none }) (v := (.bool true)) rfl (by kernel_rfl) (by kernel_rfl) (by kernel_rfl) (fun _ _ _ h => h) (Or.inl ⟨by rfl, ?_⟩) hH ?_
      · intro w hSw
        (try dsimp only at hSw)
        go_simp
      (try simp only [Act.put, List.setIfInBounds_toArray, List.set_cons_zero, List.set_cons_succ])
      refine wpAnyH_take (i := 19) (oi := { dst := some 187, op := Go.Op.move (Go.Operand.tmp 10), type := 74, pos := "top05.go:71", after := #[{ on := 18, ground := Go.Ground.guard }], guard := some (18, true) }) (v := (.slice (some ⟨go, 0, none⟩) 2 ocap)) rfl (by kernel_rfl) (by kernel_rfl) (by kernel_rfl) (fun _ _ _ h => h) (Or.inl ⟨by rfl, ?_⟩) hH ?_
      · intro w hSw
        (try dsimp only at hSw)
        go_simp
      (try simp only [Act.put, List.setIfInBounds_toArray, List.set_cons_zero, List.set_cons_succ])
      refine wpAnyH_take (i := 20) (oi := { dst := some 188, op := Go.Op.indexAddr 74 (Go.Operand.tmp 187) (Go.Operand.const (Go.Value.int Go.IntKind.i64 1)), type := 0, pos := "top05.go:71", after := #[{ on := 19, ground := Go.Ground.data }, { on := 18, ground := Go.Ground.guard }], guard := some (18, true) }) (v := (.pointer (some ⟨go, 8, none⟩))) rfl (by kernel_rfl) (by kernel_rfl) (by kernel_rfl) (fun _ _ _ h => h) (Or.inl ⟨by rfl, ?_⟩) hH ?_
      · intro w hSw
        (try dsimp only at hSw)
        go_simp
      (try simp only [Act.put, List.setIfInBounds_toArray, List.set_cons_zero, List.set_cons_succ])
      refine wpAnyH_take (i := 21) (oi := { dst := some 189, op := Go.Op.fieldAddr 72 (Go.Operand.tmp 188) 2, type := 0, pos := "top05.go:71", after := #[{ on := 20, ground := Go.Ground.data }, { on := 18, ground := Go.Ground.guard }], guard := some (18, true) }) (v := (.pointer (some ⟨go, 10, none⟩))) rfl (by kernel_rfl) (by kernel_rfl) (by kernel_rfl) (fun _ _ _ h => h) (Or.inl ⟨by rfl, ?_⟩) hH ?_
      · intro w hSw
        (try dsimp only at hSw)
        go_simp
      (try simp only [Act.put, List.setIfInBounds_toArray, List.set_cons_zero, List.set_cons_succ])
      refine wpAnyH_take (i := 22) (oi := { dst := some 190, op := Go.Op.fieldAddr 39 (Go.Operand.tmp 189) 0, type := 0, pos := "top05.go:71", after := #[{ on := 21, ground := Go.Ground.data }, { on := 18, ground := Go.Ground.guard }], guard := some (18, true) }) (v := (.pointer (some ⟨go, 10, none⟩))) rfl (by kernel_rfl) (by kernel_rfl) (by kernel_rfl) (fun _ _ _ h => h) (Or.inl ⟨by rfl, ?_⟩) hH ?_
      · intro w hSw
        (try dsimp only at hSw)
        go_simp
      (try simp only [Act.put, List.setIfInBounds_toArray, List.set_cons_zero, List.set_cons_succ])
      refine wpAnyH_take (i := 23) (oi := { dst := some 191, op := Go.Op.load 28 (Go.Operand.tmp 190), type := 28, pos := "top05.go:71", after := #[{ on := 22, ground := Go.Ground.data }, { on := 18, ground := Go.Ground.guard }], guard := some (18, true) }) (v := (.agg #[.int .i64 fpx, .int .i64 fpy])) rfl (by kernel_rfl) (by kernel_rfl) (by kernel_rfl) (fun _ _ _ h => h) (Or.inl ⟨by rfl, ?_⟩) hH ?_
      · intro w hSw
        (try dsimp only at hSw)
        go_simp
      (try simp only [Act.put, List.setIfInBounds_toArray, List.set_cons_zero, List.set_cons_succ])
      refine wpAnyH_take (i := 24) (oi := { dst := some 192, op := Go.Op.indexAddr 78 (Go.Operand.tmp 13) (Go.Operand.const (Go.Value.int Go.IntKind.i64 1)), type := 0, pos := "top05.go:71", after := #[{ on := 18, ground := Go.Ground.guard }], guard := some (18, true) }) (v := (.pointer (some ⟨bz, 8, none⟩))) rfl (by kernel_rfl) (by kernel_rfl) (by kernel_rfl) (fun _ _ _ h => h) (Or.inl ⟨by rfl, ?_⟩) hH ?_
      · intro w hSw
        (try dsimp only at hSw)
        go_simp
      (try simp only [Act.put, List.setIfInBounds_toArray, List.set_cons_zero, List.set_cons_succ])
      refine wpAnyH_take (i := 25) (oi := { dst := some 193, op := Go.Op.fieldAddr 72 (Go.Operand.tmp 192) 2, type := 0, pos := "top05.go:71", after := #[{ on := 24, ground := Go.Ground.data }, { on := 18, ground := Go.Ground.guard }], guard := some (18, true) }) (v := (.pointer (some ⟨bz, 10, none⟩))) rfl (by kernel_rfl) (by kernel_rfl) (by kernel_rfl) (fun _ _ _ h => h) (Or.inl ⟨by rfl, ?_⟩) hH ?_
      · intro w hSw
        (try dsimp only at hSw)
        go_simp
      (try simp only [Act.put, List.setIfInBounds_toArray, List.set_cons_zero, List.set_cons_succ])
      refine wpAnyH_take (i := 26) (oi := { dst := some 194, op := Go.Op.fieldAddr 39 (Go.Operand.tmp 193) 0, type := 0, pos := "top05.go:71", after := #[{ on := 25, ground := Go.Ground.data }, { on := 18, ground := Go.Ground.guard }], guard := some (18, true) }) (v := (.pointer (some ⟨bz, 10, none⟩))) rfl (by kernel_rfl) (by kernel_rfl) (by kernel_rfl) (fun _ _ _ h => h) (Or.inl ⟨by rfl, ?_⟩) hH ?_
      · intro w hSw
        (try dsimp only at hSw)
        go_simp
      (try simp only [Act.put, List.setIfInBounds_toArray, List.set_cons_zero, List.set_cons_succ])
      refine wpAnyH_take (i := 27) (oi := { dst := some 195, op := Go.Op.load 28 (Go.Operand.tmp 194), type := 28, pos := "top05.go:71", after := #[{ on := 26, ground := Go.Ground.data }, { on := 18, ground := Go.Ground.guard }], guard := some (18, true) }) (v := (.agg #[.int .i64 fpx, .int .i64 fpy])) rfl (by kernel_rfl) (by kernel_rfl) (by kernel_rfl) (fun _ _ _ h => h) (Or.inl ⟨by rfl, ?_⟩) hH ?_
      · intro w hSw
        (try dsimp only at hSw)
        go_simp
      (try simp only [Act.put, List.setIfInBounds_toArray, List.set_cons_zero, List.set_cons_succ])
      refine wpAnyH_take (i := 28) (oi := { dst := some 196, op := Go.Op.binOp Go.BinOp.eql 28 (Go.Operand.tmp 191) (Go.Operand.tmp 195) 28, type := 4, pos := "top05.go:71", after := #[{ on := 23, ground := Go.Ground.data }, { on := 27, ground := Go.Ground.data }, { on := 18, ground := Go.Ground.guard }], guard := some (18, true) }) (v := (.bool true)) rfl (by kernel_rfl) (by kernel_rfl) (by kernel_rfl) (fun _ _ _ h => h) (Or.inl ⟨by rfl, ?_⟩) hH ?_
      · intro w hSw
        (try dsimp only at hSw)
        go_simp
      (try simp only [Act.put, List.setIfInBounds_toArray, List.set_cons_zero, List.set_cons_succ])
      refine wpAnyH_take (i := 29) (oi := { dst := some 197, op := Go.Op.pick (Go.Operand.tmp 186) (Go.Operand.tmp 196) (Go.Operand.const (Go.Value.bool false)), type := 4, pos := "top05.go:71", after := #[{ on := 18, ground := Go.Ground.data }, { on := 28, ground := Go.Ground.data }], guard := none }) (v := (.bool true)) rfl (by kernel_rfl) (by kernel_rfl) (by kernel_rfl) (fun _ _ _ h => h) (Or.inl ⟨by rfl, ?_⟩) hH ?_
      · intro w hSw
        (try dsimp only at hSw)
        go_simp
      (try simp only [Act.put, List.setIfInBounds_toArray, List.set_cons_zero, List.set_cons_succ])
      refine wpAnyH_take (i := 30) (oi := { dst := some 198, op := Go.Op.move (Go.Operand.tmp 197), type := 4, pos := "top05.go:71", after := #[{ on := 29, ground := Go.Ground.data }, { on := 18, ground := Go.Ground.chain }], guard := none }) (v := (.bool true)) rfl (by kernel_rfl) (by kernel_rfl) (by kernel_rfl) (fun _ _ _ h => h) (Or.inl ⟨by rfl, ?_⟩) hH ?_
      · intro w hSw
        (try dsimp only at hSw)
        go_simp
      (try simp only [Act.put, List.setIfInBounds_toArray, List.set_cons_zero, List.set_cons_succ])
      refine wpAnyH_ready (rs := [31]) (by kernel_rfl) (by simp) ?_
      refine AllReadyH.cons rfl (fun K hK => ?_) AllReadyH.nil
      (try dsimp only at hH)
      go_simp
      refine (sound_any _).mono ?_
      rintro e v4 ⟨rfl, hb4⟩
      refine hK.out _ _ (HSK.out _ (HBF3.out.trans (hb4.mono HBF3.out.size))) (fun hH1 => ?_)
      clear hK K
      have HBF4 := hid (HBF3.out.trans (hb4.mono HBF3.out.size))
      clear hb4
      (try simp only [Act.put, List.setIfInBounds_toArray, List.set_cons_zero, List.set_cons_succ])
      refine wpAnyH_take (i := 32) (oi := { dst := some 200, op := Go.Op.pick (Go.Operand.tmp 198) (Go.Operand.tmp 199) (Go.Operand.const (Go.Value.bool false)), type := 4, pos := "top05.go:71", after := #[{ on := 30, ground := Go.Ground.data }, { on := 31, ground := Go.Ground.data }], guard := none }) (v := (.bool true)) rfl (by kernel_rfl) (by kernel_rfl) (by kernel_rfl) (fun _ _ _ h => h) (Or.inl ⟨by rfl, ?_⟩) hH1 ?_
      · intro w hSw
        (try dsimp only at hSw)
        go_simp
      (try simp only [Act.put, List.setIfInBounds_toArray, List.set_cons_zero, List.set_cons_succ])
      refine wpAnyH_take (i := 33) (oi := { dst := some 8, op := Go.Op.assign (Go.Operand.tmp 200), type := 4, pos := "top05.go:71", after := #[{ on := 32, ground := Go.Ground.data }, { on := 31, ground := Go.Ground.chain }, { on := 0, ground := Go.Ground.phase }, { on := 1, ground := Go.Ground.phase }, { on := 2, ground := Go.Ground.phase }, { on := 3, ground := Go.Ground.phase }, { on := 4, ground := Go.Ground.phase }, { on := 5, ground := Go.Ground.phase }, { on := 6, ground := Go.Ground.phase }, { on := 7, ground := Go.Ground.phase }, { on := 8, ground := Go.Ground.phase }, { on := 9, ground := Go.Ground.phase }, { on := 10, ground := Go.Ground.phase }, { on := 11, ground := Go.Ground.phase }, { on := 12, ground := Go.Ground.phase }, { on := 13, ground := Go.Ground.phase }, { on := 14, ground := Go.Ground.phase }, { on := 15, ground := Go.Ground.phase }, { on := 16, ground := Go.Ground.phase }, { on := 17, ground := Go.Ground.phase }, { on := 18, ground := Go.Ground.phase }, { on := 19, ground := Go.Ground.phase }, { on := 20, ground := Go.Ground.phase }, { on := 21, ground := Go.Ground.phase }, { on := 22, ground := Go.Ground.phase }, { on := 23, ground := Go.Ground.phase }, { on := 24, ground := Go.Ground.phase }, { on := 25, ground := Go.Ground.phase }, { on := 26, ground := Go.Ground.phase }, { on := 27, ground := Go.Ground.phase }, { on := 28, ground := Go.Ground.phase }, { on := 29, ground := Go.Ground.phase }, { on := 30, ground := Go.Ground.phase }, { on := 31, ground := Go.Ground.phase }, { on := 32, ground := Go.Ground.phase }], guard := none }) (v := (.bool true)) rfl (by kernel_rfl) (by kernel_rfl) (by kernel_rfl) (fun _ _ _ h => h) (Or.inl ⟨by rfl, ?_⟩) hH1 ?_
      · intro w hSw
        (try dsimp only at hSw)
        go_simp
      (try simp only [Act.put, List.setIfInBounds_toArray, List.set_cons_zero, List.set_cons_succ])
      refine wpAnyH_done (by kernel_rfl) ?_ _
      go_wp2_with fail
      go_ret
      exact ⟨rfl, HB4.out.trans ((HBQ.out.trans (HBF4.out.mono HBQ.out.size)).mono HB4.out.size)⟩
end Go.Proofs.YtolnhicngepnnaaGreat
