import Derived.Test.YtjjphiecjhijiaaJ4
namespace Go.Proofs.Ytjjphiecjhijiaa
open Go.RowKit
attribute [local go_sem] alloc_drewN setCell_drewN

/-- The queue when its first was taken, and its last set in its place. -/
def cutL (a : List Nat) : List Nat := (a.set 0 (a.getD (a.length - 1) 0)).take (a.length - 1)
theorem cutL_length (a : List Nat) : (cutL a).length = a.length - 1 := by simp [cutL]
theorem cutL_perm (x : Nat) (r : List Nat) : (cutL (x :: r)).Perm r := by
  rcases List.eq_nil_or_concat r with rfl | ⟨r', y, rfl⟩
  · simp [cutL]
  · have e : cutL (x :: (r' ++ [y])) = y :: r' := by
      simp [cutL, List.getD_eq_getElem?_getD]
    rw [List.concat_eq_append, e]
    exact (List.perm_append_singleton y r').symm
theorem cutL_get (a : List Nat) (j : Nat) (h0 : 0 < j) (hj : j < (cutL a).length) : (cutL a).getD j 0 = a.getD j 0 := by
  rw [cutL_length] at hj
  simp [cutL, List.getD_eq_getElem?_getD, hj, show 0 ≠ j by omega, show j < a.length by omega]
theorem cutL_down {r : Nat → Nat → Bool} {a : List Nat} (h : HeapO r a) : DownO r (cutL a) 0 := by
  refine ⟨?_, fun j _ _ _ h => absurd h (Nat.lt_irrefl _)⟩
  intro j h0 hj hne
  have hl := cutL_length a
  rw [cutL_get a j h0 hj, cutL_get a _ (by omega) (by omega)]
  exact h j h0 (by omega)

theorem own_take {w : World} {base g n cap : Nat} {e : TypeId} {xs : List Value} (h : w.ownsRow base e 1 (.slice (some ⟨g, 0, none⟩) (n + 1) cap) (n + 1) xs) : w.ownsRow base e 1 (.slice (some ⟨g, 0, none⟩) n cap) n (xs.take n) := by
  have hl := h.1
  refine ⟨by simp; omega, ?_⟩
  rcases h.2 with ⟨h0, _⟩ | ⟨g', cap', cur, h', hgb, hh, hnc, hcm, hcs, htake⟩
  · cases h0
  · simp only [Value.slice.injEq, Option.some.injEq, Addr.mk.injEq, and_true, true_and] at h'
    obtain ⟨rfl, rfl⟩ := h'
    refine .inr ⟨g, cap, cur, rfl, hgb, hh, by omega, hcm, hcs, ?_⟩
    rw [← htake, List.take_take]
    congr 1
    omega
theorem index33a (a b : Int) (w : World) : (Instr.index 43 (.agg #[.int .i64 a, .int .i64 b]) (.int .i64 0)).run Try.prog w = .ok (.int .i64 a) w := by kernel_rfl
theorem index33b (a b : Int) (w : World) : (Instr.index 43 (.agg #[.int .i64 a, .int .i64 b]) (.int .i64 1)).run Try.prog w = .ok (.int .i64 b) w := by kernel_rfl
/-- Which of i and the two behind it is the least, as take looks for it: after the first, and after the second. -/
def leastA (r : Nat → Nat → Bool) (a : List Nat) (k c : Nat) : Nat := if c < a.length && r (a.getD c 0) (a.getD k 0) then c else k

/-- The least of i and the first s of the two behind it. -/
def leastK (r : Nat → Nat → Bool) (a : List Nat) (i : Nat) : Nat → Nat
  | 0 => i
  | s + 1 => leastA r a (leastK r a i s) (2 * i + 1 + s)
theorem leastK_bd (r : Nat → Nat → Bool) (a : List Nat) (i s : Nat) : leastK r a i s = i ∨ leastK r a i s < a.length := by
  induction s with
  | zero => exact .inl rfl
  | succ s ih =>
    unfold leastK leastA
    split
    · rename_i h; simp only [Bool.and_eq_true, decide_eq_true_eq] at h; exact .inr h.1
    · exact ih
theorem leastA_t {r : Nat → Nat → Bool} {a : List Nat} {k c : Nat} (h : c < a.length) (hr : r (a.getD c 0) (a.getD k 0) = true) : leastA r a k c = c := by
  unfold leastA
  rw [hr]; simp [h]
theorem leastA_f {r : Nat → Nat → Bool} {a : List Nat} {k c : Nat} (h : c < a.length → r (a.getD c 0) (a.getD k 0) = false) : leastA r a k c = k := by
  unfold leastA
  by_cases hc : c < a.length
  · rw [h hc]; simp
  · simp [hc]
theorem leastK_two {r : Nat → Nat → Bool} (ho : Ord r) (a : List Nat) (i : Nat) :
    (leastK r a i 2 = i ∧ (2 * i + 1 < a.length → r (a.getD (2 * i + 1) 0) (a.getD i 0) = false) ∧ (2 * i + 2 < a.length → r (a.getD (2 * i + 2) 0) (a.getD i 0) = false)) ∨
    (leastK r a i 2 ≠ i ∧ leastK r a i 2 < a.length ∧ (leastK r a i 2 - 1) / 2 = i ∧ 0 < leastK r a i 2 ∧ r (a.getD (leastK r a i 2) 0) (a.getD i 0) = true ∧
      ∀ j, 0 < j → j < a.length → (j - 1) / 2 = i → r (a.getD j 0) (a.getD (leastK r a i 2) 0) = false) := by
  have asym : ∀ x y, r x y = true → r y x = false := by
    intro x y h
    cases hx : r y x with
    | false => rfl
    | true => have := ho.tr _ _ _ h hx; rw [ho.irr] at this; cases this
  have e2 : leastK r a i 2 = leastA r a (leastA r a i (2 * i + 1)) (2 * i + 2) := rfl
  rw [e2]
  by_cases h1 : 2 * i + 1 < a.length ∧ r (a.getD (2 * i + 1) 0) (a.getD i 0) = true
  · rw [leastA_t h1.1 h1.2]
    by_cases h2 : 2 * i + 2 < a.length ∧ r (a.getD (2 * i + 2) 0) (a.getD (2 * i + 1) 0) = true
    · rw [leastA_t h2.1 h2.2]
      refine .inr ⟨by omega, h2.1, by omega, by omega, ho.tr _ _ _ h2.2 h1.2, ?_⟩
      intro j h0 hj e
      rcases (by omega : j = 2 * i + 1 ∨ j = 2 * i + 2) with rfl | rfl
      · exact asym _ _ h2.2
      · exact ho.irr _
    · have h2' : 2 * i + 2 < a.length → r (a.getD (2 * i + 2) 0) (a.getD (2 * i + 1) 0) = false := by
        intro h; cases hx : r (a.getD (2 * i + 2) 0) (a.getD (2 * i + 1) 0) with
        | false => rfl
        | true => exact absurd ⟨h, hx⟩ h2
      rw [leastA_f h2']
      refine .inr ⟨by omega, h1.1, by omega, by omega, h1.2, ?_⟩
      intro j h0 hj e
      rcases (by omega : j = 2 * i + 1 ∨ j = 2 * i + 2) with rfl | rfl
      · exact ho.irr _
      · exact h2' hj
  · have h1' : 2 * i + 1 < a.length → r (a.getD (2 * i + 1) 0) (a.getD i 0) = false := by
      intro h; cases hx : r (a.getD (2 * i + 1) 0) (a.getD i 0) with
      | false => rfl
      | true => exact absurd ⟨h, hx⟩ h1
    rw [leastA_f h1']
    by_cases h2 : 2 * i + 2 < a.length ∧ r (a.getD (2 * i + 2) 0) (a.getD i 0) = true
    · rw [leastA_t h2.1 h2.2]
      refine .inr ⟨by omega, h2.1, by omega, by omega, h2.2, ?_⟩
      intro j h0 hj e
      rcases (by omega : j = 2 * i + 1 ∨ j = 2 * i + 2) with rfl | rfl
      · exact ho.ntr _ _ _ (h1' hj) (asym _ _ h2.2)
      · exact ho.irr _
    · have h2' : 2 * i + 2 < a.length → r (a.getD (2 * i + 2) 0) (a.getD i 0) = false := by
        intro h; cases hx : r (a.getD (2 * i + 2) 0) (a.getD i 0) with
        | false => rfl
        | true => exact absurd ⟨h, hx⟩ h2
      rw [leastA_f h2']
      exact .inl ⟨rfl, h1', h2'⟩

set_option maxRecDepth 100000 in
set_option maxHeartbeats 1000000 in
/-- heap.take -/
theorem take_any (hb b2 base : Nat) (a : List Nat) (v : Value) (l : List Mach) (w : World) (hh : HeapW w hb b2 base a v) (hj : JobsW w b2 base hb l) (hbb : hb < base) (_hbs : base ≤ w.heap.size) (ho : HeapO (lessJ l) a) (ha : ∀ y ∈ a, y < l.length) (hne : 0 < a.length) (hlen : a.length ≤ 1000000) :
    Calls Try.prog 22 #[.pointer (some ⟨hb, 0, none⟩)] w fun e w' => e = .returned (.int .i64 (a.getD 0 0 : Nat)) ∧ ∃ a' v', a'.Perm (cutL a) ∧ HeapO (lessJ l) a' ∧ HeapW w' hb b2 base a' v' ∧ FrB hb v.ownBlock w w' := by
  obtain ⟨e0, f0, e1, hown⟩ := hh
  obtain ⟨g, cap, rfl⟩ : ∃ g cap, v = .slice (some ⟨g, 0, none⟩) a.length cap := by
    rcases hown.2 with ⟨_, h0⟩ | ⟨g, cap, cur, rfl, _⟩
    · omega
    · exact ⟨g, cap, rfl⟩
  have hget : ∀ j, j < a.length → w.cell? ⟨g, j, none⟩ = some (.int .i64 (a.getD j 0 : Nat)) := by
    intro j hj
    rw [hown.cellAt j (by omega)]
    simp [natsV, List.getD_eq_getElem?_getD, hj]
  have x0 := hget 0 hne
  have x1 := hget (a.length - 1) (by omega)
  have fz0 := hown.frozenAt 0
  obtain ⟨m, hm⟩ : ∃ m, a.length = m + 1 := ⟨a.length - 1, by omega⟩
  rw [show a.length - 1 = m by omega] at x1
  rw [hm] at e0 hown hne hlen
  have hw1 : ((m : Int) + 1 - 1) = (m : Int) := by omega
  generalize hx0 : a.getD 0 0 = xa at *
  generalize hx1 : a.getD m 0 = xb at *
  have HX := hid (And.intro hx0 hx1)
  have HOWN := hid hown
  have HGET := hid hget
  clear hx0 hx1 hown hget
  go_enter Try.func22, Try.ntmps22
  go_upto_region 1 with fail
  go_quiet (fail)
  have hown2 : (w.drewN nq).ownsRow base 3 1 (.slice (some ⟨g, 0, none⟩) (m + 1) cap) (m + 1) (natsV a) := HOWN.out
  have y0 : (w.drewN nq).cell? ⟨hb, 0, none⟩ = some (.slice (some ⟨g, 0, none⟩) (m + 1) cap) := e0
  have y1 : (w.drewN nq).cell? ⟨hb, 1, none⟩ = some (.func (.func 19) #[] #[.pointer (some ⟨b2, 0, none⟩)]) := e1
  have yf : (w.drewN nq).frozen? ⟨hb, 0, none⟩ = false := f0
  have z0 : (w.drewN nq).cell? ⟨g, 0, none⟩ = some (.int .i64 xa) := x0
  have z1 : (w.drewN nq).cell? ⟨g, m, none⟩ = some (.int .i64 xb) := x1
  have zf : (w.drewN nq).frozen? ⟨g, 0, none⟩ = false := fz0
  have hf2 : FrB hb (some g) w (w.drewN nq) := (FrB.refl hb (some g) w).drewN nq
  have HO2 := hid hown2
  have HF2 := hid hf2
  have hgb : base ≤ g := (HO2.out.lt g rfl).1
  have hghb : ¬ g = hb := by omega
  have hbg : ¬ hb = g := by omega
  clear e0 e1 f0 x0 x1 fz0 hown2 hf2
  generalize w.drewN nq = w2 at *
  have hcap : m + 1 ≤ cap := by
    rcases HO2.out.2 with ⟨h, _⟩ | ⟨g', cap', cur, h, _, _, hnc, _⟩
    · cases h
    · simp only [Value.slice.injEq] at h
      omega
  have hi3 : (m : Int) ≤ (cap : Int) := by omega
  have hcap0 : ¬ cap = 0 := by omega
  have hi0 : (0 : Int) ≤ (m : Int) := by omega
  have hi1 : (m : Int) < (m : Int) + 1 := by omega
  have hi2 : (0 : Int) < (m : Int) + 1 := by omega
  go_upto_region 2 with fail
  go_region
  go_upto_region 4 with fail
  obtain ⟨W5, hW5⟩ : ∃ W5, ((w2.setCell ⟨g, 0, none⟩ (.int .i64 (xb : Int))).setCell ⟨hb, 0, none⟩ (.slice (some ⟨g, 0, none⟩) m cap)).drew = W5 := ⟨_, rfl⟩
  rw [hW5]
  have hn1 : ∀ j o, (⟨g, j, none⟩ : Addr) ≠ ⟨hb, o, none⟩ := fun j o h => hghb (by injection h)
  have hown5 : W5.ownsRow base 3 1 (.slice (some ⟨g, 0, none⟩) m cap) m (natsV (cutL a)) := by
    rw [← hW5]
    have h1 := own_take (World.ownsRow.stored HO2.out 0 (.int .i64 (xb : Int))).1
    have e : natsV (cutL a) = ((natsV a).set 0 (.int .i64 (xb : Int))).take m := by
      unfold natsV cutL
      rw [List.map_take, List.map_set, show a.length - 1 = m by omega, HX.out.2]
    rw [e]
    exact (ownsRow_setCell_below h1 (a := ⟨hb, 0, none⟩) hbb _).drew
  have d0 : W5.cell? ⟨hb, 0, none⟩ = some (.slice (some ⟨g, 0, none⟩) m cap) := by
    rw [← hW5, World.cell?_drew]
    exact World.cell?_setCell_same _ _ _ ((World.cell?_setCell_other _ _ _ _ (hn1 _ _)).trans y0)
  have d1 : W5.cell? ⟨hb, 1, none⟩ = some (.func (.func 19) #[] #[.pointer (some ⟨b2, 0, none⟩)]) := by
    rw [← hW5, World.cell?_drew, World.cell?_setCell_other _ _ _ _ (by simp), World.cell?_setCell_other _ _ _ _ (hn1 _ _)]
    exact y1
  have df : W5.frozen? ⟨hb, 0, none⟩ = false := by rw [← hW5]; simpa using yf
  have HFR := hid (show FrB hb (some g) w W5 by
    rw [← hW5]
    exact ((HF2.out.row (.inl rfl) 0 _).set 0 _).drewN 1)
  have HRB := hid (show ∀ k, some g = some k → base ≤ k from fun k hk => by cases hk; exact hgb)
  have HOWN5 := hid hown5
  have HJ := hid hj
  have hcl : (cutL a).length = m := by rw [cutL_length]; omega
  have HD := hid (cutL_down ho)
  have HORD := hid (less_ord l)
  have HA := hid (show ∀ y ∈ cutL a, y < l.length by
    intro y hy
    have h1 := List.mem_of_mem_take hy
    rcases List.mem_or_eq_of_mem_set h1 with h | h
    · exact ha y h
    · refine ha y ?_
      rw [h, List.getD_eq_getElem?_getD, List.getElem?_eq_getElem (show a.length - 1 < a.length by omega)]
      exact List.getElem_mem _)
  have HHM := hid hm
  clear hW5 hown5 y0 y1 yf z0 z1 zf hj ho ha hm
  go_wp2_with fail
  go_loopw [5] (fun t wr => ∃ (i : Nat) (c : List Nat), t = .int .i64 i ∧ i ≤ m ∧ c.Perm (cutL a) ∧ DownO (lessJ l) c i ∧ wr.cell? ⟨hb, 0, none⟩ = some (.slice (some ⟨g, 0, none⟩) m cap) ∧ wr.cell? ⟨hb, 1, none⟩ = some (.func (.func 19) #[] #[.pointer (some ⟨b2, 0, none⟩)]) ∧ wr.frozen? ⟨hb, 0, none⟩ = false ∧ wr.ownsRow base 3 1 (.slice (some ⟨g, 0, none⟩) m cap) m (natsV c) ∧ FrB hb (some g) w wr) (fun t _ => m + 1 - (intOf t).toNat)
  case atStart => exact ⟨0, cutL a, rfl, Nat.zero_le _, List.Perm.refl _, HD.out, d0, d1, df, HOWN5.out, HFR.out⟩
  case round =>
    obtain ⟨i, c, rfl, hil, hperm, hdn, d0, d1, df, hown, hfr⟩ := hrel
    obtain ⟨w6, rfl⟩ : ∃ w6 : World, w6 = wr := ⟨_, rfl⟩
    have hcl2 : c.length = m := by rw [hperm.length_eq]; exact hcl
    have hget : ∀ j, j < m → w6.cell? ⟨g, j, none⟩ = some (.int .i64 (c.getD j 0 : Nat)) := by
      intro j hj
      rw [hown.cellAt j (by omega)]
      simp [natsV, List.getD_eq_getElem?_getD, show j < c.length by omega]
    have hmem : ∀ j, j < m → c.getD j 0 < l.length := by
      intro j hj
      refine HA.out _ ((hperm.mem_iff).1 ?_)
      rw [List.getD_eq_getElem?_getD, List.getElem?_eq_getElem (show j < c.length by omega)]
      exact List.getElem_mem _
    have HGET := hid hget
    have HMEM := hid hmem
    have HPM := hid hperm
    have HDN := hid hdn
    have HOW := hid hown
    have HF := hid hfr
    clear hget hmem hperm hdn hown hfr
    have hw2 : IntKind.i64.wrap (2 * (i : Int)) = 2 * (i : Int) := IntWalk.i64_in _ (by omega)
    have hw3 : IntKind.i64.wrap (2 * (i : Int) + 1) = 2 * (i : Int) + 1 := IntWalk.i64_in _ (by omega)
    have hw4 : IntKind.i64.wrap (2 * (i : Int) + 2) = 2 * (i : Int) + 2 := IntWalk.i64_in _ (by omega)
    go_upto_region 7 with fail
    obtain ⟨K, hK⟩ : ∃ K : Nat → Nat, K = leastK (lessJ l) c i := ⟨_, rfl⟩
    have hK0 : K 0 = i := by rw [hK]; rfl
    have HK := hid hK
    have HKB := hid (show ∀ s, K s = i ∨ K s < m by intro s; rw [hK]; have := leastK_bd (lessJ l) c i s; rwa [hcl2] at this)
    have HK0 := hid hK0
    clear hK hK0
    go_loopw [6, 50] (fun t6 t50 wr => ∃ (s : Nat), t50 = .int .i64 s ∧ s ≤ 2 ∧ t6 = .int .i64 (K s : Nat) ∧ ∃ kd, wr = w6.drewN kd) (fun _ t _ => 2 - (intOf t).toNat)
    case atStart => exact ⟨0, rfl, by omega, by rw [HK0.out], 0, rfl⟩
    case round =>
      obtain ⟨s, rfl, hs2, rfl, kd, rfl⟩ := hrel
      by_cases hs : s < 2
      · obtain ⟨q, hq⟩ : ∃ q, q = 2 * i + 1 + s := ⟨_, rfl⟩
        have hix : ∀ w, (Instr.index 43 (.agg #[.int .i64 (2 * (i : Int) + 1), .int .i64 (2 * (i : Int) + 2)]) (.int .i64 (s : Int))).run Try.prog w = .ok (.int .i64 (q : Int)) w := by
          intro w
          rcases (by omega : s = 0 ∨ s = 1) with rfl | rfl
          · rw [show (q : Int) = 2 * (i : Int) + 1 by omega]; exact index33a _ _ _
          · rw [show (q : Int) = 2 * (i : Int) + 2 by omega]; exact index33b _ _ _
        have hsI : decide ((s : Int) < 2) = true := by simp; omega
        have hkb := HKB.out s
        have HQ := hid hq
        have HKS := hid (show K (s + 1) = leastA (lessJ l) c (K s) q by rw [HK.out, hq]; rfl)
        clear hq
        generalize hcur : K s = cur at *
        clear hcur
        go_upto_region 9 with fail
        have HD6 := hid (And.intro d0 (And.intro d1 df))
        by_cases hcm : q < m
        · have hqi : 2 * i + 1 ≤ q := by rw [HQ.out]; omega
          have hcI : (q : Int) < (m : Int) := by omega
          have hc0 : (0 : Int) ≤ (q : Int) := by omega
          have hkm : cur < m := by omega
          have hkI : (cur : Int) < (m : Int) := by omega
          have hk0 : (0 : Int) ≤ (cur : Int) := by omega
          have y0 : (w6.drewN kd).cell? ⟨hb, 0, none⟩ = some (.slice (some ⟨g, 0, none⟩) m cap) := d0
          have y1 : (w6.drewN kd).cell? ⟨hb, 1, none⟩ = some (.func (.func 19) #[] #[.pointer (some ⟨b2, 0, none⟩)]) := d1
          have x0 : (w6.drewN kd).cell? ⟨g, q, none⟩ = some (.int .i64 (c.getD q 0 : Nat)) := HGET.out _ hcm
          have x1 : (w6.drewN kd).cell? ⟨g, cur, none⟩ = some (.int .i64 (c.getD cur 0 : Nat)) := HGET.out _ hkm
          have hxl := HMEM.out q hcm
          have hyl := HMEM.out cur hkm
          generalize hxi : c.getD q 0 = xi at *
          generalize hxp : c.getD cur 0 = xp at *
          have HXX := hid (And.intro hxi hxp)
          clear hxi hxp
          generalize hls : lessJ l xi xp = ls at *
          have HLS := hid hls
          clear hls
          have HJ7 := hid ((HJ.out.frame HF.out HRB.out).frame ((FrB.refl hb (some g) w6).drewN kd) HRB.out)
          go_cut [76] (fun bb wx => bb = .bool ls ∧ ∃ kd, wx = w6.drewN kd)
          case first =>
            go_region_held3 (fun w' => w'.cell? ⟨hb, 0, none⟩ = some (.slice (some ⟨g, 0, none⟩) m cap) ∧ w'.cell? ⟨hb, 1, none⟩ = some (.func (.func 19) #[] #[.pointer (some ⟨b2, 0, none⟩)]) ∧ w'.cell? ⟨g, q, none⟩ = some (.int .i64 xi) ∧ w'.cell? ⟨g, cur, none⟩ = some (.int .i64 xp)) (first | (exact ⟨d0, d1, x0, x1⟩) | go_keep)
              (first | (go_at_call 19; refine ((HJ7.out.frame ((FrB.refl _ (some g) _).drewN 1) HRB.out).less hxl hyl).mono ?_; rintro e w' ⟨rfl, kd2, rfl⟩; rw [HLS.out]))
            all_goals
              go_wp2_with fail
              go_meet
              exact ⟨rfl, _, rfl⟩
          case rest =>
            obtain ⟨rfl, kd3, rfl⟩ := hcut
            have HNX := hid (show K (s + 1) = if ls then q else cur by
              rw [HKS.out]
              cases ls
              · exact leastA_f (fun _ => by rw [HXX.out.1, HXX.out.2]; exact HLS.out)
              · exact leastA_t (by omega) (by rw [HXX.out.1, HXX.out.2]; exact HLS.out))
            cases ls
            · go_wp2_with fail
              refine ⟨⟨s + 1, by go_num, by omega, by rw [HNX.out]; rfl, _, rfl⟩, by simp [intOf]; omega⟩
            · go_wp2_with fail
              refine ⟨⟨s + 1, by go_num, by omega, by rw [HNX.out]; rfl, _, rfl⟩, by simp [intOf]; omega⟩
        · have hcF : decide ((q : Int) < (m : Int)) = false := by simp; omega
          have HNX := hid (show K (s + 1) = cur by rw [HKS.out]; exact leastA_f (fun h => absurd h (by omega)))
          go_quiet (fail)
          go_wp2_with fail
          refine ⟨⟨s + 1, by go_num, by omega, by rw [HNX.out], _, rfl⟩, by simp [intOf]; omega⟩
      · obtain rfl : s = 2 := by omega
        have hk2 := leastK_two HORD.out c i
        rw [← HK.out, hcl2] at hk2
        generalize hk : K 2 = k at *
        clear hk
        rcases hk2 with ⟨hki, ha, hb'⟩ | ⟨hki, h1, h2, h3, h4, h5⟩
        · subst hki
          have HAB := hid (And.intro ha hb')
          clear ha hb'
          go_wp2_with fail
          go_ret
          refine ⟨rfl, c, _, HPM.out, ?_, ⟨d0, df, d1, by rw [hcl2]; exact HOW.out⟩, HF.out.drewN kd⟩
          exact HDN.out.done (by rw [hcl2]; exact HAB.out.1) (by rw [hcl2]; exact HAB.out.2)
        · have HAB := hid (And.intro h1 (And.intro h2 (And.intro h3 (And.intro h4 h5))))
          have hne1 : ((k : Int) == (i : Int)) = false := by simp; omega
          have him : i < m := by omega
          clear h2 h3 h4 h5
          have x0 : (w6.drewN kd).cell? ⟨g, i, none⟩ = some (.int .i64 (c.getD i 0 : Nat)) := HGET.out _ him
          have x1 : (w6.drewN kd).cell? ⟨g, k, none⟩ = some (.int .i64 (c.getD k 0 : Nat)) := HGET.out _ h1
          have y0 : (w6.drewN kd).cell? ⟨hb, 0, none⟩ = some (.slice (some ⟨g, 0, none⟩) m cap) := d0
          have y1 : (w6.drewN kd).cell? ⟨hb, 1, none⟩ = some (.func (.func 19) #[] #[.pointer (some ⟨b2, 0, none⟩)]) := d1
          have yf : (w6.drewN kd).frozen? ⟨hb, 0, none⟩ = false := df
          have zf0 : (w6.drewN kd).frozen? ⟨g, i, none⟩ = false := HOW.out.frozenAt i
          have zf1 : (w6.drewN kd).frozen? ⟨g, k, none⟩ = false := HOW.out.frozenAt k
          have HOW7 := hid (show (w6.drewN kd).ownsRow base 3 1 (.slice (some ⟨g, 0, none⟩) m cap) m (natsV c) from HOW.out)
          have HF7 := hid (show FrB hb (some g) w (w6.drewN kd) from HF.out.drewN kd)
          have hb0 : (0 : Int) ≤ (i : Int) := by omega
          have hb1 : (i : Int) < (m : Int) := by omega
          have hb2 : (0 : Int) ≤ (k : Int) := by omega
          have hb3 : (k : Int) < (m : Int) := by omega
          have hpne : ¬ i = k := by omega
          have hpne2 : ¬ k = i := by omega
          clear d0 d1 df
          generalize w6.drewN kd = w7 at *
          generalize hxi : c.getD i 0 = xi at *
          generalize hxp : c.getD k 0 = xp at *
          have HXX := hid (And.intro hxi hxp)
          clear hxi hxp
          go_upto_region 13 with fail
          go_cut [] (fun wx => wx.cell? ⟨hb, 0, none⟩ = some (.slice (some ⟨g, 0, none⟩) m cap) ∧ wx.cell? ⟨hb, 1, none⟩ = some (.func (.func 19) #[] #[.pointer (some ⟨b2, 0, none⟩)]) ∧ wx.frozen? ⟨hb, 0, none⟩ = false ∧ wx.ownsRow base 3 1 (.slice (some ⟨g, 0, none⟩) m cap) m (natsV (swapL c k i)) ∧ FrB hb (some g) w wx)
          case first =>
            go_region
            all_goals
              go_wp2_with fail
              go_meet
              have hn1 : ∀ j o, (⟨g, j, none⟩ : Addr) ≠ ⟨hb, o, none⟩ := fun j o h => hghb (by injection h)
              refine ⟨?_, ?_, ?_, ?_, ?_⟩
              · rw [World.cell?_drew, World.cell?_setCell_other _ _ _ _ (hn1 _ _), World.cell?_setCell_other _ _ _ _ (hn1 _ _)]; exact y0
              · rw [World.cell?_drew, World.cell?_setCell_other _ _ _ _ (hn1 _ _), World.cell?_setCell_other _ _ _ _ (hn1 _ _)]; exact y1
              · simpa using yf
              · have h1 := (World.ownsRow.stored HOW7.out i (.int .i64 (xp : Int))).1
                have h2 := (World.ownsRow.stored h1 k (.int .i64 (xi : Int))).1
                have e : natsV (swapL c k i) = ((natsV c).set i (.int .i64 (xp : Int))).set k (.int .i64 (xi : Int)) := by
                  unfold natsV swapL
                  rw [List.map_set, List.map_set, HXX.out.1, HXX.out.2]
                  exact List.set_comm _ _ hpne2
                rw [e]; exact h2.drew
              · exact ((HF7.out.row (.inl rfl) i _).row (.inl rfl) k _).drewN 1
          case rest =>
            obtain ⟨m0, m1, mf, hown8, hfr8⟩ := hcut
            have HO8 := hid hown8
            have HF8 := hid hfr8
            clear hown8 hfr8 y0 y1 yf x0 x1 zf0 zf1
            go_wp2_with fail
            have hk := HAB.out
            refine ⟨⟨k, swapL c k i, rfl, by omega, (swapL_perm c k i (by omega) (by omega)).trans HPM.out, ?_, m0, m1, mf, HO8.out, HF8.out⟩, by simp [intOf]; omega⟩
            exact HDN.out.down HORD.out (by omega) hk.2.1 hk.2.2.1 (by rw [HXX.out.1, HXX.out.2]; exact hk.2.2.2.1) (fun j h0 hj e => by rw [HXX.out.2]; exact hk.2.2.2.2 j h0 (by omega) e)
end Go.Proofs.Ytjjphiecjhijiaa
