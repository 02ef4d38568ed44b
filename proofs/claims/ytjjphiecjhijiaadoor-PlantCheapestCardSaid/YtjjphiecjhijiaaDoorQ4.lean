import Derived.Test.YtjjphiecjhijiaaDoorQ3
import Derived.Test.YtjjphiecjhijiaaDoorJ9
import Derived.Laws.EntriesVeiled
import Derived.BigRegion
namespace Go.Proofs.YtjjphiecjhijiaaDoor
open Go.RowKit Go.Maps
attribute [local go_sem] alloc_drewN setCell_drewN

abbrev zero64 : Array Value := #[.int .i64 0, .int .i64 0, .int .i64 0, .int .i64 0, .int .i64 0, .int .i64 0, .int .i64 0, .int .i64 0, .int .i64 0, .int .i64 0, .int .i64 0, .int .i64 0, .int .i64 0, .int .i64 0, .int .i64 0, .int .i64 0, .int .i64 0, .int .i64 0, .int .i64 0, .int .i64 0, .int .i64 0, .int .i64 0, .int .i64 0, .int .i64 0, .int .i64 0, .int .i64 0, .int .i64 0, .int .i64 0, .int .i64 0, .int .i64 0, .int .i64 0, .int .i64 0, .int .i64 0, .int .i64 0, .int .i64 0, .int .i64 0, .int .i64 0, .int .i64 0, .int .i64 0, .int .i64 0, .int .i64 0, .int .i64 0, .int .i64 0, .int .i64 0, .int .i64 0, .int .i64 0, .int .i64 0, .int .i64 0, .int .i64 0, .int .i64 0, .int .i64 0, .int .i64 0, .int .i64 0, .int .i64 0, .int .i64 0, .int .i64 0, .int .i64 0, .int .i64 0, .int .i64 0, .int .i64 0, .int .i64 0, .int .i64 0, .int .i64 0, .int .i64 0]
theorem usedN_snoc (rs : List (List Int)) (l : List Int) (i j : Nat) : usedN (rs ++ [l]) i j = usedN rs i j + if l.getD i (-1) = (j : Int) then 1 else 0 := by
  unfold usedN
  rw [List.filter_append, List.length_append]
  by_cases h : l.getD i (-1) = (j : Int)
  · rw [if_pos h, List.filter_cons_of_pos (by simpa using h)]; simp
  · rw [if_neg h, List.filter_cons_of_neg (by simpa using h)]; simp
/-- The table of counts. -/
def TabU (w : World) (ub : Nat) (f : Nat → Nat → Int) : Prop := ∀ i j, i < 8 → j < 8 → w.cell? ⟨ub, i * 8 + j, none⟩ = some (.int .i64 (f i j)) ∧ w.frozen? ⟨ub, i * 8 + j, none⟩ = false
theorem TabU.drewN {w : World} {ub : Nat} {f : Nat → Nat → Int} (h : TabU w ub f) (n : Nat) : TabU (w.drewN n) ub f := h
theorem TabU.set {w : World} {ub : Nat} {f : Nat → Nat → Int} (h : TabU w ub f) (a b : Nat) (ha : a < 8) (hb : b < 8) (x : Int) : TabU (w.setCell ⟨ub, a * 8 + b, none⟩ (.int .i64 x)) ub (fun i j => if i = a ∧ j = b then x else f i j) := by
  intro i j hi hj
  refine ⟨?_, by simpa using (h i j hi hj).2⟩
  by_cases e : i = a ∧ j = b
  · obtain ⟨rfl, rfl⟩ := e
    show World.cell? _ _ = some (Value.int .i64 (if i = i ∧ j = j then x else f i j))
    rw [if_pos ⟨rfl, rfl⟩]
    exact World.cell?_setCell_same _ _ _ (h i j hi hj).1
  · show World.cell? _ _ = some (Value.int .i64 (if i = a ∧ j = b then x else f i j))
    rw [if_neg e, World.cell?_setCell_other _ _ _ _ (by intro h; injection h with _ h; exact e (by omega))]
    exact (h i j hi hj).1
theorem TabU.congr {w : World} {ub : Nat} {f g : Nat → Nat → Int} (h : TabU w ub f) (e : ∀ i j, i < 8 → j < 8 → f i j = g i j) : TabU w ub g := by
  intro i j hi hj
  rw [← e i j hi hj]
  exact h i j hi hj
theorem NextW.low {U : Nat → Nat → Int} {w w' : World} {kb bb ub bm B : Nat} (h : NextW U w kb bb ub bm) (hb : Below B w w') (h1 : kb < B) (h2 : bb < B) (h3 : ub < B) (h4 : 1 < B) : NextW U w' kb bb ub bm :=
  ⟨(hb.cell (p := ⟨kb, 0, none⟩) h1).trans h.known, (hb.cell (p := ⟨bb, 0, none⟩) h2).trans h.self, fun i j hi hj => (hb.cell (p := ⟨ub, i * 8 + j, none⟩) h3).trans (h.used i j hi hj), h.tab.below hb h4⟩
theorem MemoN.low {U : Nat → Nat → Int} {n : Nat} {w w' : World} {bm B : Nat} (h : MemoN U n w bm) (hb : Below B w w') (h1 : bm < B) : MemoN U n w' bm := by
  obtain ⟨M, m1, m2⟩ := h
  exact ⟨M, m1.below hb h1, m2⟩
def NextPost (n : Int) (rs : List (List Int)) (w : World) (e : Ending) (w' : World) : Prop :=
  (∃ r, e = .returned (.tuple #[r, .int .i64 (nextR n rs).2]) ∧ SlI w' r (nextR n rs).1) ∧ Below w.heap.size w w'
/-- The same, and what is returned is new. -/
def NextPost2 (n : Int) (rs : List (List Int)) (w : World) (e : Ending) (w' : World) : Prop :=
  (∃ r, e = .returned (.tuple #[r, .int .i64 (nextR n rs).2]) ∧ SlI w' r (nextR n rs).1 ∧ ∀ q, r.ownBlock = some q → w.heap.size ≤ q) ∧ Below w.heap.size w w'

set_option maxRecDepth 100000 in
set_option maxHeartbeats 1000000 in
/-- plant.Next -/
theorem next_any2 (n : Int) (v : Value) (rs : List (List Int)) (w : World) (hs : SlR w v rs) (hT : TabW w) : Calls Tryd.prog 25 #[.int .i64 n, v] w (NextPost2 n rs w) := by
  have HS := hid hs
  have HT := hid hT
  obtain ⟨a, cap, rfl, hll, hcc⟩ := hs.open
  have HC := hid (checkRot_any n _ rs w hs)
  have HR := hid (show nextR n rs = if rotB n rs then (if rs.length = 100 then ([], 6) else ((rowN (usedN rs) n.toNat (List.range n.toNat) 0).map (fun (x : Nat) => (x : Int)), 0)) else ([], 2) from rfl)
  have HRB := hid (show rotB n rs = ((inB n 1 8 && decide (rs.length ≤ 100)) && rs.all (roundB n)) from rfl)
  have HCC := hid hcc
  clear hs hT hcc
  cases hrb : rotB n rs with
  | false =>
    rw [hrb] at HC HR
    clear hrb
    go_enter Tryd.func25, Tryd.ntmps25
    go_wp2_with fail
    refine HC.out.mono ?_
    rintro e w1 ⟨rfl, hb1⟩
    go_wp2_with fail
    go_ret2
    have hr : nextR n rs = ([], 2) := by rw [HR.out]; rfl
    exact ⟨⟨_, by rw [hr]; rfl, by rw [hr]; exact ⟨none, 0, rfl, by simp, .inl rfl⟩, fun q hq => by cases hq⟩, hb1⟩
  | true =>
    rw [hrb] at HC HR HRB
    have hrr := HRB.out.symm
    simp only [Bool.and_eq_true, decide_eq_true_eq, List.all_eq_true] at hrr
    obtain ⟨⟨hn18, hl100⟩, hall⟩ := hrr
    obtain ⟨m, rfl⟩ : ∃ m : Nat, n = (m : Int) := by simp [inB] at hn18; exact ⟨n.toNat, by omega⟩
    have hm18 : 1 ≤ m ∧ m ≤ 8 := by simp [inB] at hn18; omega
    have HALL := hid (show ∀ l ∈ rs, l.length = m ∧ (∀ x ∈ l, 0 ≤ x ∧ x < (m : Int)) by
      intro l hl
      have := hall l hl
      simp [roundB, inB] at this
      exact ⟨by omega, fun x hx => by have := this.1.1 x hx; omega⟩)
    clear hrb hn18 hall
    by_cases h100 : rs.length = 100
    · have h100I : ((rs.length : Int) == 100) = true := by simp; omega
      have H100 := hid h100
      clear h100
      go_enter Tryd.func25, Tryd.ntmps25
      go_wp2_with fail
      refine HC.out.mono ?_
      rintro e w1 ⟨rfl, hb1⟩
      go_wp2_with fail
      go_ret2
      have hr : nextR m rs = ([], 6) := by rw [HR.out]; simp [H100.out]
      exact ⟨⟨_, by rw [hr]; rfl, by rw [hr]; exact ⟨none, 0, rfl, by simp, .inl rfl⟩, fun q hq => by cases hq⟩, hb1⟩
    · have h100I : ((rs.length : Int) == 100) = false := by simp; omega
      have HRR := hid (show nextR m rs = ((rowN (usedN rs) m (List.range m) 0).map (fun (x : Nat) => (x : Int)), 0) by rw [HR.out]; simp [h100])
      have hU := usedN_ok hl100
      go_enter Tryd.func25, Tryd.ntmps25
      go_wp2_with fail
      refine HC.out.mono ?_
      rintro e w1 ⟨rfl, hb1⟩
      have HB1 := hid hb1
      clear hb1 HC HR HRB
      go_upto_region 6 with fail
      obtain ⟨W2, hW2⟩ : ∃ W2, w1.alloc (.cells zero64 104) = W2 := ⟨_, rfl⟩
      rw [hW2]
      have htu : TabU W2 w1.heap.size (usedN (rs.take 0)) := by
        intro i j hi hj
        rw [← hW2]
        refine ⟨(World.cell?_alloc_new _ _ _ _).trans ?_, World.frozen?_alloc_new _ _ _ _⟩
        have e : zero64 = Array.replicate 64 (.int .i64 0) := by kernel_rfl
        rw [e]
        simp [usedN, show i * 8 + j < 64 by omega]
      have hB2 : Below w.heap.size w W2 := by rw [← hW2]; exact HB1.out.alloc HB1.out.size _
      have hz2 : w1.heap.size < W2.heap.size := by rw [← hW2]; simp
      have hwl := HB1.out.size
      have HTU := hid htu
      have HB2 := hid hB2
      clear hW2 htu hB2
      generalize hub : w1.heap.size = ub at *
      clear hub
      go_wp2_with fail
      go_loopw [30] (fun i wr => ∃ k : Nat, k ≤ rs.length ∧ i = .int .i64 k ∧ TabU wr ub (usedN (rs.take k)) ∧ Below w.heap.size w wr ∧ ub < wr.heap.size) (fun i _ => rs.length - (intOf i).toNat)
      case atStart => exact ⟨0, Nat.zero_le _, rfl, HTU.out, HB2.out, hz2⟩
      case round =>
        obtain ⟨k, hk, rfl, htu, hb, hul⟩ := hrel
        obtain ⟨w3, rfl⟩ : ∃ w3 : World, w3 = wr := ⟨_, rfl⟩
        have HTU3 := hid htu
        have HB3 := hid hb
        by_cases hlt : k < rs.length
        · obtain ⟨b, off, u, rfl, hbl, hx0, hu⟩ := HCC.out k hlt
          have y0 := (hb.cell (p := ⟨b, off + k, none⟩) hbl).trans hx0
          have hal := HALL.out rs[k] (List.getElem_mem _)
          have hus := fun i j => usedN_snoc (rs.take k) rs[k] i j
          rw [show rs.take k ++ [rs[k]] = rs.take (k + 1) from (List.take_succ_eq_append_getElem hlt).symm] at hus
          have HUS := hid hus
          obtain ⟨al, cl, rfl, hl2, hlc⟩ := hu.open
          have HLC := hid hlc
          have HAL := hid hal.2
          have hal1 := hal.1
          have hub100 := usedN_ok (rs := rs.take k) (by rw [List.length_take]; omega)
          have HU100 := hid hub100
          clear hx0 hu hus hlc hal htu hb hub100
          generalize hle : rs[k] = l at *
          clear hle
          generalize hU0 : usedN (rs.take k) = U0 at *
          clear hU0
          go_wp2_with fail
          go_loopw [36] (fun i wr => ∃ q : Nat, q ≤ l.length ∧ i = .int .i64 q ∧ TabU wr ub (fun i j => U0 i j + if i < q ∧ l.getD i (-1) = (j : Int) then 1 else 0) ∧ Below w.heap.size w wr ∧ ub < wr.heap.size) (fun i _ => l.length - (intOf i).toNat)
          case atStart => exact ⟨0, Nat.zero_le _, rfl, by intro i j hi hj; have := HTU3.out i j hi hj; simpa using this, HB3.out, hul⟩
          case round =>
            obtain ⟨q, hq, rfl, htu, hb, hul2⟩ := hrel
            obtain ⟨w4, rfl⟩ : ∃ w4 : World, w4 = wr := ⟨_, rfl⟩
            have HTU4 := hid htu
            have HB4 := hid hb
            by_cases hql : q < l.length
            · obtain ⟨b2, off2, rfl, hbl2, hc2⟩ := HLC.out q hql
              have z0 := (hb.cell (p := ⟨b2, off2 + q, none⟩) hbl2).trans (hc2 q hql)
              have hxb := HAL.out l[q] (List.getElem_mem _)
              have hgd : l.getD q (-1) = l[q] := by simp [hql]
              have HGD := hid hgd
              clear hc2 htu hb hgd
              generalize hxx : l[q] = x at *
              clear hxx
              obtain ⟨xn, rfl⟩ : ∃ xn : Nat, x = (xn : Int) := ⟨x.toNat, by omega⟩
              have hq8 : q < 8 := by omega
              have hx8 : xn < 8 := by omega
              obtain ⟨t0, t1⟩ := HTU4.out q xn hq8 hx8
              simp only [Nat.lt_irrefl, false_and, if_false, Int.add_zero] at t0
              have hub := HU100.out q xn
              generalize hu0 : U0 q xn = u0 at *
              have HU0 := hid hu0
              clear hu0
              go_upto_region 12 with fail
              have hi0 : (0 : Int) ≤ (q : Int) := by omega
              have hi1 : (q : Int) < 8 := by omega
              have hi2 : (0 : Int) ≤ (xn : Int) := by omega
              have hi3 : (xn : Int) < 8 := by omega
              have hw1 : IntKind.i64.wrap (u0 + 1) = u0 + 1 := IntWalk.i64_in _ (by omega)
              go_region
              all_goals
                go_wp2_with fail
                refine ⟨⟨q + 1, by omega, by go_num, (TabU.drewN (HTU4.out.set q xn hq8 hx8 (u0 + 1)) 1).congr ?_, (HB4.out.setCell (p := ⟨ub, q * 8 + xn, none⟩) (by simp only; omega) _).drew, by simpa using hul2⟩, by simp [intOf]; omega⟩
                intro i j _ _
                by_cases e1 : i = q
                · subst e1
                  rw [HGD.out]
                  by_cases e2 : j = xn
                  · subst e2
                    rw [if_pos ⟨rfl, rfl⟩, if_pos ⟨by omega, rfl⟩, HU0.out]
                  · rw [if_neg (by omega), if_neg (by omega), if_neg (by omega)]
                · rw [if_neg (by omega)]
                  by_cases e3 : i < q ∧ l.getD i (-1) = (j : Int)
                  · rw [if_pos e3, if_pos ⟨by omega, e3.2⟩]
                  · rw [if_neg e3, if_neg (fun h => e3 ⟨by omega, h.2⟩)]
            · obtain rfl : q = l.length := by omega
              go_wp2_with fail
              refine ⟨⟨k + 1, by omega, by go_num, ?_, HB4.out, hul2⟩, by simp [intOf]; omega⟩
              intro i j hi hj
              have := HTU4.out i j hi hj
              rw [HUS.out i j]
              by_cases hil : i < l.length
              · simpa [hil] using this
              · have e : l.getD i (-1) = -1 := by simp [List.getD_eq_getElem?_getD, hil]
                rw [e]
                simp only [hil, false_and, if_false, Int.add_zero] at this
                rw [if_neg (by omega), Int.add_zero]
                exact this
        · obtain rfl : k = rs.length := by omega
          rw [List.take_length] at HTU3
          have hmm := @run_makeMap Tryd.prog
          clear htu hb
          go_upto_region 17 with fail
          obtain ⟨W5, hW5⟩ : ∃ W5, ((w3.alloc (.map #[] 0)).alloc (.cells #[.map (some w3.heap.size)] 105)).alloc (.cells #[.nilFunc] 106) = W5 := ⟨_, rfl⟩
          rw [hW5]
          have hb5 : Below w3.heap.size w3 W5 := by rw [← hW5]; exact (((Below.refl _ _).alloc (Nat.le_refl _) _).alloc (by simp) _).alloc (by simp; omega) _
          have y0 : W5.cell? ⟨w3.heap.size + 1, 0, none⟩ = some (.map (some w3.heap.size)) := by
            rw [← hW5]; have := cell_new (w3.alloc (.map #[] 0)) #[.map (some w3.heap.size)] 105 0 _ rfl
            rw [World.size_alloc] at this; exact cell_old this
          have y1 : W5.cell? ⟨w3.heap.size + 2, 0, none⟩ = some .nilFunc := by
            rw [← hW5]; have := cell_new ((w3.alloc (.map #[] 0)).alloc (.cells #[.map (some w3.heap.size)] 105)) #[.nilFunc] 106 0 _ rfl
            rw [World.size_alloc, World.size_alloc] at this; exact this
          have yf : W5.frozen? ⟨w3.heap.size + 2, 0, none⟩ = false := by
            rw [← hW5]; have := World.frozen?_alloc_new ((w3.alloc (.map #[] 0)).alloc (.cells #[.map (some w3.heap.size)] 105)) #[.nilFunc] 106 0
            rw [World.size_alloc, World.size_alloc] at this; exact this
          have hm5 : MemoN (usedN rs) m W5 w3.heap.size := by
            rw [← hW5]; exact ((MemoN.made (usedN rs) m w3).below ((Below.refl _ _).alloc (Nat.le_refl _) _)).below ((Below.refl _ _).alloc (Nat.le_refl _) _)
          have hz5 : W5.heap.size = w3.heap.size + 3 := by rw [← hW5]; simp
          have HB5 := hid (HB3.out.trans (hb5.mono HB3.out.size))
          have htu5 : ∀ i j, i < 8 → j < 8 → W5.cell? ⟨ub, i * 8 + j, none⟩ = some (.int .i64 (usedN rs i j)) := fun i j hi hj => bcs hb5 (HTU3.out i j hi hj).1
          have HTU5 := hid htu5
          have HM5 := hid hm5
          have hw3 : w.heap.size ≤ w3.heap.size := HB3.out.size
          clear hW5 hb5 hm5 htu5
          go_upto_region 18 with fail
          obtain ⟨W6, hW6⟩ : ∃ W6, W5.setCell ⟨w3.heap.size + 2, 0, none⟩ (.func (.func 55) #[] #[.pointer (some ⟨w3.heap.size + 1, 0, none⟩), .pointer (some ⟨w3.heap.size + 2, 0, none⟩), .pointer (some ⟨ub, 0, none⟩)]) = W6 := ⟨_, rfl⟩
          rw [hW6]
          have hnx : NextW (usedN rs) W6 (w3.heap.size + 1) (w3.heap.size + 2) ub w3.heap.size := by
            rw [← hW6]
            refine ⟨(World.cell?_setCell_other _ _ _ _ (by simp)).trans y0, World.cell?_setCell_same _ _ _ y1, fun i j hi hj => (World.cell?_setCell_other _ _ _ _ (by intro e; injection e; omega)).trans (HTU5.out i j hi hj), ?_⟩
            intro j hj
            exact (World.cell?_setCell_other _ _ _ _ (by intro e; injection e; have := HT.out.lt; omega)).trans (HT.out.below' HB5.out j hj)
          have hm6 : MemoN (usedN rs) m W6 w3.heap.size := by
            rw [← hW6]
            obtain ⟨M, m1, m2⟩ := HM5.out
            exact ⟨M, m1.grown (setCell_grown _ _ _ _) (by intro e; have := Option.some.inj e; omega), m2⟩
          have hb6 : Below w.heap.size w W6 := by rw [← hW6]; exact HB5.out.setCell (p := ⟨w3.heap.size + 2, 0, none⟩) (by simp only; omega) _
          have hz6 : w3.heap.size + 3 ≤ W6.heap.size := by rw [← hW6]; simp; omega
          have HNX := hid hnx
          have HM6 := hid hm6
          have HB6 := hid hb6
          have hT1 := HT.out.lt
          clear hW6 y0 y1 yf hz5 hnx hm6 hb6
          have hwp : IntKind.u64.wrap ((2 : Int) ^ m) = ((2 ^ m : Nat) : Int) := wrap_pow (by omega)
          have hq1 : 1 ≤ 2 ^ m := Nat.one_le_two_pow
          have hq2 : 2 ^ m ≤ 2 ^ 8 := Nat.pow_le_pow_right (by decide) hm18.2
          have hel := elems_full m (by omega)
          obtain ⟨q, hqe⟩ : ∃ q, q = 2 ^ m - 1 := ⟨_, rfl⟩
          rw [← hqe] at hel
          have hqI : ((2 ^ m : Nat) : Int) - 1 = (q : Int) := by omega
          have hwq : IntKind.u64.wrap (((2 ^ m : Nat) : Int) - 1) = (q : Int) := by rw [hqI, IntKind.wrap_u64]; omega
          have hql : q < 256 := by omega
          have HEL := hid hel
          clear hel hqe hqI
          generalize hqq : 2 ^ m = qq at *
          clear hqq
          obtain ⟨bm, hbm⟩ : ∃ bm, bm = w3.heap.size := ⟨_, rfl⟩
          rw [← hbm] at HNX HM6 hz6 hw3 hul ⊢
          have hbmw : w.heap.size ≤ bm := by omega
          have hubm : ub < bm := by omega
          clear hbm
          generalize hUU : usedN rs = U at *
          obtain ⟨i0, hi, hz0, hz1, hz2⟩ := info_parts info3
          have HROW := hid (show ∃ row, row = rowN U m (List.range m) 0 from ⟨_, rfl⟩)
          obtain ⟨row, hrow⟩ := HROW.out
          have HRW := hid hrow
          clear hrow HROW hUU
          go_wp2_with fail
          go_loopw [57, 13, 14] (fun i t r wr => ∃ (k x : Nat) (pre : List Nat), k ≤ m ∧ i = .int .i64 k ∧ t = .int .u64 x ∧ x < 256 ∧ (elems x).length = m - k ∧ row = pre ++ rowN U (m - k) (elems x) k ∧ pre.length = k ∧ wr.ownsRow W6.heap.size 3 1 r k (natsV pre) ∧ MemoN U m wr bm ∧ NextW U wr (bm + 1) (bm + 2) ub bm ∧ Below w.heap.size w wr ∧ W6.heap.size ≤ wr.heap.size) (fun i _ _ _ => m - (intOf i).toNat)
          case atStart => exact ⟨0, q, [], Nat.zero_le _, rfl, rfl, hql, by rw [HEL.out]; simp, by rw [HEL.out, HRW.out]; rfl, rfl, World.ownsRow_nil _ _ _ _, HM6.out, HNX.out, HB6.out, Nat.le_refl _⟩
          case round =>
            obtain ⟨k, x, pre, hk, rfl, rfl, hx, hxl, hpp, hpl, hown, hmem, hnx, hb, hszr⟩ := hrel
            obtain ⟨w7, rfl⟩ : ∃ w7 : World, w7 = wr := ⟨_, rfl⟩
            have HXL := hid hxl
            have HPP := hid hpp
            have HPL := hid hpl
            have HOWN := hid hown
            have HM7 := hid hmem
            have HN7 := hid hnx
            have HB7 := hid hb
            clear hxl hpp hpl hown hmem hnx hb
            by_cases hkm : k < m
            · obtain ⟨k2, hk2⟩ : ∃ k2, m - k = k2 + 1 := ⟨m - k - 1, by omega⟩
              have hk2' : m - (k + 1) = k2 := by omega
              have hleast := leastN_any U hU m hm18.2 (bm + 1) (bm + 2) ub bm (m - k) x w7 (by omega) hx HXL.out HN7.out HM7.out
              rw [show m - (m - k) = k by omega, hk2] at hleast
              have HLE := hid hleast
              have hself := HN7.out.self
              have hwb := mN_bd hU (k2 + 1) (elems x) k (by rw [HXL.out, hk2])
              have hpick := fun (pre2 : List Nat) (b : Nat) (post : List Nat) (h1 : elems x = pre2 ++ b :: post) (h2 : ∀ y ∈ pre2, mN U k2 ((elems x).erase y) (k + 1) + U k y ≠ mN U (k2 + 1) (elems x) k) (h3 : mN U k2 ((elems x).erase b) (k + 1) + U k b = mN U (k2 + 1) (elems x) k) =>
                (show pickN U k2 (elems x) k = b by
                  unfold pickN
                  have e1 : (elems x).find? (fun x_1 => mN U k2 ((elems x).erase x_1) (k + 1) + U k x_1 == mN U (k2 + 1) (elems x) k) = some b := by
                    rw [List.find?_eq_some_iff_append]
                    exact ⟨by simpa using h3, pre2, post, h1, fun y hy => by simpa using h2 y hy⟩
                  rw [e1]; rfl)
              have hex := pickN_spec hU k2 (elems x) k (by rw [HXL.out, hk2])
              have hrow2 : rowN U (m - k) (elems x) k = pickN U k2 (elems x) k :: rowN U k2 ((elems x).erase (pickN U k2 (elems x) k)) (k + 1) := by rw [hk2]; rfl
              have HPICK := hid (And.intro hpick (And.intro hex hrow2))
              have HK2 := hid (And.intro hk2 hk2')
              have hk8 : k < 8 := by omega
              have hk2m : k2 + 1 ≤ 8 := by omega
              clear hleast hpick hex hrow2 hk2 hk2'
              generalize hwv : mN U (k2 + 1) (elems x) k = wv at *
              clear hwv
              go_wp2_with fail
              refine HLE.out.mono ?_
              rintro e w8 ⟨rfl, hm8, hg8⟩
              have HM8 := hid hm8
              have HG8 := hid hg8
              clear hm8 hg8
              go_wp2_with fail
              go_loopw [17, 13, 14] (fun t t13 t14 wr => ∃ (xs : Nat) (pre2 : List Nat), t = .int .u64 xs ∧ t13 = .int .u64 x ∧ t14 = u14 ∧ xs ≤ x ∧ elems x = pre2 ++ elems xs ∧ (∀ y ∈ pre2, mN U k2 ((elems x).erase y) (k + 1) + U k y ≠ wv) ∧ MemoN U m wr bm ∧ w7.grownBy wr (some bm)) (fun t _ _ _ => (intOf t).toNat)
              case atStart => exact ⟨x, [], rfl, rfl, rfl, Nat.le_refl _, rfl, by simp, HM8.out, HG8.out⟩
              case round =>
                obtain ⟨xs, pre2, rfl, rfl, rfl, hxs, hpre, hno, hmem, hg⟩ := hrel
                obtain ⟨w9, rfl⟩ : ∃ w9 : World, w9 = wr := ⟨_, rfl⟩
                have hnx := HN7.out.kept hg HM7.out.row
                have HPRE := hid hpre
                have HNO := hid hno
                have HMM := hid hmem
                have HNX9 := hid hnx
                have HG9 := hid hg
                by_cases hx0 : xs = 0
                · exfalso
                  subst hx0
                  obtain ⟨p1, p2, h1, h2, h3⟩ := HPICK.out.2.1
                  have hpf : pre2 = elems x := by have := HPRE.out; rw [elems_zero, List.append_nil] at this; exact this.symm
                  exact hno (pickN U k2 (elems x) k) (by
                    have hin : pickN U k2 (elems x) k ∈ p1 ++ pickN U k2 (elems x) k :: p2 := by simp
                    rw [← h1] at hin; rw [hpf]; exact hin) h3
                · have hne : ((xs : Int) != 0) = true := by simp; omega
                  have hx64 : xs < 18446744073709551616 := by omega
                  have hb64 := low_lt xs hx0 hx64
                  have hel2 := elems_low hx0 hx64
                  have hclr := low_clr_lt xs hx0 hx64
                  have hbm : low xs ∈ elems x := by rw [HPRE.out, hel2]; simp
                  have hb8 := elems_lt (n := 8) (s := x) (by omega) (by omega) hbm
                  have hf2 := fun w1 (hT : TabW w1) => first_p xs hx0 hx64 w1 hT
                  have hw2 := fun w1 => without_p xs (low xs) w1 hx64 hb64
                  have hw3 := fun w1 => without_p x (low xs) w1 (by omega) hb64
                  have he3 := elems_erase (s := x) (i := low xs) hb64 (by omega)
                  have hz := clr_le x (low xs)
                  have hzl : ((elems x).erase (low xs)).length = k2 := by rw [List.length_erase_of_mem hbm, HXL.out, HK2.out.1]; omega
                  rw [← he3] at hzl
                  generalize hb : low xs = b at *
                  generalize hys : clr xs b = ys at *
                  generalize hzs : clr x b = zs at *
                  have HE := hid (And.intro hel2 he3)
                  have HF2 := hid hf2
                  have HW2 := hid hw2
                  have HW3 := hid hw3
                  have HZL := hid hzl
                  have hbest := leastN_any U hU m hm18.2 (bm + 1) (bm + 2) ub bm k2 zs w9.drew (by have := HK2.out.1; omega) (by omega) hzl (hnx.below (Below.refl _ _).drew) (hmem.below (Below.refl _ _).drew)
                  rw [show m - k2 = k + 1 by have := HK2.out.1; omega] at hbest
                  have hmb := mN_bd hU k2 (elems zs) (k + 1) hzl
                  have HBEST := hid hbest
                  have c1 := hnx.used k b hk8 hb8
                  have k1 := hnx.self
                  have huu := hU k b
                  have HV := hid (show mN U k2 ((elems x).erase b) (k + 1) + U k b = mN U k2 (elems zs) (k + 1) + U k b by rw [he3])
                  have HKEEP := hid (fun w' (hg' : w9.drew.grownBy w' (some bm)) =>
                    have hr : ∀ r, some bm = some r → ∃ o : Obj, w9.drew.heap[r]? = some o ∧ o.isCells = false := hmem.row
                    And.intro (cell_kept (W := w9.drew) k1 hg' hr) (cell_kept (W := w9.drew) c1 hg' hr))
                  clear hbest hb hys hzs hel2 he3 hf2 hw2 hw3 hnx hmem hg hbm hpre hno hzl
                  generalize mN U k2 (elems zs) (k + 1) = mz at *
                  generalize hub1 : U k b = ub1 at *
                  have HUB := hid hub1
                  clear hub1
                  go_wp2_with fail
                  refine (HF2.out w9 HNX9.out.tab).mono ?_
                  rintro e w' ⟨rfl, rfl⟩
                  go_upto_region 28 with fail
                  have hi0 : (0 : Int) ≤ (k : Int) := by omega
                  have hi1 : (k : Int) < 8 := by omega
                  have hi2 : (0 : Int) ≤ (b : Int) := by omega
                  have hi3 : (b : Int) < 8 := by omega
                  have hwk : IntKind.i64.wrap ((k : Int) + 1) = ((k + 1 : Nat) : Int) := by rw [IntWalk.i64_in _ (by omega)]; omega
                  have hwz : IntKind.i64.wrap (mz + ub1) = mz + ub1 := IntWalk.i64_in _ (by omega)
                  obtain ⟨eq, heq⟩ : ∃ eq, (mz + ub1 == wv) = eq := ⟨_, rfl⟩
                  go_cut [87] (fun t wx => t = .bool eq ∧ MemoN U m wx bm ∧ w9.grownBy wx (some bm))
                  case first =>
                    go_region_held3 (fun w' => w'.cell? ⟨bm + 2, 0, none⟩ = some (.func (.func 55) #[] #[.pointer (some ⟨bm + 1, 0, none⟩), .pointer (some ⟨bm + 2, 0, none⟩), .pointer (some ⟨ub, 0, none⟩)]) ∧ w'.cell? ⟨ub, k * 8 + b, none⟩ = some (.int .i64 ub1))
                      (first | (exact HK3) | assumption | (exact ⟨k1, c1⟩))
                      (first
                        | (go_at_call 56; with_reducible refine (HW3.out _).mono ?_; rintro e w' ⟨rfl, rfl⟩)
                        | (go_at_call 55; refine HBEST.out.mono ?_; rintro e w3 ⟨rfl, hm3, hg3⟩; have HK3 := HKEEP.out w3 hg3))
                    all_goals
                      go_wp2_with fail
                      go_meet
                      exact ⟨rfl, hm3, ⟨hg3.os, hg3.tape, hg3.output, hg3.size, hg3.block⟩⟩
                  case rest =>
                    obtain ⟨rfl, hm3, hg3⟩ := hcut
                    obtain ⟨w10, rfl⟩ : ∃ w10 : World, w10 = wc := ⟨_, rfl⟩
                    have HR10 := hid (And.intro hm3 (HG9.out.trans hg3))
                    have hn10 := HNX9.out.kept hg3 HMM.out.row
                    have HN10 := hid hn10
                    have HNEW := hid (show elems x = (pre2 ++ [b]) ++ elems ys by rw [HPRE.out, HE.out.1]; simp)
                    have hyx : ys < xs := hclr
                    have HEQ := hid heq
                    clear hm3 hg3 hwk hwz k1 c1 hn10 heq
                    cases eq with
                    | true =>
                      have hown10 : w10.ownsRow W6.heap.size 3 1 u14 k (natsV pre) := own_kept HOWN.out HR10.out.2 HM7.out.row
                      go_wp2_with (at_builtin; refine wpList_append_lies _ rfl _ _ 22 rfl W6.heap.size 3 i0 (.int .i64 0) 1 8 Tryd.underlying22 hi hz0 hz1 hz2 rfl (by omega) u14 k _ rfl (hown10.alloc _) ⟨w10.heap.size, 0, none⟩ 1 1 [.int .i64 (b : Int)] rfl rfl (cell_one_new _ _ _) (ones _ rfl) (by omega) (by unfold maxLen; omega) (by omega) (by have := HR10.out.2.size; simp; omega) (w10.heap.size + 1) (by simp) ?_; intro g3 cap3 w11 hown11 hgrow11 hat11 hlt11)
                      have hb11 : Below w.heap.size w w11 := by
                        have h0 := HB7.out.grown HR10.out.2 HB7.out.size (fun j hj => by have := Option.some.inj hj; omega)
                        exact (h0.alloc h0.size _).grown hgrow11 (by have := h0.size; simp; omega) (fun j hj => by have h1 := (hown10.lt j hj).1; have h2 := HB6.out.size; omega)
                      have hl11 : Below W6.heap.size w10 w11 := ((Below.refl _ _).alloc (by have := HR10.out.2.size; omega) _).grown hgrow11 (by have := HR10.out.2.size; simp; omega) (fun j hj => (hown10.lt j hj).1)
                      have hm11 := HR10.out.1.low hl11 (by omega)
                      have hn11 := HN10.out.low hl11 (by omega) (by omega) (by omega) (by omega)
                      have H11 := hid (And.intro hb11 (And.intro hm11 (And.intro hn11 (And.intro hown11 (show W6.heap.size ≤ w11.heap.size by have := hl11.size; have := HR10.out.2.size; omega)))))
                      clear hb11 hl11 hm11 hn11 hown11 hgrow11 hat11 hlt11 hown10
                      refine (HW3.out _).mono ?_
                      rintro e w' ⟨rfl, rfl⟩
                      have hpk : pickN U k2 (elems x) k = b := HPICK.out.1 pre2 b (elems ys) (by rw [HNEW.out]; simp) HNO.out (by rw [HUB.out, HV.out]; have := HEQ.out; simpa using this)
                      have HPK := hid hpk
                      clear hpk
                      go_wp2_with fail
                      refine ⟨⟨k + 1, zs, pre ++ [b], by omega, by go_num, rfl, by omega, by rw [HZL.out, HK2.out.2], ?_, by rw [List.length_append, HPL.out]; rfl, ?_, H11.out.2.1, H11.out.2.2.1, H11.out.1, H11.out.2.2.2.2⟩, by simp [intOf]; omega⟩
                      · rw [HPP.out, HPICK.out.2.2, HPK.out, HK2.out.2, HE.out.2]; simp
                      · rw [natsV_snoc]; exact H11.out.2.2.2.1
                    | false =>
                      go_wp2_with fail
                      refine (HF2.out w10 HN10.out.tab).mono ?_
                      rintro e w' ⟨rfl, rfl⟩
                      go_wp2_with fail
                      refine (HW2.out w10).mono ?_
                      rintro e w' ⟨rfl, rfl⟩
                      go_wp2_with fail
                      refine ⟨⟨ys, pre2 ++ [b], rfl, rfl, rfl, by omega, HNEW.out, ?_, HR10.out.1, HR10.out.2⟩, by simp [intOf]; omega⟩
                      intro y hy
                      rcases List.mem_append.1 hy with hy | hy
                      · exact HNO.out y hy
                      · have : y = b := by simpa using hy
                        rw [this]
                        intro hh
                        have h5 := HEQ.out
                        rw [HUB.out, HV.out] at hh
                        simp only [beq_eq_false_iff_ne, ne_eq] at h5
                        exact h5 hh
            · obtain rfl : k = m := by omega
              go_wp2_with fail
              go_ret2
              have hfin : row = pre := by have := HPP.out; rw [Nat.sub_self] at this; simpa [rowN] using this
              refine ⟨⟨_, by rw [HRR.out]; rfl, ?_, fun q hq => by have h1 := (HOWN.out.lt q hq).1; have h2 := HB6.out.size; omega⟩, HB7.out⟩
              rw [HRR.out]
              show SlI w7 _ (List.map (fun (x : Nat) => (x : Int)) (rowN U k (List.range k) 0))
              rw [← HRW.out, hfin]
              have h1 := HOWN.out
              have h2 := HPL.out
              rw [show natsV pre = (pre.map (fun (x : Nat) => (x : Int))).map (.int .i64) by simp [natsV]] at h1
              exact own_SlI h1 (by simp; omega)
theorem next_any (n : Int) (v : Value) (rs : List (List Int)) (w : World) (hs : SlR w v rs) (hT : TabW w) : Calls Tryd.prog 25 #[.int .i64 n, v] w (NextPost n rs w) := by
  refine (next_any2 n v rs w hs hT).mono ?_
  rintro e w' ⟨⟨r, h1, h2, -⟩, hb⟩
  exact ⟨⟨r, h1, h2⟩, hb⟩
end Go.Proofs.YtjjphiecjhijiaaDoor
