/- sheet.Count. -/
import Derived.Test.YtolnhicngepnnaaS10
namespace Go.Proofs.Ytolnhicngepnnaa
open Go.RowKit

theorem results_c3 {fn : Func} {p u t : Tmp} {ty : TypeId} (h : fn.results = #[.cell p ty, .tmp u, .tmp t]) (tmps : Array Value) (P : Program) (w : World) (ad : Addr) (x : Value) (hp : tmps.getD p undef = .pointer (some ad)) (hl : (loadVar ty ad).run P w = .ok x w) :
    (results fn tmps).run P w = .ok (.tuple #[x, tmps.getD u undef, tmps.getD t undef]) w := by
  have e : (asAddr (tmps[p]?.getD undef)).run P w = .ok ad w := by
    rw [show tmps[p]?.getD undef = tmps.getD p undef by simp, hp]; simp [go_sem]
  simp only [results, h]
  simp [Sem.run_bind, Result.andThen, e, hl]
theorem load3 (w : World) (ad : Addr) (x : Value) (h : w.cell? ad = some x) : (loadVar 3 ad).run Try.prog w = .ok x w := by
  simp [go_sem, h]
theorem namesOk_all : ∀ (l : List StoneD) (seen : List (Int × Int)), namesOk l seen = true → ∀ x ∈ l, stoneOk x = true
  | [], _, _, x, hx => by simp at hx
  | s :: r, seen, h, x, hx => by
    simp only [namesOk, Bool.and_eq_true] at h
    rcases List.mem_cons.1 hx with rfl | hx
    · exact h.1.1
    · exact namesOk_all r _ h.2 x hx
theorem checkR_ok {l : List StoneD} (h : checkR l = true) : l.length ≤ 16 ∧ ∀ k, k < l.length → (stAt l k).ok = true := by
  simp only [checkR, Bool.and_eq_true, decide_eq_true_eq] at h
  refine ⟨h.1.1, fun k hk => ?_⟩
  have := namesOk_all l [] h.1.2 (stAt l k) (by rw [stAt, List.getD_eq_getElem?_getD, List.getElem?_eq_getElem hk]; exact List.getElem_mem _)
  simp only [stoneOk, Bool.and_eq_true] at this
  exact this.1.2
theorem idxOf_lt {α : Type} {p : α → Bool} {a : List α} {f : Int} (h : ¬ idxOf p a < 0) (e : idxOf p a = f) : ∃ n : Nat, f = n ∧ n < a.length := by
  unfold idxOf at h e
  rcases hq : a.findIdx? p with - | n
  · rw [hq] at h; simp at h
  · rw [hq] at e
    exact ⟨n, e.symm, (List.findIdx?_eq_some_iff_getElem.1 hq).1⟩
def CountPost (l : List StoneD) (w : World) (e : Ending) (w' : World) : Prop := e = .returned (.tuple #[.int .i64 (countR l).1, .int .i64 (countR l).2.1, .int .i64 (countR l).2.2]) ∧ Below w.heap.size w w'
set_option maxRecDepth 100000 in
set_option maxHeartbeats 4000000 in
theorem count_any (a : Option Addr) (cap : Nat) (l : List StoneD) (w : World) (hs : SlS w (.slice a l.length cap) l) (haw : ∀ ad, a = some ad → ad.block < w.heap.size) (hcap : l.length ≤ cap) :
    Calls Try.prog 11 #[.slice a l.length cap] w (CountPost l w) := by
  obtain ⟨W2, hW2⟩ : ∃ W2, (w.alloc (.cells #[.slice a l.length cap] 22)).alloc (.cells #[.int .i64 0] 3) = W2 := ⟨_, rfl⟩
  have hz2 : W2.heap.size = w.heap.size + 2 := by rw [← hW2]; simp
  have hL2 : W2.heap[w.heap.size]? = some (.cells #[.slice a l.length cap] 22 (0, 0)) := by
    rw [← hW2, Below.heap_alloc _ _ _ (by simp)]; exact heap_alloc_new w _
  have hT2 : W2.heap[w.heap.size + 1]? = some (.cells #[.int .i64 0] 3 (0, 0)) := by
    rw [← hW2]
    have := heap_alloc_new (w.alloc (.cells #[.slice a l.length cap] 22)) (.cells #[.int .i64 0] 3)
    simpa using this
  have hb2 : Below w.heap.size w W2 := by
    rw [← hW2]; exact ((Below.refl _ w).alloc (Nat.le_refl _) _).alloc (by simp) _
  have hs2 := hs.below hb2
  have H1 := hid (check_any (.slice a l.length cap) l W2 hs2 (fun a' c' e => by obtain ⟨-, -, rfl⟩ := Value.slice.inj e; exact hcap))
  have HW2 := hid hW2
  clear hW2
  go_enter Try.func11, Try.ntmps11
  go_wp2_with fail
  rw [HW2.out]
  refine H1.out.mono ?_
  rintro e W3 ⟨rfl, hb3⟩
  have hL3 := (hb3.block w.heap.size (by omega)).trans hL2
  have hT3 := (hb3.block (w.heap.size + 1) (by omega)).trans hT2
  have hB3 := hb2.trans (hb3.mono (by omega))
  have hz3 := hb3.size
  have hs3 := hs.below hB3
  have HS := hid hs
  have HCR := hid (show countR l = if checkR l = false then (0, 0, (2 : Int)) else
    match nearR l with
    | [] => (-1, 0, 0)
    | k0 :: ks =>
      let f := idxOf (fun k => decide ((stAt l k).team ≠ (stAt l k0).team)) (k0 :: ks)
      if f < 0 then ((stAt l k0).team, ((k0 :: ks).length : Int), 0) else
      let j := leadS l (k0 :: ks) (sqS l ((k0 :: ks).getD f.toNat 0)) f.toNat
      if j = 0 then (-1, 0, 0) else ((stAt l k0).team, (j : Int), 0) from rfl)
  clear hb2 hb3 hs2 hL2 hT2 H1 HW2 hs
  have l3 : W3.cell? ⟨w.heap.size, 0, none⟩ = some (.slice a l.length cap) := by simp [World.cell?, hL3]
  have t3 : W3.cell? ⟨w.heap.size + 1, 0, none⟩ = some (.int .i64 0) := by simp [World.cell?, hT3]
  have f3 : W3.frozen? ⟨w.heap.size + 1, 0, none⟩ = false := by simp [World.frozen?, hT3]
  have HB3 := hid hB3
  clear hB3
  by_cases hck : checkR l = false
  · rw [if_pos hck] at HCR
    rw [hck]
    clear hL3 hT3 hs3
    go_wp2_with fail
    have c4 : (W3.setCell ⟨w.heap.size + 1, 0, none⟩ (.int .i64 0)).cell? ⟨w.heap.size + 1, 0, none⟩ = some (.int .i64 0) := World.cell?_setCell_same _ _ _ t3
    refine bodyPost_ret (results_c3 rfl _ _ _ ⟨w.heap.size + 1, 0, none⟩ (.int .i64 0) rfl (load3 _ _ _ c4)) rfl ⟨?_, HB3.out.setCell (by simp) _⟩
    rw [HCR.out]
    rfl
  · have hck2 : checkR l = true := by simpa using hck
    rw [if_neg hck] at HCR
    rw [hck2]
    have hok := checkR_ok hck2
    have H2 := hid (nearest_any a cap l (by omega) hok.2 W3 hs3 (fun ad e => by have := haw ad e; omega))
    have HS3 := hid hs3
    have HT3 := hid hT3
    have HL3 := hid hL3
    clear hs3 hT3 hL3 hck
    go_wp2_with fail
    refine H2.out.mono ?_
    rintro e W4 ⟨v, rfl, hown4, hb4⟩
    obtain ⟨av, cv, rfl, -⟩ := own_cap hown4
    have l4 := bcs hb4 l3
    have t4 := bcs hb4 t3
    have f4 : W4.frozen? ⟨w.heap.size + 1, 0, none⟩ = false := by
      rw [hb4.frozen (p := ⟨w.heap.size + 1, 0, none⟩) (show w.heap.size + 1 < W3.heap.size by omega)]; exact f3
    have HS4 := hid (HS3.out.below hb4)
    have HB4 := hid (HB3.out.trans (hb4.mono HB3.out.size))
    have hz4 := hb4.size
    clear l3 t3 f3 H2 HT3 HL3 HS3 hb4
    rcases hnr : nearR l with - | ⟨k0, ks⟩
    · rw [hnr] at HCR hown4
      clear hown4 hnr
      go_wp2_with fail
      have c5 : (W4.setCell ⟨w.heap.size + 1, 0, none⟩ (.int .i64 (-1))).cell? ⟨w.heap.size + 1, 0, none⟩ = some (.int .i64 (-1)) := World.cell?_setCell_same _ _ _ t4
      refine bodyPost_ret (results_c3 rfl _ _ _ ⟨w.heap.size + 1, 0, none⟩ (.int .i64 (-1)) rfl (load3 _ _ _ c5)) rfl ⟨?_, HB4.out.setCell (by simp) _⟩
      rw [HCR.out]
      rfl
    · have hmem : ∀ k ∈ nearR l, k < l.length ∧ inH l k = true := fun k hk => houseTo_mem (((nearR_perm l).mem_iff).1 hk)
      have hnl : (nearR l).length ≤ l.length := by
        rw [(nearR_perm l).length_eq]
        unfold houseTo
        exact Nat.le_trans (List.length_filter_le _ _) (by simp)
      rw [hnr] at HCR hown4 hmem hnl
      obtain ⟨na, hna⟩ : ∃ na, k0 :: ks = na := ⟨_, rfl⟩
      have hn0 : 0 < na.length := by rw [← hna]; simp
      have hk0 : na.getD 0 0 = k0 := by rw [← hna]; rfl
      have HCR2 := hid (show countR l = (let f := idxOf (fun k => decide ((stAt l k).team ≠ (stAt l k0).team)) na
        if f < 0 then ((stAt l k0).team, (na.length : Int), 0) else
        let j := leadS l na (sqS l (na.getD f.toNat 0)) f.toNat
        if j = 0 then (-1, 0, 0) else ((stAt l k0).team, (j : Int), 0)) by rw [HCR.out, ← hna])
      rw [hna] at hown4 hmem hnl ⊢
      clear HCR hna hnr
      have hm0 := hmem k0 (by rw [← hk0, List.getD_eq_getElem?_getD, List.getElem?_eq_getElem hn0]; exact List.getElem_mem _)
      obtain ⟨g, cap4, e, -, -⟩ := hown4.form hn0
      obtain ⟨rfl, -, rfl⟩ := Value.slice.inj e
      clear e
      have x0 : W4.cell? ⟨g, 0, none⟩ = some (.int .i64 (k0 : Nat)) := by
        rw [hown4.cellAt 0 (by omega), ← hk0]
        simp [natsV, List.getD_eq_getElem?_getD, hn0]
      obtain ⟨a', cap', e, -, hcs⟩ := HS4.out.open
      obtain ⟨rfl, -, rfl⟩ := Value.slice.inj e
      clear e
      obtain ⟨b, off, rfl, hbl, hx⟩ := hcs k0 hm0.1
      have y0 := (hx k0 hm0.1).1
      have ek : l[k0] = stAt l k0 := by simp [stAt, List.getD_eq_getElem?_getD, hm0.1]
      rw [ek] at y0
      clear hcs hx ek
      have k1 : (0 : Int) ≤ (k0 : Int) := by omega
      have k2 : (k0 : Int) < (l.length : Int) := by omega
      have n1 : (0 : Int) < (na.length : Int) := by omega
      have n2 : ¬ (na.length : Int) = 0 := by omega
      obtain ⟨tm, htm⟩ : ∃ tm, (stAt l k0).team = tm := ⟨_, rfl⟩
      rw [htm] at y0 HCR2
      have HROW := hid hown4
      have HMEM := hid hmem
      clear hown4 hmem htm
      go_upto_region 6 with fail
      go_cut [5] (fun x wx => x = .slice (some ⟨g, 0, none⟩) na.length cv ∧ wx.cell? ⟨w.heap.size + 1, 0, none⟩ = some (.int .i64 tm) ∧ wx.frozen? ⟨w.heap.size + 1, 0, none⟩ = false ∧ W4.grownBy wx (some (w.heap.size + 1)))
      case first =>
        have q1 : (W4.setCell ⟨w.heap.size + 1, 0, none⟩ (.int .i64 tm)).cell? ⟨w.heap.size + 1, 0, none⟩ = some (.int .i64 tm) := World.cell?_setCell_same _ _ _ t4
        have q2 : W4.grownBy (W4.setCell ⟨w.heap.size + 1, 0, none⟩ (.int .i64 tm)) (some (w.heap.size + 1)) := grown_set (grown_below (Below.refl _ _)) 0 _
        have q3 : (W4.setCell ⟨w.heap.size + 1, 0, none⟩ (.int .i64 tm)).frozen? ⟨w.heap.size + 1, 0, none⟩ = false := by simpa using f4
        have Q := hid (And.intro q1 (And.intro q3 q2))
        clear q1 q2 q3
        go_region
        all_goals
          go_wp2_with fail
          go_meet
          exact ⟨rfl, Q.out.1, Q.out.2.1, grown_drew Q.out.2.2⟩
      case rest =>
        obtain ⟨rfl, t5, f5, hg5⟩ := hcut
        obtain ⟨W5, rfl⟩ : ∃ W5, W5 = wc := ⟨_, rfl⟩
        have hz3g := HROW.out.lt g rfl
        have hb5 : Below w.heap.size w W5 := HB4.out.trans ⟨hg5.os, hg5.tape, hg5.output, hg5.size, fun i hi => hg5.block i (by omega) (fun e => by injection e; omega)⟩
        have l5 : W5.cell? ⟨w.heap.size, 0, none⟩ = some (.slice (some ⟨b, off, none⟩) l.length cap) := (World.cell?_of_block (a := ⟨w.heap.size, 0, none⟩) (hg5.block w.heap.size (by omega) (fun e => by injection e; omega))).trans l4
        have hrow5 : W5.ownsRow (W3.heap.size + 3) 3 1 (.slice (some ⟨g, 0, none⟩) na.length cv) na.length (natsV na) :=
          own_same HROW.out (fun k o hk ho _ => by
            have h1 : g = k := by simpa [Value.ownBlock] using hk
            exact hg5.block k (Array.getElem?_eq_some_iff.1 ho).1 (fun e => by injection e; omega))
        have HB5 := hid hb5
        have HL5 := hid l5
        have HT5 := hid t5
        have HROW5 := hid hrow5
        have H28 := hid (index_nats (fun k => decide ((stAt l k).team ≠ tm)) (.pointer (some ⟨w.heap.size, 0, none⟩)) (.pointer (some ⟨w.heap.size + 1, 0, none⟩)) _ _ na W5 (by omega) hrow5 (fun x hx W6 hb6 =>
          rival_any w.heap.size (w.heap.size + 1) (.slice (some ⟨b, off, none⟩) l.length cap) l tm x (HMEM.out x hx).1 W6 (HS.out.below (HB5.out.trans (hb6.mono HB5.out.size))) (bcs hb6 HL5.out) (bcs hb6 HT5.out)))
        clear hg5 l4 t4 f4 HROW HB4 HS4 hb5 l5 hrow5 x0 y0
        have hmf : ∀ (fn : Fn) (first cap : Array Value) (w : World), (Instr.makeFunc fn first cap).run Try.prog w = .ok (.func fn first cap) w := fun _ _ _ _ => rfl
        go_wp2_with fail
        refine H28.out.mono ?_
        rintro e W6 ⟨rfl, hb6⟩
        clear H28
        have HB6 := hid (HB5.out.trans (hb6.mono HB5.out.size))
        have t6 := bcs hb6 t5
        have l6 := bcs hb6 HL5.out
        have hw5 := HB5.out.size
        have f6 : W6.frozen? ⟨w.heap.size + 1, 0, none⟩ = false := by
          rw [hb6.frozen (p := ⟨w.heap.size + 1, 0, none⟩) (by have := World.block_lt_of_cell? W5 ⟨w.heap.size + 1, 0, none⟩ t5; exact this)]; exact f5
        have HROW6 := hid (own_below HROW5.out hb6)
        clear HL5 HT5 HROW5 hb6 t5 f5 HB5
        obtain ⟨f, hf⟩ : ∃ f, idxOf (fun k => decide ((stAt l k).team ≠ tm)) na = f := ⟨_, rfl⟩
        rw [hf] at HCR2 ⊢
        by_cases hneg : f < 0
        · have HC3 := hid (show countR l = (tm, (na.length : Int), 0) by rw [HCR2.out]; simp [hneg])
          clear hf HCR2
          go_wp2_with fail
          have c7 : (W6.setCell ⟨w.heap.size + 1, 0, none⟩ (.int .i64 tm)).cell? ⟨w.heap.size + 1, 0, none⟩ = some (.int .i64 tm) := World.cell?_setCell_same _ _ _ t6
          refine bodyPost_ret (results_c3 rfl _ _ _ ⟨w.heap.size + 1, 0, none⟩ (.int .i64 tm) rfl (load3 _ _ _ c7)) rfl ⟨?_, HB6.out.setCell (by simp) _⟩
          rw [HC3.out]
          rfl
        · obtain ⟨fn, rfl, hfn⟩ := idxOf_lt (by rw [hf]; omega) hf
          have HNA := hid (show ∀ j, j < na.length → ∀ W, Below W6.heap.size W6 W → W.cell? ⟨g, j, none⟩ = some (.int .i64 (na.getD j 0 : Nat)) from fun j hj W hb => by
            refine bcs hb ?_
            rw [HROW6.out.cellAt j (by omega)]
            simp [natsV, List.getD_eq_getElem?_getD, hj])
          have HXS := hid (show ∀ k, k < l.length → ∀ W, Below w.heap.size w W → W.cell? ⟨b, off + k * 4 + 2, none⟩ = some (.int .i64 (stAt l k).x) ∧ W.cell? ⟨b, off + k * 4 + 3, none⟩ = some (.int .i64 (stAt l k).y) from fun k hk W hb => by
            obtain ⟨a', cap', e, -, hcs⟩ := HS.out.open
            obtain ⟨rfl, -, rfl⟩ := Value.slice.inj e
            obtain ⟨b', off', e, hbl, hx⟩ := hcs k hk
            injection e with e
            obtain ⟨rfl, rfl⟩ : b = b' ∧ off = off' := by simpa using e
            have ek : l[k] = stAt l k := by simp [stAt, List.getD_eq_getElem?_getD, hk]
            have h1 := (hx k hk).2.2
            rw [ek] at h1
            exact ⟨bcs hb h1.1, bcs hb h1.2⟩)
          have HMB := hid (show ∀ j, j < na.length → na.getD j 0 < l.length ∧ (-500000000 ≤ (stAt l (na.getD j 0)).x ∧ (stAt l (na.getD j 0)).x ≤ 500000000) ∧ -500000000 ≤ (stAt l (na.getD j 0)).y ∧ (stAt l (na.getD j 0)).y ≤ 500000000 from fun j hj => by
            have := HMEM.out (na.getD j 0) (by rw [List.getD_eq_getElem?_getD, List.getElem?_eq_getElem hj]; exact List.getElem_mem _)
            exact ⟨this.1, inH_b this.2⟩)
          have HSQ := hid (show ∀ k, sqS l k = (stAt l k).x * (stAt l k).x + (stAt l k).y * (stAt l k).y from fun k => rfl)
          have HC4 := hid (show countR l = if leadS l na (sqS l (na.getD fn 0)) fn = 0 then (-1, 0, 0) else (tm, (leadS l na (sqS l (na.getD fn 0)) fn : Int), 0) by rw [HCR2.out, if_neg hneg]; simp only [Int.toNat_natCast])
          have HL6 := hid (fun W (hb : Below W6.heap.size W6 W) => bcs hb l6)
          have hw6 := HB6.out.size
          clear hf HCR2 hneg HROW6 HMEM HS l6
          have hfneg : ¬ (fn : Int) < 0 := by omega
          go_upto_region 10 with fail
          have hSQX : ∀ j, j < na.length → Hid (∀ W, Below W6.heap.size W6 W → W.cell? ⟨w.heap.size, 0, none⟩ = some (.slice (some ⟨b, off, none⟩) l.length cap) ∧ W.cell? ⟨g, j, none⟩ = some (.int .i64 (na.getD j 0 : Nat)) ∧ W.cell? ⟨b, off + na.getD j 0 * 4 + 2, none⟩ = some (.int .i64 (stAt l (na.getD j 0)).x) ∧ W.cell? ⟨b, off + na.getD j 0 * 4 + 3, none⟩ = some (.int .i64 (stAt l (na.getD j 0)).y)) :=
            fun j hj => hid (fun W hb => ⟨HL6.out W hb, HNA.out j hj W hb, HXS.out _ (HMB.out j hj).1 W (HB6.out.trans (hb.mono HB6.out.size))⟩)
          have HSQX := hid hSQX
          clear hSQX HL6 HNA HXS
          have hfneg : ¬ (fn : Int) < 0 := by omega
          have HST := HSQX.out fn hfn
          obtain ⟨m1, ⟨m2, m3⟩, m4, m5⟩ := HMB.out fn hfn
          have HSF := hid (HSQ.out (na.getD fn 0))
          generalize na.getD fn 0 = kf at *
          generalize (stAt l kf).x = xf at *
          generalize (stAt l kf).y = yf at *
          have kf0 : (0 : Int) ≤ (kf : Int) := by omega
          have kf1 : (kf : Int) < (l.length : Int) := by omega
          have fn0 : (0 : Int) ≤ (fn : Int) := by omega
          have fn1 : (fn : Int) < (na.length : Int) := by omega
          go_cut [5, 6, 7] (fun x y z wx => x = .slice (some ⟨g, 0, none⟩) na.length cv ∧ y = .int .i64 (fn : Int) ∧ z = .int .i64 (sqS l kf) ∧ Below W6.heap.size W6 wx)
          case first =>
            go_region_held3 (fun W => W.cell? ⟨w.heap.size, 0, none⟩ = some (.slice (some ⟨b, off, none⟩) l.length cap) ∧ W.cell? ⟨g, fn, none⟩ = some (.int .i64 (kf : Int)) ∧ W.cell? ⟨b, off + kf * 4 + 2, none⟩ = some (.int .i64 xf) ∧ W.cell? ⟨b, off + kf * 4 + 3, none⟩ = some (.int .i64 yf))
              (exact HST.out _ (by repeat' (first | exact Below.refl _ _ | apply Below.drew | refine Below.trans2 ?_ (Nat.le_refl _) (by assumption))))
              ((go_at_call 28; refine (square_any _ _ (by omega) (by omega) _).mono ?_; rintro e w1 ⟨rfl, hb1⟩))
            all_goals
              go_wp2_with fail
              go_meet
              refine ⟨rfl, rfl, by rw [HSF.out], ?_⟩
              repeat' (first | exact Below.refl _ _ | apply Below.drew | refine Below.trans2 ?_ (Nat.le_refl _) (by assumption))
          case rest =>
            obtain ⟨rfl, rfl, rfl, hb7⟩ := hcut
            obtain ⟨W7, rfl⟩ : ∃ W7, W7 = wc := ⟨_, rfl⟩
            have HB7 := hid hb7
            clear hb7 HST HSF m2 m3 m4 m5
            obtain ⟨sf, hsf⟩ : ∃ sf, sqS l kf = sf := ⟨_, rfl⟩
            rw [hsf] at HC4
            rw [hsf]
            clear hsf
            go_wp2_with fail
            go_loopw [3] (fun i wr => ∃ j : Nat, j ≤ fn ∧ i = .int .i64 j ∧ Below W6.heap.size W6 wr ∧ ∀ k, k < j → sqS l (na.getD k 0) < sf) (fun i _ => fn - (intOf i).toNat)
            case atStart => exact ⟨0, Nat.zero_le _, rfl, HB7.out, by omega⟩
            case round =>
              obtain ⟨j, hj, rfl, hb8, hno⟩ := hrel
              have HNO := hid hno
              have HB8 := hid hb8
              clear hno hb8
              obtain ⟨lv, hlv⟩ : ∃ lv, decide (j < fn ∧ sqS l (na.getD j 0) < sf) = lv := ⟨_, rfl⟩
              go_upto_region 11 with fail
              go_cut [55] (fun x wx => x = .bool lv ∧ Below W6.heap.size W6 wx)
              case first =>
                by_cases hjf : j < fn
                · have HSTJ := HSQX.out j (by omega)
                  obtain ⟨-, ⟨m2, m3⟩, m4, m5⟩ := HMB.out j (by omega)
                  obtain ⟨kj, hkj⟩ : ∃ kj, na.getD j 0 = kj := ⟨_, rfl⟩
                  have HSJ := hid (HSQ.out kj)
                  have hm1 := (HMB.out j (by omega)).1
                  rw [hkj] at HSTJ m2 m3 m4 m5 hm1 hlv
                  have HLV := hid (show decide (sqS l kj < sf) = lv by rw [← hlv]; simp [hjf])
                  clear hkj hlv
                  generalize (stAt l kj).x = xj at *
                  generalize (stAt l kj).y = yj at *
                  have kj0 : (0 : Int) ≤ (kj : Int) := by omega
                  have kj1 : (kj : Int) < (l.length : Int) := by omega
                  have jn0 : (0 : Int) ≤ (j : Int) := by omega
                  have jn1 : (j : Int) < (na.length : Int) := by omega
                  have jf : (j : Int) < (fn : Int) := by omega
                  go_region_held3 (fun W => W.cell? ⟨w.heap.size, 0, none⟩ = some (.slice (some ⟨b, off, none⟩) l.length cap) ∧ W.cell? ⟨g, j, none⟩ = some (.int .i64 (kj : Int)) ∧ W.cell? ⟨b, off + kj * 4 + 2, none⟩ = some (.int .i64 xj) ∧ W.cell? ⟨b, off + kj * 4 + 3, none⟩ = some (.int .i64 yj))
                    (exact HSTJ.out _ (by repeat' (first | exact HB8.out | apply Below.drew | refine Below.trans2 ?_ (by have := HB8.out.size; first | exact Nat.le_refl _ | simpa using this) (by assumption))))
                    ((go_at_call 28; refine (square_any _ _ (by omega) (by omega) _).mono ?_; rintro e w1 ⟨rfl, hb1⟩))
                  all_goals
                    go_wp2_with fail
                    go_meet
                    refine ⟨by rw [← HLV.out, HSJ.out], ?_⟩
                    repeat' (first | exact HB8.out | apply Below.drew | refine Below.trans2 ?_ (by have := HB8.out.size; first | exact Nat.le_refl _ | simpa using this) (by assumption))
                · have HLV := hid (show false = lv by rw [← hlv]; simp [hjf])
                  have jf : ¬ (j : Int) < (fn : Int) := by omega
                  clear hlv
                  go_region
                  all_goals
                    go_wp2_with fail
                    go_meet
                    refine ⟨by rw [← HLV.out], ?_⟩
                    repeat' (first | exact HB8.out | apply Below.drew)
              case rest =>
                obtain ⟨rfl, hb9⟩ := hcut
                obtain ⟨W9, rfl⟩ : ∃ W9, W9 = wc := ⟨_, rfl⟩
                have t9 := bcs hb9 t6
                have f9 : W9.frozen? ⟨w.heap.size + 1, 0, none⟩ = false := by
                  rw [hb9.frozen (p := ⟨w.heap.size + 1, 0, none⟩) (World.block_lt_of_cell? W6 ⟨w.heap.size + 1, 0, none⟩ t6)]; exact f6
                have HB9 := hid hb9
                have HB10 := hid (HB6.out.trans (hb9.mono hw6))
                clear hb9 t6 f6
                cases lv with
                | true =>
                  have HLV := hid (show j < fn ∧ sqS l (na.getD j 0) < sf by simpa using hlv)
                  clear hlv
                  go_wp2_with fail
                  refine ⟨⟨j + 1, HLV.out.1, by go_num, HB9.out, fun k hk => ?_⟩, by have := HLV.out.1; simp only [intOf]; omega⟩
                  by_cases e : k = j
                  · subst e; exact HLV.out.2
                  · exact HNO.out k (by omega)
                | false =>
                  have HLD := hid (leadS_step l na sf fn j (by omega) hj HNO.out (fun h1 h2 => of_decide_eq_false hlv ⟨h1, h2⟩))
                  rw [HLD.out] at HC4
                  clear hlv HLD
                  by_cases hj0 : j = 0
                  · subst hj0
                    rw [if_pos rfl] at HC4
                    go_wp2_with fail
                    have c10 : (W9.setCell ⟨w.heap.size + 1, 0, none⟩ (.int .i64 (-1))).cell? ⟨w.heap.size + 1, 0, none⟩ = some (.int .i64 (-1)) := World.cell?_setCell_same _ _ _ t9
                    refine bodyPost_ret (results_c3 rfl _ _ _ ⟨w.heap.size + 1, 0, none⟩ (.int .i64 (-1)) rfl (load3 _ _ _ c10)) rfl ⟨?_, HB10.out.setCell (by simp) _⟩
                    rw [HC4.out]
                    rfl
                  · rw [if_neg hj0] at HC4
                    have hj0' : ¬ (j : Int) = 0 := by omega
                    go_wp2_with fail
                    have c10 : (W9.setCell ⟨w.heap.size + 1, 0, none⟩ (.int .i64 tm)).cell? ⟨w.heap.size + 1, 0, none⟩ = some (.int .i64 tm) := World.cell?_setCell_same _ _ _ t9
                    refine bodyPost_ret (results_c3 rfl _ _ _ ⟨w.heap.size + 1, 0, none⟩ (.int .i64 tm) rfl (load3 _ _ _ c10)) rfl ⟨?_, HB10.out.setCell (by simp) _⟩
                    rw [HC4.out]
                    rfl
end Go.Proofs.Ytolnhicngepnnaa
