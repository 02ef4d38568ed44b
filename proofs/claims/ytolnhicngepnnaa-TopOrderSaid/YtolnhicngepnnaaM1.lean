/- measure.Check: valid lists of stones. -/
import Derived.Test.YtolnhicngepnnaaI5
import Derived.ChangeKeysEq
namespace Go.Proofs.Ytolnhicngepnnaa
open Go.RowKit
theorem info_parts {P : Program} {t : TypeId} {z : Value} {s b : Nat} (h : (P.info? t).map (fun i => (i.zero, i.size, i.bytes)) = some (some z, s, b)) : ∃ i, P.info? t = some i ∧ i.zero = some z ∧ i.size = s ∧ i.bytes = b := by
  obtain ⟨i, h1, h2⟩ := Option.map_eq_some_iff.1 h
  simp only [Prod.mk.injEq] at h2
  exact ⟨i, h1, h2.1, h2.2.1, h2.2.2⟩
theorem eq96 (k k' : Int × Int) (n : Nat) (w : World) : (Op.equalIn (n + 2) 96 (enc2 k) (enc2 k')).run Try.prog w = .ok (decide (k = k')) w := by
  obtain ⟨a, b⟩ := k
  obtain ⟨c, d⟩ := k'
  simp only [enc2]
  obtain ⟨i0, hi, hz0, hz1, hz2⟩ := info_parts (show (Try.prog.info? 3).map (fun i => (i.zero, i.size, i.bytes)) = some (some (.int .i64 0), 1, 8) from by kernel_rfl)
  have hc : Try.prog.cellsOf 3 = 1 := by kernel_rfl
  rw [run_equalIn_array (P := Try.prog) (w := w) (n + 1) (xs := #[.int .i64 a, .int .i64 b]) (ys := #[.int .i64 c, .int .i64 d]) (hu := Try.underlying96) (hi := hi), hc]
  simp only [show List.range 2 = [0, 1] from rfl, Op.eqItems]
  by_cases h1 : a = c <;> by_cases h2 : b = d <;> simp [go_sem, h1, h2]
theorem chk96 (k : Int × Int) (b : Bool) (w : World) : (Instr.checkKey b 10000 96 (enc2 k)).run Try.prog w = .ok () w := by
  simp only [enc2]
  cases b <;> kernel_rfl
theorem findAsking_ofT (t : TypeId) (h : ∀ k k' w, (Op.equal t (enc2 k) (enc2 k')).run Try.prog w = .ok (decide (k = k')) w) (k : Int × Int) : ∀ (es : List MapEntry) (m : List ((Int × Int) × Value)) (i : Nat) (w : World), es.map (fun e => (e.key, e.val)) = m.map (fun x => (enc2 x.1, x.2)) → (Instr.findAsking t (enc2 k) es i).run Try.prog w = .ok (findM k m i) w
  | [], [], _, _, _ => rfl
  | [], _ :: _, _, _, he => by simp at he
  | _ :: _, [], _, _, he => by simp at he
  | e :: es, (k', v) :: m, i, w, he => by
    simp only [List.map_cons, List.cons.injEq, Prod.mk.injEq] at he
    obtain ⟨⟨h1, h2⟩, h3⟩ := he
    simp only [Instr.findAsking, findM, Sem.run_bind, h1, h, Result.andThen_ok]
    by_cases hk : k = k'
    · simp [hk, h2]
    · simp only [hk, decide_false, if_false, Bool.false_eq_true]
      exact findAsking_ofT t h k es m (i + 1) w h3
theorem key96 : KeyT Try.prog 96 (Int × Int) enc2 where
  find := fun k es m w he => by
    cases es with
    | nil =>
      cases m with
      | nil => simp [Instr.findKey, run_underlying Try.underlying96, Instr.findNow, findM, Result.andThen]
      | cons x m => simp at he
    | cons e es =>
      have hn : ∀ n d, Instr.findNow (.array n d) (enc2 k) (e :: es) 0 = none := fun n d => by
        cases m with
        | nil => simp at he
        | cons x m =>
          simp only [List.map_cons, List.cons.injEq, Prod.mk.injEq] at he
          simp [Instr.findNow, Instr.sameNow]
      simp [Instr.findKey, run_underlying Try.underlying96, hn, findAsking_ofT 96 (fun k k' w => eq96 k k' 9998 w) k _ m 0 w he, Result.andThen]
  check := fun b k w => chk96 k b w
  same := fun k => sameBits2 k 9999
set_option maxRecDepth 100000 in
theorem SeenN.look95 {w : World} {b : Nat} {l : List (Int × Int)} (h : SeenN w b l) (k : Int × Int) : (Instr.lookup 95 (.map (some b)) (.agg #[.int .i64 k.1, .int .i64 k.2]) false).run Try.prog w = .ok (.bool (decide (k ∈ l))) w := by
  obtain ⟨M, h1, h2, h3⟩ := h
  have hz : (zeroValue 4).run Try.prog w = .ok (.bool false) w := by kernel_rfl
  have := MapF.lookup key96 Try.underlying95 h1 hz k
  rw [show enc2 k = .agg #[.int .i64 k.1, .int .i64 k.2] from rfl] at this
  rw [this]
  congr 1
  cases e : M k with
  | none => have := h2 k; rw [e] at this; simp at this; simp [this]
  | some v => have h4 := h2 k; rw [e] at h4; simp at h4; rw [h3 k v e]; simp [h4]
set_option maxRecDepth 100000 in
theorem SeenN.add95 {w : World} {b : Nat} {l : List (Int × Int)} (h : SeenN w b l) (k : Int × Int) :
    ∃ w', (Instr.mapUpdate 95 (.map (some b)) (.agg #[.int .i64 k.1, .int .i64 k.2]) (.bool true)).run Try.prog w = .ok () w' ∧ SeenN w' b (l ++ [k]) ∧ w.grownBy w' (some b) ∧ w'.heap.size = w.heap.size := by
  obtain ⟨M, h1, h2, h3⟩ := h
  obtain ⟨w', hr, hM, hg, hz⟩ := MapF.update key96 Try.underlying95 h1 k (.bool true)
  refine ⟨w', hr, ⟨_, hM, fun k' => ?_, fun k' v hv => ?_⟩, hg, hz⟩
  · by_cases e : k' = k
    · simp [e]
    · simp only [e, if_false, h2]; simp [e]
  · by_cases e : k' = k
    · simp only [e, if_true] at hv; injection hv with hv; exact hv.symm
    · simp only [e, if_false] at hv; exact h3 k' v hv

/-- Is a stone valid for measuring? -/
def mOk (s : StoneD) : Bool := inB s.x (-6553600000) 6553600000 && inB s.y (-6553600000) 6553600000 && inB s.team 0 1 && inB s.n 0 7
def mNames : List StoneD → List (Int × Int) → Bool
  | [], _ => true
  | s :: r, seen => mOk s && !decide (nameS s ∈ seen) && mNames r (seen ++ [nameS s])
theorem mNames_step (l : List StoneD) (k : Nat) (h : k < l.length) : mNames (l.drop k) ((l.take k).map nameS) = (mOk l[k] && !decide (nameS l[k] ∈ (l.take k).map nameS) && mNames (l.drop (k + 1)) ((l.take (k + 1)).map nameS)) := by
  rw [List.drop_eq_getElem_cons h, mNames, List.take_succ_eq_append_getElem h, List.map_append]
  rfl
def mCheckR (l : List StoneD) : Bool := decide (l.length ≤ 16) && mNames l []
theorem mNames_of : ∀ (l : List StoneD) (seen : List (Int × Int)), namesOk l seen = true → mNames l seen = true
  | [], _, _ => rfl
  | s :: r, seen, h => by
    simp only [namesOk, Bool.and_eq_true] at h
    simp only [mNames, Bool.and_eq_true]
    refine ⟨⟨?_, h.1.2⟩, mNames_of r _ h.2⟩
    have h1 := h.1.1
    simp only [stoneOk, spotOk, Bool.and_eq_true] at h1
    simp only [mOk, Bool.and_eq_true]
    exact ⟨⟨⟨h1.1.2.1, h1.1.2.2⟩, h1.1.1.1⟩, h1.1.1.2⟩
theorem mCheck_of {l : List StoneD} (h : checkR l = true) : mCheckR l = true := by
  simp only [checkR, Bool.and_eq_true] at h
  simp only [mCheckR, Bool.and_eq_true]
  exact ⟨h.1.1, mNames_of l [] h.1.2⟩
set_option maxRecDepth 100000 in
set_option maxHeartbeats 4000000 in
theorem mcheck_any (v : Value) (l : List StoneD) (w : World) (hs : SlS w v l) : Calls Try.prog 15 #[v] w fun e w' => e = .returned (.int .i64 (if mCheckR l then 0 else 2)) ∧ Below w.heap.size w w' := by
  have HS := hid hs
  obtain ⟨a, cap, rfl, hll, hc⟩ := hs.open
  have HC := hid hc
  have HCR := hid (show mCheckR l = (decide (l.length ≤ 16) && mNames l []) from rfl)
  obtain ⟨ans, hans⟩ : ∃ ans : Int, (if mCheckR l = true then 0 else 2) = ans := ⟨_, rfl⟩
  rw [hans]
  have HAN := hid (show ∀ b, mCheckR l = b → ans = if b = true then 0 else 2 from fun b h => by rw [← hans, h])
  clear hans
  clear hc hs
  by_cases h16 : l.length ≤ 16
  · have h16' : (l.length : Int) ≤ 16 := by omega
    have hmm := @run_makeMap Try.prog
    go_enter Try.func15, Try.ntmps15
    go_wp2_with fail
    have hb0 : Below w.heap.size w (w.alloc (.map #[] 0)) := (Below.refl _ _).alloc (Nat.le_refl _) _
    have hs0 := SeenN.made w
    have hz0 : (w.alloc (.map #[] 0)).heap.size = w.heap.size + 1 := by simp
    generalize w.alloc (.map #[] 0) = W0 at *
    have HB0 := hid hb0
    have HS0 := hid hs0
    have HZ0 := hid hz0
    clear hb0 hs0 hz0 hmm
    go_loopw [14] (fun i wr => ∃ k : Nat, k ≤ l.length ∧ i = .int .i64 k ∧ Below w.heap.size w wr ∧ SeenN wr w.heap.size ((l.take k).map nameS) ∧ mNames l [] = mNames (l.drop k) ((l.take k).map nameS)) (fun i _ => l.length - (intOf i).toNat)
    case atStart => exact ⟨0, Nat.zero_le _, rfl, HB0.out, HS0.out, rfl⟩
    case round =>
      obtain ⟨k, hk, rfl, hb, hsn, hnm⟩ := hrel
      obtain ⟨wo, rfl⟩ : ∃ wo, wo = wr := ⟨_, rfl⟩
      have HB := hid hb
      have HSN := hid hsn
      have HNM := hid hnm
      clear hsn hnm
      by_cases hlt : k < l.length
      · have HST := hid (HNM.out.trans (mNames_step l k hlt))
        obtain ⟨b, off, rfl, hbl, hc⟩ := HC.out k hlt
        have hx0 := (hb.cell (p := ⟨b, off + k * 4, none⟩) hbl).trans (hc k hlt).1
        have hx1 := (hb.cell (p := ⟨b, off + k * 4 + 1, none⟩) hbl).trans (hc k hlt).2.1
        have hx2 := (hb.cell (p := ⟨b, off + k * 4 + 2, none⟩) hbl).trans (hc k hlt).2.2.1
        have hx3 := (hb.cell (p := ⟨b, off + k * 4 + 3, none⟩) hbl).trans (hc k hlt).2.2.2
        clear hc hb
        obtain ⟨x, hxe⟩ : ∃ x, l[k] = x := ⟨_, rfl⟩
        rw [hxe] at hx0 hx1 hx2 hx3 HST
        have HX := hid hxe
        clear hxe
        obtain ⟨seen, hseen⟩ : ∃ s, (l.take k).map nameS = s := ⟨_, rfl⟩
        rw [hseen] at HST HSN
        have HSE := hid hseen
        clear hseen
        go_upto_region 7 with fail
        have hsob : mOk x = (inB x.x (-6553600000) 6553600000 && inB x.y (-6553600000) 6553600000 && inB x.team 0 1 && inB x.n 0 7) := rfl
        obtain ⟨W1, hW1⟩ : ∃ W1, wo.alloc (.cells #[.int .i64 x.team, .int .i64 x.n, .int .i64 x.x, .int .i64 x.y] 49) = W1 := ⟨_, rfl⟩
        obtain ⟨W2, hW2⟩ : ∃ W2, W1.alloc (.cells #[.int .i64 x.team, .int .i64 x.n] 96) = W2 := ⟨_, rfl⟩
        have hz1 : W1.heap.size = wo.heap.size + 1 := by rw [← hW1]; simp
        have hz2 : W2.heap.size = wo.heap.size + 2 := by rw [← hW2, ← hW1]; simp
        have hbb1 : Below wo.heap.size wo W1 := by rw [← hW1]; exact (Below.refl _ wo).alloc (Nat.le_refl _) _
        have hbb2 : Below wo.heap.size wo W2 := by rw [← hW2]; exact hbb1.alloc (by omega) _
        have hbx1 : W1.heap[wo.heap.size]? = some (.cells #[.int .i64 x.team, .int .i64 x.n, .int .i64 x.x, .int .i64 x.y] 49 (0, 0)) := by rw [← hW1]; exact heap_alloc_new wo _
        have hbx2 : W2.heap[wo.heap.size]? = some (.cells #[.int .i64 x.team, .int .i64 x.n, .int .i64 x.x, .int .i64 x.y] 49 (0, 0)) := by rw [← hW2, Below.heap_alloc _ _ _ (by omega)]; exact hbx1
        have hby2 : W2.heap[wo.heap.size + 1]? = some (.cells #[.int .i64 x.team, .int .i64 x.n] 96 (0, 0)) := by
          rw [← hW2, ← hz1]; exact heap_alloc_new W1 _
        have c0 : W1.cell? ⟨wo.heap.size, 0, none⟩ = some (.int .i64 x.team) := by simp [World.cell?, hbx1]
        have c1 : W1.cell? ⟨wo.heap.size, 1, none⟩ = some (.int .i64 x.n) := by simp [World.cell?, hbx1]
        have c2 : W1.cell? ⟨wo.heap.size, 2, none⟩ = some (.int .i64 x.x) := by simp [World.cell?, hbx1]
        have c3 : W1.cell? ⟨wo.heap.size, 3, none⟩ = some (.int .i64 x.y) := by simp [World.cell?, hbx1]
        have HCC := hid (show W2.cell? ⟨wo.heap.size, 0, none⟩ = some (.int .i64 x.team) ∧ W2.cell? ⟨wo.heap.size, 1, none⟩ = some (.int .i64 x.n) ∧ W2.cell? ⟨wo.heap.size + 1, 0, none⟩ = some (.int .i64 x.team) ∧ W2.cell? ⟨wo.heap.size + 1, 1, none⟩ = some (.int .i64 x.n) from ⟨by simp [World.cell?, hbx2], by simp [World.cell?, hbx2], by simp [World.cell?, hby2], by simp [World.cell?, hby2]⟩)
        have HSO := hid hsob
        have HK1 := hid (fun W => within21_any x.x (-6553600000) 6553600000 W)
        have HK2 := hid (fun W => within21_any x.y (-6553600000) 6553600000 W)
        have HK3 := hid (fun W => within22_any x.team 0 1 W)
        have HK4 := hid (fun W => within22_any x.n 0 7 W)
        have HLK := hid ((HSN.out.below hbb2).look95 (nameS x))
        have HADD := hid ((HSN.out.below hbb2).add95 (nameS x))
        have HFL := hid (HB.out.trans (hbb2.mono HB.out.size))
        have HW1 := hid hW1
        have HW2 := hid hW2
        clear hx0 hx1 hx2 hx3 hsob hbb1 hbb2 hbx1 hbx2 hby2 hW1 hW2
        generalize inB x.x (-6553600000) 6553600000 = b1 at *
        generalize inB x.y (-6553600000) 6553600000 = b2 at *
        generalize inB x.team 0 1 = b3 at *
        generalize inB x.n 0 7 = b4 at *
        rw [HW1.out]
        obtain ⟨bp, hbp⟩ : ∃ bp, (b1 && b2) = bp := ⟨_, rfl⟩
        have HDEC := hid (show ∀ b : Bool, (bp && b3 && b4) = b → mOk x = b from fun b h => by rw [← hbp] at h; exact HSO.out.trans h)
        have HBP := hid hbp
        clear hbp HW1 HSO
        go_cut [6] (fun p wx => p = .bool bp ∧ wx = W1)
        case first =>
          cases b1 with
          | false =>
            go_wp2_with fail
            refine (HK1.out _).mono ?_
            rintro e w' ⟨rfl, rfl⟩
            go_wp2_with fail
            go_meet
            exact ⟨by rw [← HBP.out]; rfl, rfl⟩
          | true =>
            go_wp2_with fail
            refine (HK1.out _).mono ?_
            rintro e w' ⟨rfl, rfl⟩
            go_wp2_with fail
            refine (HK2.out _).mono ?_
            rintro e w' ⟨rfl, rfl⟩
            go_wp2_with fail
            go_meet
            exact ⟨by rw [← HBP.out]; rfl, rfl⟩
        case rest =>
        obtain ⟨rfl, rfl⟩ := hcut
        go_upto_region 9 with fail
        rw [HW2.out]
        clear c0 c1 c2 c3
        obtain ⟨c0, c1, c2, c3⟩ := HCC.out
        clear HBP
        have hlk := HLK.out
        by_cases hbp : bp = false
        · subst hbp
          have HR := hid (show mCheckR l = false by rw [HCR.out, HST.out, HDEC.out false (by simp)]; simp)
          go_wp2_with fail
          go_ret
          exact ⟨by rw [HAN.out _ HR.out]; rfl, HFL.out⟩
        obtain rfl : bp = true := by simpa using hbp
        clear hbp
        by_cases hb3 : b3 = false
        · subst hb3
          have HR := hid (show mCheckR l = false by rw [HCR.out, HST.out, HDEC.out false (by simp)]; simp)
          go_wp2_with fail
          refine (HK3.out _).mono ?_
          rintro e w' ⟨rfl, rfl⟩
          go_wp2_with fail
          go_ret
          exact ⟨by rw [HAN.out _ HR.out]; rfl, HFL.out⟩
        obtain rfl : b3 = true := by simpa using hb3
        clear hb3
        by_cases hb4 : b4 = false
        · subst hb4
          have HR := hid (show mCheckR l = false by rw [HCR.out, HST.out, HDEC.out false (by simp)]; simp)
          go_wp2_with fail
          refine (HK3.out _).mono ?_
          rintro e w' ⟨rfl, rfl⟩
          go_wp2_with fail
          refine (HK4.out _).mono ?_
          rintro e w' ⟨rfl, rfl⟩
          go_wp2_with fail
          go_ret
          exact ⟨by rw [HAN.out _ HR.out]; rfl, HFL.out⟩
        obtain rfl : b4 = true := by simpa using hb4
        clear hb4
        have hso : mOk x = true := HDEC.out true (by simp)
        have HSOK := hid hso
        clear hso
        go_wp2_with fail
        refine (HK3.out _).mono ?_
        rintro e w' ⟨rfl, rfl⟩
        go_wp2_with fail
        refine (HK4.out _).mono ?_
        rintro e w' ⟨rfl, rfl⟩
        by_cases hse : nameS x ∈ seen
        · have hsb : decide (nameS x ∈ seen) = true := by simp [hse]
          rw [hsb] at hlk
          have HR := hid (show mCheckR l = false by rw [HCR.out, HST.out, hsb]; simp)
          clear hse hsb
          simp only [nameS] at hlk
          go_wp2_with fail
          go_ret
          exact ⟨by rw [HAN.out _ HR.out]; rfl, HFL.out⟩
        · have hsb : decide (nameS x ∈ seen) = false := by simp [hse]
          rw [hsb] at hlk
          have HNX := hid (show mNames l [] = mNames (l.drop (k + 1)) ((l.take (k + 1)).map nameS) by rw [HST.out, HSOK.out, hsb]; simp)
          obtain ⟨w5, hup, hs5, hg5, hz5⟩ := HADD.out
          have HS5 := hid hs5
          have HG5 := hid hg5
          clear hse hsb hs5 hg5 hz5
          simp only [nameS] at hlk hup
          go_wp2_with fail
          refine ⟨⟨k + 1, by omega, by go_num, ?_, ?_, HNX.out⟩, by simp only [intOf]; omega⟩
          · exact HFL.out.grown HG5.out HFL.out.size (fun j e => by cases e; exact Nat.le_refl _)
          · rw [List.take_succ_eq_append_getElem hlt, List.map_append, HSE.out, HX.out]
            exact HS5.out
      · have HN := hid (show mNames l [] = true by rw [HNM.out, List.drop_eq_nil_of_le (by omega)]; rfl)
        have HR := hid (show mCheckR l = true by rw [HCR.out, HN.out]; simp [h16])
        go_wp2_with fail
        go_ret
        exact ⟨by rw [HAN.out _ HR.out]; rfl, HB.out⟩
  · have h16' : ¬ (l.length : Int) ≤ 16 := by omega
    go_enter Try.func15, Try.ntmps15
    go_wp2_with fail
    go_ret
    exact ⟨by rw [HAN.out false (by rw [HCR.out]; simp [h16])]; rfl, Below.refl _ _⟩
end Go.Proofs.Ytolnhicngepnnaa
