/- Valid positions of stones. -/
import Derived.Test.YtolnhicngepnnaaS4
namespace Go.Proofs.Ytolnhicngepnnaa
open Go.RowKit

def enc2 (x : Int × Int) : Value := .agg #[.int .i64 x.1, .int .i64 x.2]
theorem findAsking_of (h : ∀ k k' w, (Op.equal 63 (enc2 k) (enc2 k')).run Try.prog w = .ok (decide (k = k')) w) (k : Int × Int) : ∀ (es : List MapEntry) (m : List ((Int × Int) × Value)) (i : Nat) (w : World), es.map (fun e => (e.key, e.val)) = m.map (fun x => (enc2 x.1, x.2)) → (Instr.findAsking 63 (enc2 k) es i).run Try.prog w = .ok (findM k m i) w
  | [], [], _, _, _ => rfl
  | [], _ :: _, _, _, he => by simp at he
  | _ :: _, [], _, _, he => by simp at he
  | e :: es, (k', v) :: m, i, w, he => by
    simp only [List.map_cons, List.cons.injEq, Prod.mk.injEq] at he
    obtain ⟨⟨h1, h2⟩, h3⟩ := he
    simp only [Instr.findAsking, findM, Sem.run_bind, h1, h, Result.andThen_ok]
    by_cases hk : k = k'
    · simp [hk, h2]
    · simp only [hk, decide_false, if_false, Bool.false_eq_true]
      exact findAsking_of h k es m (i + 1) w h3
theorem eq63 (k k' : Int × Int) (n : Nat) (w : World) : (Op.equalIn (n + 2) 63 (enc2 k) (enc2 k')).run Try.prog w = .ok (decide (k = k')) w := by
  obtain ⟨a, b⟩ := k
  obtain ⟨c, d⟩ := k'
  simp only [enc2]
  by_cases h1 : a = c <;> by_cases h2 : b = d <;> simp [go_sem, h1, h2]
theorem chk63 (k : Int × Int) (b : Bool) (n : Nat) (w : World) : (Instr.checkKey b (n + 2) 63 (enc2 k)).run Try.prog w = .ok () w := by
  simp only [enc2]
  simp [go_sem, Instr.checkKey]
theorem sameBits2 (k : Int × Int) (n : Nat) : Instr.sameBits (n + 1) (enc2 k) (enc2 k) = true := by simp [enc2, Instr.sameBits, sameBits_int]
theorem key63 : KeyT Try.prog 63 (Int × Int) enc2 where
  find := fun k es m w he => by
    cases es with
    | nil =>
      cases m with
      | nil => simp [Instr.findKey, run_underlying Try.underlying63, Instr.findNow, findM, Result.andThen]
      | cons x m => simp at he
    | cons e es =>
      have hn : ∀ d, Instr.findNow (.struct d) (enc2 k) (e :: es) 0 = none := fun d => by
        cases m with
        | nil => simp at he
        | cons x m =>
          simp only [List.map_cons, List.cons.injEq, Prod.mk.injEq] at he
          simp [Instr.findNow, Instr.sameNow]
      simp [Instr.findKey, run_underlying Try.underlying63, hn, findAsking_of (fun k k' w => eq63 k k' 9998 w) k _ m 0 w he, Result.andThen]
  check := fun b k w => chk63 k b 9998 w
  same := fun k => sameBits2 k 9999
/-- A set of names. -/
def SeenN (w : World) (b : Nat) (l : List (Int × Int)) : Prop := ∃ M, MapF enc2 w b M ∧ (∀ k, (M k).isSome = decide (k ∈ l)) ∧ ∀ k v, M k = some v → v = .bool true
theorem SeenN.below {w w' : World} {b : Nat} {l : List (Int × Int)} (h : SeenN w b l) (hb : Below w.heap.size w w') : SeenN w' b l := by
  obtain ⟨M, h1, h2⟩ := h; exact ⟨M, h1.below' hb, h2⟩
theorem SeenN.lt {w : World} {b : Nat} {l : List (Int × Int)} (h : SeenN w b l) : b < w.heap.size := by obtain ⟨M, h1, _⟩ := h; exact h1.lt
theorem SeenN.made (w : World) : SeenN (w.alloc (.map #[] 0)) w.heap.size [] := ⟨_, MapF.made w, fun k => by simp, fun k v h => by cases h⟩
set_option maxRecDepth 100000 in
theorem SeenN.look {w : World} {b : Nat} {l : List (Int × Int)} (h : SeenN w b l) (k : Int × Int) : (Instr.lookup 61 (.map (some b)) (.agg #[.int .i64 k.1, .int .i64 k.2]) false).run Try.prog w = .ok (.bool (decide (k ∈ l))) w := by
  obtain ⟨M, h1, h2, h3⟩ := h
  have hz : (zeroValue 4).run Try.prog w = .ok (.bool false) w := by kernel_rfl
  have := MapF.lookup key63 Try.underlying61 h1 hz k
  rw [show enc2 k = .agg #[.int .i64 k.1, .int .i64 k.2] from rfl] at this
  rw [this]
  congr 1
  cases e : M k with
  | none => have := h2 k; rw [e] at this; simp at this; simp [this]
  | some v => have h4 := h2 k; rw [e] at h4; simp at h4; rw [h3 k v e]; simp [h4]
set_option maxRecDepth 100000 in
theorem SeenN.add {w : World} {b : Nat} {l : List (Int × Int)} (h : SeenN w b l) (k : Int × Int) :
    ∃ w', (Instr.mapUpdate 61 (.map (some b)) (.agg #[.int .i64 k.1, .int .i64 k.2]) (.bool true)).run Try.prog w = .ok () w' ∧ SeenN w' b (l ++ [k]) ∧ w.grownBy w' (some b) ∧ w'.heap.size = w.heap.size := by
  obtain ⟨M, h1, h2, h3⟩ := h
  obtain ⟨w', hr, hM, hg, hz⟩ := MapF.update key63 Try.underlying61 h1 k (.bool true)
  refine ⟨w', hr, ⟨_, hM, fun k' => ?_, fun k' v hv => ?_⟩, hg, hz⟩
  · by_cases e : k' = k
    · simp [e]
    · simp only [e, if_false, h2]; simp [e]
  · by_cases e : k' = k
    · simp only [e, if_true] at hv; injection hv with hv; exact hv.symm
    · simp only [e, if_false] at hv; exact h3 k' v hv
/-- Is a stone valid by itself? -/
def stoneOk (s : StoneD) : Bool := inB s.team 0 1 && inB s.n 0 7 && spotOk s.x s.y && !(zoneR s.x s.y == 0)
def nameS (s : StoneD) : Int × Int := (s.team, s.n)
/-- Are stones valid, and of different names? -/
def namesOk : List StoneD → List (Int × Int) → Bool
  | [], _ => true
  | s :: r, seen => stoneOk s && !decide (nameS s ∈ seen) && namesOk r (seen ++ [nameS s])
theorem namesOk_step (l : List StoneD) (k : Nat) (h : k < l.length) : namesOk (l.drop k) ((l.take k).map nameS) = (stoneOk l[k] && !decide (nameS l[k] ∈ (l.take k).map nameS) && namesOk (l.drop (k + 1)) ((l.take (k + 1)).map nameS)) := by
  rw [List.drop_eq_getElem_cons h, namesOk, List.take_succ_eq_append_getElem h, List.map_append]
  rfl
/-- Is a position valid? -/
def checkR (l : List StoneD) : Bool := decide (l.length ≤ 16) && namesOk l [] && apartR l
theorem overlap_any (v : Value) (l : List StoneD) (w : World) (hs : SlS w v l) (hcap : ∀ a cap, v = .slice a l.length cap → l.length ≤ cap) (hl : l.length ≤ 1000) : Calls Try.prog 20 #[v] w (PairPost l w) := by
  have H := hid (pair42_any v l w hs hcap hl)
  obtain ⟨a, cap, rfl, -, -⟩ := hs.open
  clear hs hcap
  go_enter Try.func20, Try.ntmps20
  go_wp2_with fail
  refine H.out.mono ?_
  rintro e w1 ⟨⟨i, k, rfl, hi⟩, hb⟩
  have HI := hid hi
  clear hi
  go_wp2_with fail
  go_ret2
  exact ⟨⟨i, k, rfl, HI.out⟩, hb⟩
set_option maxRecDepth 100000 in
set_option maxHeartbeats 4000000 in
theorem check_any (v : Value) (l : List StoneD) (w : World) (hs : SlS w v l) (hcap : ∀ a cap, v = .slice a l.length cap → l.length ≤ cap) : Calls Try.prog 7 #[v] w fun e w' => e = .returned (.bool (checkR l)) ∧ Below w.heap.size w w' := by
  have HS := hid hs
  have HCP := hid hcap
  obtain ⟨a, cap, rfl, hll, hc⟩ := hs.open
  have HC := hid hc
  have HCR := hid (show checkR l = (decide (l.length ≤ 16) && namesOk l [] && apartR l) from rfl)
  clear hc hs hcap
  by_cases h16 : l.length ≤ 16
  · have h16' : (l.length : Int) ≤ 16 := by omega
    have hmm := @run_makeMap Try.prog
    go_enter Try.func7, Try.ntmps7
    go_wp2_with fail
    have hb0 : Below w.heap.size w (w.alloc (.map #[] 0)) := (Below.refl _ _).alloc (Nat.le_refl _) _
    have hs0 := SeenN.made w
    have hz0 : (w.alloc (.map #[] 0)).heap.size = w.heap.size + 1 := by simp
    generalize w.alloc (.map #[] 0) = W0 at *
    have HB0 := hid hb0
    have HS0 := hid hs0
    have HZ0 := hid hz0
    clear hb0 hs0 hz0 hmm
    go_loopw [15] (fun i wr => ∃ k : Nat, k ≤ l.length ∧ i = .int .i64 k ∧ Below w.heap.size w wr ∧ SeenN wr w.heap.size ((l.take k).map nameS) ∧ namesOk l [] = namesOk (l.drop k) ((l.take k).map nameS)) (fun i _ => l.length - (intOf i).toNat)
    case atStart => exact ⟨0, Nat.zero_le _, rfl, HB0.out, HS0.out, rfl⟩
    case round =>
      obtain ⟨k, hk, rfl, hb, hsn, hnm⟩ := hrel
      obtain ⟨wo, rfl⟩ : ∃ wo, wo = wr := ⟨_, rfl⟩
      have HB := hid hb
      have HSN := hid hsn
      have HNM := hid hnm
      clear hsn hnm
      by_cases hlt : k < l.length
      · have HST := hid (HNM.out.trans (namesOk_step l k hlt))
        obtain ⟨b, off, rfl, hbl, hc⟩ := HC.out k hlt
        have hx0 := (hb.cell (p := ⟨b, off + k * 4, none⟩) hbl).trans (hc k hlt).1
        have hx1 := (hb.cell (p := ⟨b, off + k * 4 + 1, none⟩) hbl).trans (hc k hlt).2.1
        have hx2 := (hb.cell (p := ⟨b, off + k * 4 + 2, none⟩) hbl).trans (hc k hlt).2.2.1
        have hx3 := (hb.cell (p := ⟨b, off + k * 4 + 3, none⟩) hbl).trans (hc k hlt).2.2.2
        clear hc hb
        obtain ⟨x, hxe⟩ : ∃ x, l[k] = x := ⟨_, rfl⟩
        rw [hxe] at hx0 hx1 hx2 hx3 HST
        have HX := hid hxe
        clear hxe
        obtain ⟨seen, hseen⟩ : ∃ s, (l.take k).map nameS = s := ⟨_, rfl⟩
        rw [hseen] at HST HSN
        have HSE := hid hseen
        clear hseen
        go_upto_region 8 with fail
        have hsob : stoneOk x = (inB x.team 0 1 && inB x.n 0 7 && spotOk x.x x.y && !(zoneR x.x x.y == 0)) := rfl
        have hb2 : Below wo.heap.size wo ((wo.alloc (.cells #[.int .i64 x.team, .int .i64 x.n, .int .i64 x.x, .int .i64 x.y] 49)).alloc (.cells #[.int .i64 x.team, .int .i64 x.n] 63)) := ((Below.refl _ wo).alloc (Nat.le_refl _) _).alloc (by simp) _
        have hbx : ((wo.alloc (.cells #[.int .i64 x.team, .int .i64 x.n, .int .i64 x.x, .int .i64 x.y] 49)).alloc (.cells #[.int .i64 x.team, .int .i64 x.n] 63)).heap[wo.heap.size]? = some (.cells #[.int .i64 x.team, .int .i64 x.n, .int .i64 x.x, .int .i64 x.y] 49 (0, 0)) := by
          rw [Below.heap_alloc _ _ _ (by simp)]; exact heap_alloc_new wo _
        have hby : ((wo.alloc (.cells #[.int .i64 x.team, .int .i64 x.n, .int .i64 x.x, .int .i64 x.y] 49)).alloc (.cells #[.int .i64 x.team, .int .i64 x.n] 63)).heap[wo.heap.size + 1]? = some (.cells #[.int .i64 x.team, .int .i64 x.n] 63 (0, 0)) := by
          have := heap_alloc_new (wo.alloc (.cells #[.int .i64 x.team, .int .i64 x.n, .int .i64 x.x, .int .i64 x.y] 49)) (.cells #[.int .i64 x.team, .int .i64 x.n] 63)
          simpa using this
        generalize (wo.alloc (.cells #[.int .i64 x.team, .int .i64 x.n, .int .i64 x.x, .int .i64 x.y] 49)).alloc (.cells #[.int .i64 x.team, .int .i64 x.n] 63) = W2 at *
        have HB2 := hid hb2
        have HBX := hid hbx
        have HBY := hid hby
        have hcells : ∀ W, Below W2.heap.size W2 W → (W.cell? ⟨wo.heap.size, 0, none⟩ = some (.int .i64 x.team) ∧ W.cell? ⟨wo.heap.size, 1, none⟩ = some (.int .i64 x.n) ∧ W.cell? ⟨wo.heap.size, 2, none⟩ = some (.int .i64 x.x) ∧ W.cell? ⟨wo.heap.size, 3, none⟩ = some (.int .i64 x.y)) ∧ W.cell? ⟨wo.heap.size + 1, 0, none⟩ = some (.int .i64 x.team) ∧ W.cell? ⟨wo.heap.size + 1, 1, none⟩ = some (.int .i64 x.n) := by
          intro W hW
          have p1 := (hW.block _ (Array.getElem?_eq_some_iff.1 HBX.out).1).trans HBX.out
          have p2 := (hW.block _ (Array.getElem?_eq_some_iff.1 HBY.out).1).trans HBY.out
          exact ⟨⟨by simp [World.cell?, p1], by simp [World.cell?, p1], by simp [World.cell?, p1], by simp [World.cell?, p1]⟩, by simp [World.cell?, p2], by simp [World.cell?, p2]⟩
        have HCL := hid hcells
        have HSO := hid hsob
        have HK1 := hid (fun W => within35_any x.team 0 1 W)
        have HK2 := hid (fun W => within35_any x.n 0 7 W)
        have HK3 := hid (fun W => checkSpot_any x.x x.y W)
        have HK4 := hid (fun (h : spotOk x.x x.y = true) W => zone_any x.x x.y h W)
        have HLK := hid (fun W (h : Below W2.heap.size W2 W) => ((HSN.out.below HB2.out).below h).look (nameS x))
        have HADD := hid (fun W (h : Below W2.heap.size W2 W) => ((HSN.out.below HB2.out).below h).add (nameS x))
        have HBT := hid (HB.out.trans (HB2.out.mono HB.out.size))
        have hfail : ∀ W, Below W2.heap.size W2 W → Below w.heap.size w W := fun W h => HBT.out.trans (h.mono HBT.out.size)
        have HFL := hid hfail
        have HX0 := hid (HCL.out W2 (Below.refl _ _))
        clear hx0 hx1 hx2 hx3 hsob hb2 hbx hby hcells hfail
        obtain ⟨⟨p0, p1, p2, p3⟩, p4, p5⟩ := HX0.out
        generalize inB x.team 0 1 = b1 at *
        generalize inB x.n 0 7 = b2 at *
        generalize spotOk x.x x.y = b3 at *
        generalize zoneR x.x x.y = zn at *
        have hdec : ∀ b : Bool, (b1 && b2 && b3 && !(zn == 0)) = b → stoneOk x = b := fun b h => HSO.out.trans h
        have HDEC := hid hdec
        clear hdec
        by_cases hb1 : b1 = false
        · subst hb1
          go_wp2_with fail
          refine (HK1.out _).mono ?_
          rintro e w' ⟨rfl, rfl⟩
          have HR := hid (show checkR l = false by rw [HCR.out, HST.out, HDEC.out false (by simp)]; simp)
          go_wp2_with fail
          go_ret
          exact ⟨by rw [HR.out]; rfl, HFL.out _ (Below.refl _ _)⟩
        obtain rfl : b1 = true := by simpa using hb1
        clear hb1
        by_cases hb2 : b2 = false
        · subst hb2
          go_wp2_with fail
          refine (HK1.out _).mono ?_
          rintro e w' ⟨rfl, rfl⟩
          go_wp2_with fail
          refine (HK2.out _).mono ?_
          rintro e w' ⟨rfl, rfl⟩
          have HR := hid (show checkR l = false by rw [HCR.out, HST.out, HDEC.out false (by simp)]; simp)
          go_wp2_with fail
          go_ret
          exact ⟨by rw [HR.out]; rfl, HFL.out _ (Below.refl _ _)⟩
        obtain rfl : b2 = true := by simpa using hb2
        clear hb2
        by_cases hb3 : b3 = false
        · subst hb3
          go_wp2_with fail
          refine (HK1.out _).mono ?_
          rintro e w' ⟨rfl, rfl⟩
          go_wp2_with fail
          refine (HK2.out _).mono ?_
          rintro e w' ⟨rfl, rfl⟩
          go_wp2_with fail
          refine (HK3.out _).mono ?_
          rintro e w3 ⟨rfl, hb3⟩
          have HR := hid (show checkR l = false by rw [HCR.out, HST.out, HDEC.out false (by simp)]; simp)
          have HB3 := hid (HFL.out _ hb3)
          clear hb3 p0 p1 p2 p3 p4 p5
          go_wp2_with fail
          go_ret
          exact ⟨by rw [HR.out]; rfl, HB3.out⟩
        obtain rfl : b3 = true := by simpa using hb3
        clear hb3
        go_wp2_with fail
        refine (HK1.out _).mono ?_
        rintro e w' ⟨rfl, rfl⟩
        go_wp2_with fail
        refine (HK2.out _).mono ?_
        rintro e w' ⟨rfl, rfl⟩
        go_wp2_with fail
        refine (HK3.out _).mono ?_
        rintro e w3 ⟨rfl, hb3⟩
        have HY0 := hid (HCL.out w3 hb3)
        clear p0 p1 p2 p3 p4 p5
        obtain ⟨⟨p0, p1, p2, p3⟩, p4, p5⟩ := HY0.out
        go_wp2_with fail
        refine (HK4.out (by first | rfl | trivial) _).mono ?_
        rintro e w4 ⟨rfl, hb4⟩
        have hb4' := hb3.trans (hb4.mono hb3.size)
        have HB4 := hid hb4'
        clear p0 p1 p2 p3 p4 p5 hb3 hb4 hb4'
        obtain ⟨⟨p0, p1, p2, p3⟩, p4, p5⟩ := HCL.out w4 HB4.out
        have hlk := HLK.out w4 HB4.out
        by_cases hzn : zn = 0
        · have hzb : (zn == 0) = true := by simp [hzn]
          have HR := hid (show checkR l = false by rw [HCR.out, HST.out, HDEC.out false (by simp [hzn])]; simp)
          clear hzn
          go_wp2_with fail
          go_ret
          exact ⟨by rw [HR.out]; rfl, HFL.out _ HB4.out⟩
        have hzb : (zn == 0) = false := by simp [hzn]
        have hso : stoneOk x = true := HDEC.out true (by simp [hzn])
        have HSOK := hid hso
        clear hzn hso
        by_cases hse : nameS x ∈ seen
        · have hsb : decide (nameS x ∈ seen) = true := by simp [hse]
          rw [hsb] at hlk
          have HR := hid (show checkR l = false by rw [HCR.out, HST.out, hsb]; simp)
          clear hse hsb
          simp only [nameS] at hlk
          go_wp2_with fail
          go_ret
          exact ⟨by rw [HR.out]; rfl, HFL.out _ HB4.out⟩
        · have hsb : decide (nameS x ∈ seen) = false := by simp [hse]
          rw [hsb] at hlk
          have HNX := hid (show namesOk l [] = namesOk (l.drop (k + 1)) ((l.take (k + 1)).map nameS) by rw [HST.out, HSOK.out, hsb]; simp)
          obtain ⟨w5, hup, hs5, hg5, hz5⟩ := HADD.out w4 HB4.out
          have HS5 := hid hs5
          have HG5 := hid hg5
          clear hse hsb hs5 hg5 hz5
          simp only [nameS] at hlk hup
          go_wp2_with fail
          refine ⟨⟨k + 1, by omega, by go_num, ?_, ?_, HNX.out⟩, by simp only [intOf]; omega⟩
          · exact (HFL.out _ HB4.out).grown HG5.out (HFL.out _ HB4.out).size (fun j e => by cases e; exact Nat.le_refl _)
          · rw [List.take_succ_eq_append_getElem hlt, List.map_append, HSE.out, HX.out]
            exact HS5.out
      · go_wp2_with fail
        refine (overlap_any _ l wo (HS.out.below HB.out) HCP.out (by omega)).mono ?_
        rintro e w3 ⟨⟨i, j, rfl, hi⟩, hb3⟩
        have HB3 := hid (HB.out.trans (hb3.mono HB.out.size))
        have HI := hid hi
        have HN := hid (show namesOk l [] = true by rw [HNM.out, List.drop_eq_nil_of_le (by omega)]; rfl)
        clear hi hb3
        go_wp2_with fail
        go_ret
        exact ⟨by rw [HCR.out, HN.out, ← HI.out]; simp [h16], HB3.out⟩
  · have h16' : ¬ (l.length : Int) ≤ 16 := by omega
    go_enter Try.func7, Try.ntmps7
    go_wp2_with fail
    go_ret
    exact ⟨by rw [HCR.out]; simp [h16], Below.refl _ _⟩
end Go.Proofs.Ytolnhicngepnnaa
