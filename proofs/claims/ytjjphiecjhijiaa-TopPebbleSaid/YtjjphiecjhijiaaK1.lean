import Derived.Test.YtjjphiecjhijiaaJ2
import Derived.Test.YtjjphiecjhijiaaPB
namespace Go.Proofs.Ytjjphiecjhijiaa
open Go.RowKit

/-- How many jobs that begin from a on end at b; .. at b or ahead of it. -/
def endsN (l : List Mach) (a b : Int) : Nat := (l.filter fun j => decide (a ≤ j.power) && j.start == b).length
def insideN (l : List Mach) (a b : Int) : Nat := (l.filter fun j => decide (a ≤ j.power) && decide (j.start ≤ b)).length
theorem inside_succ (l : List Mach) (a b : Int) : insideN l a (b + 1) = insideN l a b + endsN l a (b + 1) := by
  unfold insideN endsN
  induction l with
  | nil => rfl
  | cons j l ih =>
    simp only [List.filter_cons]
    by_cases h1 : a ≤ j.power
    · by_cases h2 : j.start ≤ b
      · have e1 : decide (j.start ≤ b + 1) = true := by simp; omega
        have e2 : (j.start == b + 1) = false := by simp; omega
        simp only [h1, h2, e1, e2, decide_true, Bool.and_true, Bool.and_false, if_true, Bool.false_eq_true, if_false, List.length_cons]; omega
      · by_cases h3 : j.start = b + 1
        · have e1 : decide (j.start ≤ b + 1) = true := by simp; omega
          have e2 : (j.start == b + 1) = true := by simp; omega
          have e3 : decide (j.start ≤ b) = false := by simp; omega
          simp only [h1, e1, e2, e3, decide_true, Bool.and_true, Bool.and_false, if_true, Bool.false_eq_true, if_false, List.length_cons]; omega
        · have e1 : decide (j.start ≤ b + 1) = false := by simp; omega
          have e2 : (j.start == b + 1) = false := by simp; omega
          have e3 : decide (j.start ≤ b) = false := by simp; omega
          simp only [e1, e2, e3, Bool.and_false, Bool.false_eq_true, if_false]; omega
    · simp only [h1, decide_false, Bool.false_and, Bool.false_eq_true, if_false]; exact ih
theorem ends_snoc (l : List Mach) (a b : Int) (x : Mach) : endsN (l ++ [x]) a b = endsN l a b + if a ≤ x.power ∧ x.start = b then 1 else 0 := by
  unfold endsN
  rw [List.filter_append, List.length_append]
  by_cases h : a ≤ x.power ∧ x.start = b
  · rw [if_pos h]; simp [h.1, h.2]
  · rw [if_neg h]
    have : (decide (a ≤ x.power) && x.start == b) = false := by
      by_cases h1 : a ≤ x.power
      · simp [h1]; exact fun e => h ⟨h1, e⟩
      · simp [h1]
    simp [this]
theorem ends_le (l : List Mach) (a b : Int) : endsN l a b ≤ l.length := List.length_filter_le _ _
theorem inside_le (l : List Mach) (a b : Int) : insideN l a b ≤ l.length := List.length_filter_le _ _
def crowdAt (l : List Mach) (c a b : Nat) : Bool := decide ((insideN l a b : Int) > ((b : Int) - a) * c)
def CrowdIs (l : List Mach) (c : Nat) (r : Int × Int × Int) : Prop :=
  (∃ a b : Nat, r = ((a : Int), (b : Int), 0) ∧ a < b ∧ b ≤ 500 ∧ crowdAt l c a b = true ∧ ∀ a' b' : Nat, a' < b' → b' ≤ 500 → (a' < a ∨ a' = a ∧ b' < b) → crowdAt l c a' b' = false) ∨
  (r = (0, 0, 7) ∧ ∀ a' b' : Nat, a' < b' → b' ≤ 500 → crowdAt l c a' b' = false)
def CrowdPost (l : List Mach) (c : Int) (w : World) (e : Ending) (w' : World) : Prop :=
  (∃ r : Int × Int × Int, e = .returned (.tuple #[.int .i64 r.1, .int .i64 r.2.1, .int .i64 r.2.2]) ∧ ((askedE l c = 0 ∧ CrowdIs l c.toNat r) ∨ (askedE l c ≠ 0 ∧ r = (0, 0, askedE l c)))) ∧ Below w.heap.size w w'

/-- The zero counts. -/
def zc501 : Array Value := Array.replicate 501 (.int .i64 0)
theorem zeroValue65 (w : World) : (zeroValue 65).run Try.prog w = .ok (.agg zc501) w := by kernel_rfl
theorem zc501_size : zc501.size = 501 := by kernel_rfl
theorem zc501_ne : zc501 ≠ #[] := fun e => by have := zc501_size; rw [e] at this; cases this
attribute [local go_sem] zeroValue65
attribute [local simp] zc501_ne
/-- An array of counts. -/
def EndsW (w : World) (g : Nat) (f : Nat → Nat) : Prop := ∀ b, b ≤ 500 → w.cell? ⟨g, b, none⟩ = some (.int .i64 (f b : Nat)) ∧ w.frozen? ⟨g, b, none⟩ = false

set_option maxRecDepth 100000 in
set_option maxHeartbeats 1000000 in
/-- plant.Crowd -/
theorem crowd_any (v : Value) (l : List Mach) (c : Int) (w : World) (hs : SlM w v l) (hb : ∀ j ∈ l, j.power ≤ 1000000) : Calls Try.prog 8 #[v, .int .i64 c] w (CrowdPost l c w) := by
  have HS := hid hs
  have HA := hid (asked_any v l c w hs hb)
  have HAE := hid (show askedE l c = if jobsOk l then (if inB c 1 8 then 0 else 4) else 2 from rfl)
  obtain ⟨a, cap, rfl, hll, hc⟩ := hs.open
  have HC := hid hc
  clear hs hb hc
  have HP := hid (show ∀ e w', CrowdPost l c w e w' ↔ ((∃ r : Int × Int × Int, e = .returned (.tuple #[.int .i64 r.1, .int .i64 r.2.1, .int .i64 r.2.2]) ∧ ((askedE l c = 0 ∧ CrowdIs l c.toNat r) ∨ (askedE l c ≠ 0 ∧ r = (0, 0, askedE l c)))) ∧ Below w.heap.size w w') from fun _ _ => Iff.rfl)
  generalize hE : askedE l c = E at *
  go_enter Try.func8, Try.ntmps8
  go_wp2_with fail
  refine HA.out.mono ?_
  rintro e w1 ⟨rfl, hb1⟩
  have HB1 := hid hb1
  by_cases h0 : E = 0
  · subst h0
    have hjo : jobsOk l = true ∧ inB c 1 8 = true := by
      have := HAE.out
      by_cases h1 : jobsOk l = true
      · rw [if_pos h1] at this
        by_cases h2 : inB c 1 8 = true
        · exact ⟨h1, h2⟩
        · rw [if_neg h2] at this; omega
      · rw [if_neg h1] at this; omega
    have hll2 : l.length ≤ 200 := by
      have := hjo.1
      simp only [jobsOk, Bool.and_eq_true, decide_eq_true_eq] at this
      exact this.1
    have hc8 : 1 ≤ c ∧ c ≤ 8 := by
      have := hjo.2
      simpa [inB] using this
    have HOK := hid (show ∀ j (h : j < l.length), 0 ≤ l[j].power ∧ l[j].power < l[j].start ∧ l[j].start ≤ 500 by
      intro j hj
      have := hjo.1
      simp only [jobsOk, Bool.and_eq_true, Bool.not_eq_true', List.any_eq_false] at this
      have := this.2 l[j] (List.getElem_mem _)
      simp [badJ, inB] at this
      omega)
    obtain ⟨cn, rfl⟩ : ∃ cn : Nat, c = (cn : Int) := ⟨c.toNat, by omega⟩
    clear hjo HAE hb1
    go_wp2_with fail
    go_loopw [20] (fun i wr => ∃ k : Nat, k ≤ 500 ∧ i = .int .i64 k ∧ Below w.heap.size w wr ∧ ∀ a' b' : Nat, a' < k → a' < b' → b' ≤ 500 → crowdAt l cn a' b' = false) (fun i _ => 500 - (intOf i).toNat)
    case atStart => exact ⟨0, by omega, rfl, HB1.out, by omega⟩
    case round =>
      obtain ⟨k, hk, rfl, hbr, hno⟩ := hrel
      obtain ⟨w2, rfl⟩ : ∃ w2 : World, w2 = wr := ⟨_, rfl⟩
      have HNO := hid hno
      have HBR := hid hbr
      clear hno hbr
      by_cases hlt : k < 500
      · have hlt' : decide ((k : Int) < 500) = true := by simp only [decide_eq_true_eq]; omega
        go_upto_region 8 with fail
        obtain ⟨W3, hW3⟩ : ∃ W3, w2.alloc (.cells zc501 65) = W3 := ⟨_, rfl⟩
        rw [hW3]
        have hz3 : W3.heap.size = w2.heap.size + 1 := by rw [← hW3]; simp
        have hb23 : Below w2.heap.size w2 W3 := by rw [← hW3]; exact (Below.refl _ _).alloc (Nat.le_refl _) _
        have hB3 := hid (HBR.out.trans (hb23.mono HBR.out.size))
        have hen : EndsW W3 w2.heap.size (fun b => endsN (l.take 0) (k : Int) b) := by
          intro b hb
          rw [← hW3]
          refine ⟨(World.cell?_alloc_new _ _ _ _).trans ?_, World.frozen?_alloc_new _ _ _ _⟩
          have e : zc501 = Array.replicate 501 (.int .i64 0) := by kernel_rfl
          rw [e]
          simp [endsN, show b < 501 by omega]
        have HEN := hid hen
        have hgw : w.heap.size ≤ w2.heap.size := HBR.out.size
        have hg3 : w2.heap.size < W3.heap.size := by omega
        clear hW3 hb23 hen hz3
        generalize hg : w2.heap.size = g at *
        clear hg
        go_wp2_with fail
        go_loopw [25] (fun i wr => ∃ n : Nat, n ≤ l.length ∧ i = .int .i64 n ∧ EndsW wr g (fun b => endsN (l.take n) (k : Int) b) ∧ Below w.heap.size w wr ∧ g < wr.heap.size) (fun i _ => l.length - (intOf i).toNat)
        case atStart => exact ⟨0, Nat.zero_le _, rfl, HEN.out, hB3.out, hg3⟩
        case round =>
          obtain ⟨n, hn, rfl, hen, hbr, hgl⟩ := hrel
          obtain ⟨w4, rfl⟩ : ∃ w4 : World, w4 = wr := ⟨_, rfl⟩
          have HEN4 := hid hen
          have HB4 := hid hbr
          by_cases hnl : n < l.length
          · obtain ⟨b, off, rfl, hbl, hcc⟩ := HC.out n hnl
            have hx0 := (hbr.cell (p := ⟨b, off + n * 3, none⟩) hbl).trans (hcc n hnl).1
            have hx1 := (hbr.cell (p := ⟨b, off + n * 3 + 1, none⟩) hbl).trans (hcc n hnl).2.1
            have hx2 := (hbr.cell (p := ⟨b, off + n * 3 + 2, none⟩) hbl).trans (hcc n hnl).2.2
            have hj := HOK.out n hnl
            have hsn := fun b' => ends_snoc (l.take n) (k : Int) b' l[n]
            rw [show l.take n ++ [l[n]] = l.take (n + 1) from (List.take_succ_eq_append_getElem hnl).symm] at hsn
            have HSN := hid hsn
            clear hcc hen hbr hsn
            generalize hxe : l[n] = x at *
            clear hxe
            obtain ⟨xs, xf, xd⟩ := x
            simp only at hj hx0 hx1 hx2
            obtain ⟨d, rfl⟩ : ∃ d : Nat, xd = (d : Int) := ⟨xd.toNat, by omega⟩
            go_upto_region 11 with fail
            obtain ⟨W5, e5, hz5, hb5, hc5, hf5⟩ := box_new w4 #[.int .i64 xs, .int .i64 xf, .int .i64 (d : Int)] 30
            rw [e5]
            clear e5
            have y1 : W5.cell? ⟨w4.heap.size, 1, none⟩ = some (.int .i64 xf) := hc5 1
            have y2 : W5.cell? ⟨w4.heap.size, 2, none⟩ = some (.int .i64 (d : Int)) := hc5 2
            have hee := HEN4.out d (by omega)
            have ye := bcs hb5 hee.1
            have yf : W5.frozen? ⟨g, d, none⟩ = false := (hb5.frozen (p := ⟨g, d, none⟩) hgl).trans hee.2
            have HB5 := hid hb5
            have hel := ends_le (l.take n) (k : Int) (d : Int)
            rw [List.length_take] at hel
            have hi0 : (0 : Int) ≤ (d : Int) := by omega
            have hi1 : (d : Int) < 501 := by omega
            clear hc5 hf5 hb5 hx0 hx1 hx2 hee hz5
            generalize hev : endsN (l.take n) (k : Int) (d : Int) = ev at *
            have HEV := hid hev
            clear hev
            have hev0 : (0 : Int) ≤ (ev : Int) := by omega
            have hev1 : (ev : Int) ≤ 200 := by omega
            by_cases hfa : (k : Int) ≤ xf
            · have hfa' : decide (xf ≥ (k : Int)) = true := by simp [hfa]
              go_wp2_with fail
              refine ⟨⟨n + 1, by omega, by go_num, ?_, (HB4.out.trans (HB5.out.mono HB4.out.size)).setCell (p := ⟨g, d, none⟩) hgw _, by have := HB5.out.size; simp; omega⟩, by simp [intOf]; omega⟩
              intro b' hb'
              show (W5.setCell _ _).cell? _ = some (.int .i64 (endsN (l.take (n + 1)) (k : Int) (b' : Int) : Nat)) ∧ (W5.setCell _ _).frozen? _ = false
              rw [HSN.out, World.frozen?_setCell]
              refine ⟨?_, (HB5.out.frozen (p := ⟨g, b', none⟩) hgl).trans (HEN4.out b' hb').2⟩
              by_cases hbd : b' = d
              · subst hbd
                rw [if_pos ⟨hfa, rfl⟩, HEV.out, Int.natCast_add, show wrap64 ((ev : Int) + 1) = (ev : Int) + 1 from IntWalk.wrap64_in _ (by omega)]
                exact World.cell?_setCell_same _ _ _ ye
              · rw [if_neg (by simp only; omega), World.cell?_setCell_other _ _ _ _ (by intro e; injection e with _ e; exact hbd e.symm)]
                exact bcs HB5.out (HEN4.out b' hb').1
            · have hfa' : decide (xf ≥ (k : Int)) = false := by simp; omega
              go_wp2_with fail
              refine ⟨⟨n + 1, by omega, by go_num, ?_, HB4.out.trans (HB5.out.mono HB4.out.size), by have := HB5.out.size; omega⟩, by simp [intOf]; omega⟩
              intro b' hb'
              show W5.cell? _ = some (.int .i64 (endsN (l.take (n + 1)) (k : Int) (b' : Int) : Nat)) ∧ _
              rw [HSN.out, if_neg (by simp only; omega)]
              exact ⟨bcs HB5.out (HEN4.out b' hb').1, (HB5.out.frozen (p := ⟨g, b', none⟩) hgl).trans (HEN4.out b' hb').2⟩
          · obtain rfl : n = l.length := by omega
            have hEA := HEN4.out
            rw [List.take_length] at hEA
            have HEA := hid hEA
            have HIS := hid (fun b => inside_succ l (k : Int) b)
            have HI0 := hid (show insideN l (k : Int) (k : Int) = 0 by
              unfold insideN
              rw [List.length_eq_zero_iff, List.filter_eq_nil_iff]
              intro x hx
              obtain ⟨j, hj, rfl⟩ := List.getElem_of_mem hx
              have := HOK.out j hj
              simp; omega)
            have hwk : IntKind.i64.wrap ((k : Int) + 1) = (k : Int) + 1 := IntWalk.i64_in _ (by omega)
            clear hen hbr hEA
            go_wp2_with fail
            go_loop [12, 13] (fun s i => ∃ b : Nat, k ≤ b ∧ b ≤ 500 ∧ i = .int .i64 (b + 1 : Nat) ∧ s = .int .i64 (insideN l (k : Int) (b : Int) : Nat) ∧ ∀ b' : Nat, k < b' → b' ≤ b → crowdAt l cn k b' = false) (fun _ i => 501 - (intOf i).toNat)
            case atStart => exact ⟨k, Nat.le_refl _, by omega, by go_num, by rw [HI0.out]; rfl, by omega⟩
            case round =>
              obtain ⟨b, hkb, hb5, rfl, rfl, hnb⟩ := hrel
              have HNB := hid hnb
              clear hnb
              by_cases hb : b < 500
              · have hbI : decide (((b + 1 : Nat) : Int) ≤ 500) = true := by simp only [decide_eq_true_eq]; omega
                have hce : w4.cell? ⟨g, b + 1, none⟩ = some (.int .i64 (endsN l (k : Int) ((b + 1 : Nat) : Int) : Nat)) := (HEA.out (b + 1) (by omega)).1
                have hsi := inside_le l (k : Int) (b : Int)
                have hse := ends_le l (k : Int) ((b + 1 : Nat) : Int)
                have hss := HIS.out (b : Int)
                rw [show (b : Int) + 1 = ((b + 1 : Nat) : Int) by omega] at hss
                have hsl := inside_le l (k : Int) ((b + 1 : Nat) : Int)
                have HSS := hid hss
                clear hss
                generalize insideN l (k : Int) (b : Int) = s0 at *
                generalize endsN l (k : Int) ((b + 1 : Nat) : Int) = e0 at *
                generalize hb1 : b + 1 = b1 at *
                obtain ⟨m, hm⟩ : ∃ m : Nat, m = (b1 - k) * cn := ⟨_, rfl⟩
                have hmI : ((b1 : Int) - (k : Int)) * (cn : Int) = (m : Int) := by
                  rw [hm, Int.natCast_mul, Int.natCast_sub (by omega)]
                have hmb : m ≤ 500 * 8 := by rw [hm]; exact Nat.mul_le_mul (by omega) (by omega)
                have q0 : (0 : Int) ≤ (s0 : Int) := by omega
                have q1 : (s0 : Int) ≤ 200 := by omega
                have q2 : (0 : Int) ≤ (e0 : Int) := by omega
                have q3 : (e0 : Int) ≤ 200 := by omega
                have q4 : (0 : Int) ≤ (b1 : Int) := by omega
                have q5 : (b1 : Int) < 501 := by omega
                have q6 : (0 : Int) ≤ ((b1 : Int) - (k : Int)) * (cn : Int) := by omega
                have q7 : ((b1 : Int) - (k : Int)) * (cn : Int) ≤ 4000 := by omega
                have HCR := hid (show crowdAt l cn k b1 = decide ((insideN l (k : Int) (b1 : Int) : Int) > ((b1 : Int) - (k : Int)) * (cn : Int)) from rfl)
                rw [HSS.out] at HCR
                have hcs : (((s0 + e0 : Nat) : Int)) = (s0 : Int) + (e0 : Int) := by omega
                have HCS := hid hcs
                have HB1' := hid hb1
                clear hm hmI hb1 hcs
                by_cases hcr : ((b1 : Int) - (k : Int)) * (cn : Int) < (s0 : Int) + (e0 : Int)
                · have hcr' : decide ((s0 : Int) + (e0 : Int) > ((b1 : Int) - (k : Int)) * (cn : Int)) = true := by simp only [decide_eq_true_eq]; exact hcr
                  have HT := hid (show crowdAt l cn k b1 = true by rw [HCR.out, HCS.out]; simp only [decide_eq_true_eq]; exact hcr)
                  go_wp2_with fail
                  go_ret3
                  refine ⟨⟨((k : Int), (b1 : Int), 0), rfl, .inl ⟨hE, .inl ⟨k, b1, rfl, by have := HB1'.out; omega, by omega, HT.out, ?_⟩⟩⟩, HB4.out⟩
                  intro a' b' h1 h2 h3
                  rcases h3 with h3 | ⟨rfl, h3⟩
                  · exact HNO.out a' b' h3 h1 h2
                  · exact HNB.out b' h1 (by have := HB1'.out; omega)
                · have hcr' : decide ((s0 : Int) + (e0 : Int) > ((b1 : Int) - (k : Int)) * (cn : Int)) = false := by simp only [decide_eq_false_iff_not]; exact hcr
                  have HT := hid (show crowdAt l cn k b1 = false by rw [HCR.out, HCS.out]; simp only [decide_eq_false_iff_not]; exact hcr)
                  go_wp2_with fail
                  refine ⟨⟨b1, by have := HB1'.out; omega, by omega, by go_num, by rw [HSS.out, HCS.out], ?_⟩, by have := HB1'.out; simp [intOf]; omega⟩
                  intro b' h1 h2
                  by_cases e : b' = b1
                  · rw [e]; exact HT.out
                  · exact HNB.out b' h1 (by have := HB1'.out; omega)
              · obtain rfl : b = 500 := by omega
                go_wp2_with fail
                refine ⟨⟨k + 1, by omega, by go_num, HB4.out, ?_⟩, by simp [intOf]; omega⟩
                intro a' b' h1 h2 h3
                by_cases e : a' = k
                · subst e; exact HNB.out b' h2 h3
                · exact HNO.out a' b' (by omega) h2 h3
      · have hlt' : decide ((k : Int) < 500) = false := by simp only [decide_eq_false_iff_not]; omega
        obtain rfl : k = 500 := by omega
        go_wp2_with fail
        go_ret3
        exact ⟨⟨(0, 0, 7), rfl, .inl ⟨hE, .inr ⟨rfl, fun a' b' h1 h2 => HNO.out a' b' (by omega) h1 h2⟩⟩⟩, HBR.out⟩
  · have hE1 : (E == 0) = false := by simpa using h0
    have hE2 : (E != 0) = true := by simpa using h0
    go_wp2_with fail
    go_ret3
    exact ⟨⟨(0, 0, E), rfl, .inr ⟨by rw [hE]; exact h0, by rw [hE]⟩⟩, HB1.out⟩
end Go.Proofs.Ytjjphiecjhijiaa
