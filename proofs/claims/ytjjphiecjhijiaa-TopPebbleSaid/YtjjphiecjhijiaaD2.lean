/- slices.Chunk's iterator over pairs. -/
import Derived.Test.YtjjphiecjhijiaaD1
import Derived.Deep.RegionHeld3
namespace Go.Proofs.Ytjjphiecjhijiaa
open Go.RowKit

/-- What comes of a slice of pairs, chunk by chunk. -/
def NxC (g L : Nat) (pre : List Value) (v : Value) (W : World) : Prop := pre.length * L < g ∧ ∃ vs : List (Int × Int), vs.length = min L (g - pre.length * L) ∧ SlK W v vs
set_option maxRecDepth 100000 in
set_option maxHeartbeats 2000000 in
theorem chunk1_in (n : Nat) (hn : 1 ≤ n) (l bS bN : Nat) (L : Nat) (h1 : 1 ≤ L) (h8 : L ≤ 8) (b off cap : Nat) (vs : List (Int × Int)) (hp : 0 < vs.length) (hg : vs.length ≤ 20) (J : (Nat → Prop) → List Value → World → Prop) (W : World)
    (hs : SlK W (.slice (some ⟨b, off, none⟩) vs.length cap) vs) (hcap : vs.length ≤ cap) (hc : W.cell? ⟨bS, 0, none⟩ = some (.slice (some ⟨b, off, none⟩) vs.length cap)) (hc2 : W.cell? ⟨bN, 0, none⟩ = some (.int .i64 (L : Int)))
    (hJ : ∀ O pre W1 W2, J O pre W1 → Ch O W1 W2 → J (NewO O W1 W2) pre W2)
    (hY : ∀ O pre x W1, J O pre W1 → NxC vs.length L pre x W1 → YieldAt Fence.wide (n - 1) Try.prog l #[x] W1 fun e W' =>
      e = .returned (.bool true) ∧ J O (pre ++ [x]) W' ∧ W1.heap.size ≤ W'.heap.size ∧ ∀ k, O k ∨ (k = b ∨ k = bS ∨ k = bN) → W'.heap[k]? = W1.heap[k]?)
    (h0 : J (fun _ => False) [] W) :
    CallsIn Fence.wide n Try.prog 25 #[.func (.yield l) #[] #[], .pointer (some ⟨bS, 0, none⟩), .pointer (some ⟨bN, 0, none⟩)] W fun e W' => (∃ v, e = .returned v) ∧ ∃ O pre, vs.length ≤ pre.length * L ∧ J O pre W' := by
  have HJ := hid hJ
  have HY := hid hY
  have HC := hid hc
  have HC2 := hid hc2
  have HS := hid hs
  clear hJ hY hs hc hc2
  refine callsIn_of_wp Try.func25 rfl trivial ?_ rfl
  simp only [Try.ntmps25, List.size_toArray, List.length_cons, List.length_nil, Nat.reduceAdd, Nat.reduceSub, Array.replicate_succ, Array.replicate_zero, List.push_toArray, List.append_toArray, List.nil_append, List.cons_append]
  gi_wp2_with fail
  gi_loopw [4] (fun i wr => ∃ (m : Nat) (O : Nat → Prop) (pre : List Value), m ≤ 40 ∧ i = .int .i64 m ∧ m = pre.length * L ∧ J O pre wr ∧ (∀ k, k = b ∨ k = bS ∨ k = bN → wr.heap[k]? = W.heap[k]?) ∧ W.heap.size ≤ wr.heap.size) (fun i _ => vs.length - (intOf i).toNat)
  case atStart => exact ⟨0, _, [], by omega, rfl, by simp, h0, fun _ _ => rfl, Nat.le_refl _⟩
  case round =>
    obtain ⟨m, O, pre, hm, rfl, hmp, hJo, hsame, hsz⟩ := hrel
    obtain ⟨wo, rfl⟩ : ∃ wo, wo = wr := ⟨_, rfl⟩
    have HMP := hid hmp
    have HJO := hid hJo
    have HSA := hid hsame
    have c0 := (World.cell?_of_block (a := ⟨bS, 0, none⟩) (hsame bS (by simp))).trans HC.out
    have c1 := (World.cell?_of_block (a := ⟨bN, 0, none⟩) (hsame bN (by simp))).trans HC2.out
    have HSW := hid (HS.out.same hsz (fun k hk _ => hsame k (by
      have := hk.1
      simp [Value.ownBlock] at this
      exact .inl this.symm)))
    have HKB := hid (show ∀ k, k = b ∨ k = bS ∨ k = bN → k < wo.heap.size by
      intro k hk
      rcases hk with rfl | rfl | rfl
      · obtain ⟨a, cap, e, _, hc⟩ := HSW.out
        rcases hc with hc | ⟨b2, o2, e2, hlt, hc⟩
        · omega
        · obtain ⟨e3, -, -⟩ := Value.slice.inj e
          rw [← e3] at e2
          injection e2 with e2
          injection e2 with e4 e5
          subst e4
          exact hlt
      · exact World.block_lt_of_cell? wo ⟨_, 0, none⟩ c0
      · exact World.block_lt_of_cell? wo ⟨_, 0, none⟩ c1)
    clear hmp hJo hsame h0
    by_cases hml : m < vs.length
    · refine wpIn_wide.2 ?_
      have hmI : (m : Int) < (vs.length : Int) := by omega
      go_upto_region 3 with fail
      go_cut [5] (fun x wx => x = .int .i64 (min L (vs.length - m) : Nat) ∧ wx.heap = wo.heap ∧ Below wo.heap.size wo wx)
      case first =>
        have hm0 : (0 : Int) ≤ (m : Int) := by omega
        have hmc : (m : Int) ≤ (cap : Int) := by omega
        have hml2 : (m : Int) ≤ (vs.length : Int) := by omega
        have hmn : m ≤ vs.length := by omega
        have hmne : ¬ m = cap := by omega
        go_region_held3 (fun w' => w'.cell? ⟨bS, 0, none⟩ = some (.slice (some ⟨b, off, none⟩) vs.length cap) ∧ w'.cell? ⟨bN, 0, none⟩ = some (.int .i64 (L : Int))) (exact ⟨c0, c1⟩) (fail)
        go_wp2_with fail
        all_goals
          go_meet
          exact ⟨congrArg (Value.int .i64) (by omega), rfl, (Below.refl _ _).drew⟩
      case rest =>
        obtain ⟨rfl, hwh, hbw⟩ := hcut
        obtain ⟨w2, rfl⟩ : ∃ w2, w2 = wc := ⟨_, rfl⟩
        obtain ⟨e, he⟩ : ∃ e, min L (vs.length - m) = e := ⟨_, rfl⟩
        rw [he]
        have he1 : e + m ≤ vs.length := by omega
        have he0 : 1 ≤ e := by omega
        have HE := hid he
        have k0 : w2.cell? ⟨bS, 0, none⟩ = some (.slice (some ⟨b, off, none⟩) vs.length cap) := bcs hbw c0
        obtain ⟨hpart, hplen⟩ := SlK.part HSW.out m e e (by omega) hp
        have HPT := hid (hpart.below hbw)
        have HPN := hid hplen
        have hJ2 := HJ.out O pre wo w2 HJO.out (Ch.of_below hbw)
        have hNx : NxC vs.length L pre (.slice (some ⟨b, off + m * 2, none⟩) e e) w2 := ⟨by rw [← HMP.out]; exact hml, _, by rw [← HMP.out, HE.out]; exact HPN.out, HPT.out⟩
        obtain ⟨fn, tmps, assign, body, hy, hR⟩ := HY.out _ pre _ w2 hJ2 hNx
        have HR := hid hR
        have HBW := hid hbw
        have k1 := bcs hbw c1
        have f1 : (m : Int) ≤ (m : Int) + (e : Int) := by omega
        have f2 : (m : Int) + (e : Int) ≤ (cap : Int) := by omega
        have f3 : m ≤ m + e := by omega
        have f4 : m + e ≤ cap := by omega
        have f5 : ¬ m + e = m := by omega
        have f6 : (m : Int) + (e : Int) ≤ 1000 := by omega
        have f7 : m + e - m = e := by omega
        clear he hR hJ2 hNx hpart hplen hbw hwh c0 c1
        go_upto_region 4 with fail
        refine (wpIn_wide (n := n)).1 ?_
        gi_wp2_with fail
        refine HR.out.mono ?_
        rintro e' W3 ⟨rfl, hJ3, hz3, hs3⟩
        have k1' := (World.cell?_of_block (a := ⟨bN, 0, none⟩) (hs3 bN (.inr (by simp)))).trans k1
        have HJ3 := hid hJ3
        have HS3 := hid hs3
        clear k0 k1 hJ3 hs3 HR hy
        have hmL : (m : Int) + (L : Int) ≤ 100 := by omega
        gi_wp2_with fail
        go_wp2_with fail
        refine ⟨⟨m + L, _, _, by omega, by go_num, ?_, HJ3.out, fun k hk => ?_, by have := HBW.out.size; omega⟩, by simp only [intOf]; omega⟩
        · rw [List.length_append, Nat.add_mul, HMP.out]; simp
        · have hkb := HKB.out k hk
          rw [HS3.out k (.inr hk), HBW.out.block k hkb, HSA.out k hk]
    · gi_wp2_with fail
      go_end0
      exact ⟨⟨_, rfl⟩, O, pre, by rw [← HMP.out]; omega, HJO.out⟩
end Go.Proofs.Ytjjphiecjhijiaa
