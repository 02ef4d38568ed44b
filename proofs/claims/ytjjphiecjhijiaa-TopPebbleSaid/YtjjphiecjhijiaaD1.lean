/- league.pair, slices.Clone and slices.Chunk over pairs, league.rounds. -/
import Derived.Test.YtjjphiecjhijiaaPC
import Derived.Deep.CutBlock
namespace Go.Proofs.Ytjjphiecjhijiaa
open Go.RowKit

/-- Two numbers are returned. -/
def TwoN (w : World) (e : Ending) (w' : World) : Prop := (∃ x y : Int, e = .returned (.agg #[.int .i64 x, .int .i64 y])) ∧ Below w.heap.size w w'
theorem pair_any (a b : Int) (w : World) : Calls Try.prog 24 #[.int .i64 a, .int .i64 b] w (TwoN w) := by
  go_enter Try.func24, Try.ntmps24
  go_wp2
  all_goals
    refine bodyPost_ret (v := .agg #[.int .i64 _, .int .i64 _]) (by simp [results, Try.results24, go_sem]; exact ⟨rfl, rfl⟩) rfl ⟨⟨_, _, rfl⟩, (Below.refl _ _).alloc (Nat.le_refl _) _⟩
theorem within_l (n a b : Int) (w : World) :
    Calls Try.prog 9 #[.int .i64 n, .int .i64 a, .int .i64 b] w fun e w' => e = .returned (.bool (inB n a b)) ∧ w = w' := by
  go_enter Try.func9, Try.ntmps9
  go_wp2
  all_goals (go_ret; exact ⟨ret_bool (by simp [inB, *]; try omega), rfl⟩)
theorem chunk_any (a : Option Addr) (k cap : Nat) (n : Int) (hn : 1 ≤ n) (w : World) : Calls Try.prog 11 #[.slice a k cap, .int .i64 n] w fun e w' => e = .returned (.func (.func 25) #[] #[.pointer (some ⟨w.heap.size, 0, none⟩), .pointer (some ⟨w.heap.size + 1, 0, none⟩)]) ∧ w' = (w.alloc (.cells #[.slice a k cap] 28)).alloc (.cells #[.int .i64 n] 3) := by
  have hmf : ∀ (fn : Fn) (first cap : Array Value) (w : World), (Instr.makeFunc fn first cap).run Try.prog w = .ok (.func fn first cap) w := fun _ _ _ _ => rfl
  go_enter Try.func11, Try.ntmps11
  go_wp2
  go_ret
  exact ⟨rfl, rfl⟩
theorem rounds_any (n : Int) (w : World) : Calls Try.prog 10 #[.int .i64 n] w fun e w' => e = .returned (.func (.func 23) #[] #[.pointer (some ⟨w.heap.size, 0, none⟩)]) ∧ w' = w.alloc (.cells #[.int .i64 n] 3) := by
  have hmf : ∀ (fn : Fn) (first cap : Array Value) (w : World), (Instr.makeFunc fn first cap).run Try.prog w = .ok (.func fn first cap) w := fun _ _ _ _ => rfl
  go_enter Try.func10, Try.ntmps10
  go_wp2
  go_ret
  exact ⟨rfl, rfl⟩
/-- A slice of so many elements is returned. -/
def LenN (n : Nat) (w : World) (e : Ending) (w' : World) : Prop := (∃ ad cap, e = .returned (.slice ad n cap)) ∧ Below w.heap.size w w'
theorem clone_any (v : Value) (vs : List (Int × Int)) (w : World) (hs : SlK w v vs) (h0 : 0 < vs.length) (h1 : vs.length ≤ 1000) :
    Calls Try.prog 12 #[v] w (LenN vs.length w) := by
  have HS := hid hs
  obtain ⟨a, cap, rfl, hn, hc⟩ := hs
  rcases hc with hc | ⟨b, off, rfl, hlt, hc⟩
  · omega
  clear hc
  have hne : ∀ W : World, (binOp .eql 28 (.slice (some ⟨b, off, none⟩) vs.length cap) (.slice none 0 0)).run Try.prog W = .ok (.bool false) W := fun W => by
    have := Lib.run_eql_slice_nil (P := Try.prog) W 28 43 (some ⟨b, off, none⟩) vs.length cap 0 0 Try.underlying28
    simpa using this
  go_enter Try.func12, Try.ntmps12
  obtain ⟨i0, hi, hz0, hz1, hz2⟩ := info_parts info43
  have hcells : ∀ j u, (vs.flatMap cells2)[j]? = some u → (w.alloc (.cells #[] 43)).cell? ((⟨b, off, none⟩ : Addr).add j) = some u := by
    intro j u hu
    obtain ⟨h1, h2⟩ := List.getElem?_eq_some_iff.1 hu
    rw [← h2, Addr.add_lit]
    have hb := (HS.out).below ((Below.refl w.heap.size w).alloc (Nat.le_refl _) (.cells #[] 43))
    obtain ⟨a, c, e, _, hc⟩ := hb
    obtain ⟨e1, -, -⟩ := Value.slice.inj e
    rcases hc with hc | ⟨b2, o2, e2, _, hc⟩
    · omega
    · rw [← e1] at e2
      injection e2 with e2
      injection e2 with e3 e4
      subst e3 e4
      exact hc j h1
  have hone : ∀ u ∈ vs.flatMap cells2, u.oneCell' = true := by
    intro u hu
    obtain ⟨z, _, hz⟩ := List.mem_flatMap.1 hu
    simp [cells2] at hz
    rcases hz with rfl | rfl <;> rfl
  have hlen := cells2_length vs
  have hown : (w.alloc (.cells #[] 43)).ownsRow w.heap.size 43 2 (.slice (some ⟨w.heap.size, 0, none⟩) 0 0) 0 [] := World.ownsRow_made w #[] 0 (Nat.le_refl _) (by simp [maxLen]) rfl
  have HC := hid hcells
  have HO := hid hone
  have HW := hid hown
  have HL := hid hlen
  clear hcells hone hown hlen
  go_wp2_with (at_builtin; refine wpList_append_lies _ rfl _ _ 28 rfl w.heap.size 43 i0 (.agg #[.int .i64 0, .int .i64 0]) 2 16 Try.underlying28 hi hz0 hz1 hz2 rfl (by omega) _ 0 [] rfl HW.out ⟨b, off, none⟩ vs.length cap (vs.flatMap cells2) rfl HL.out HC.out HO.out h0 (by unfold maxLen; omega) (by omega) (by simp) (w.heap.size + 1) (by simp) ?_; intro g cap2 w2 _ hg _ _)
  go_ret
  exact ⟨⟨_, _, rfl⟩, ((Below.refl w.heap.size w).alloc (Nat.le_refl _) _).grown hg (by simp) (fun k e => by
    have e' : some w.heap.size = some k := e
    injection e' with e'
    omega)⟩

theorem own_cap {w : World} {base sz n : Nat} {e : TypeId} {v : Value} {xs : List Value} (h : w.ownsRow base e sz v n xs) : ∃ ad cap, v = .slice ad n cap ∧ n ≤ cap := by
  rcases h.2 with ⟨e, h0⟩ | ⟨g, cap, cur, e, _, _, hle, _⟩
  · exact ⟨none, 0, by rw [e, h0], by omega⟩
  · exact ⟨_, cap, e, hle⟩
theorem own_type {w : World} {base sz n : Nat} {e : TypeId} {v : Value} {xs : List Value} (h : w.ownsRow base e sz v n xs) : ∀ b, v.ownBlock = some b → ∃ cur, w.heap[b]? = some (.cells cur e (0, 0)) := by
  intro b hb
  rcases h.2 with ⟨e, h0⟩ | ⟨g, cap, cur, e, _, hg, hle, _⟩
  · rw [e] at hb; cases hb
  · rw [e] at hb
    cases hb
    exact ⟨cur, hg⟩
/-- How many games a round has, and how many rounds there are. -/
def circleN (n : Nat) : Nat := n - 1 + n % 2
def gamesN (n : Nat) : Nat := n / 2
/-- What comes: the rounds, each a slice of so many pairs. -/
def NxR (n : Nat) (pre : List Value) (v : Value) (W : World) : Prop := pre.length < circleN n ∧ ∃ vs : List (Int × Int), vs.length = gamesN n ∧ SlK W v vs ∧ (∃ ad cap, v = .slice ad vs.length cap ∧ vs.length ≤ cap) ∧ ∀ b, v.ownBlock = some b → ∃ cur, W.heap[b]? = some (.cells cur 43 (0, 0))
set_option maxRecDepth 100000 in
set_option maxHeartbeats 2000000 in
theorem rounds1_in (n : Nat) (hn : 1 ≤ n) (l bT : Nat) (tm : Nat) (h2 : 2 ≤ tm) (h16 : tm ≤ 16) (J : (Nat → Prop) → List Value → World → Prop) (W : World)
    (hc : W.cell? ⟨bT, 0, none⟩ = some (.int .i64 (tm : Int)))
    (hJ : ∀ O pre W1 W2, J O pre W1 → Ch O W1 W2 → J (NewO O W1 W2) pre W2)
    (hY : ∀ O pre x W1, J O pre W1 → NxR tm pre x W1 → YieldAt Fence.wide (n - 1) Try.prog l #[x] W1 fun e W' =>
      e = .returned (.bool true) ∧ J O (pre ++ [x]) W' ∧ W1.heap.size ≤ W'.heap.size ∧ ∀ k, O k ∨ k = bT → W'.heap[k]? = W1.heap[k]?)
    (h0 : J (fun _ => False) [] W) :
    CallsIn Fence.wide n Try.prog 23 #[.func (.yield l) #[] #[], .pointer (some ⟨bT, 0, none⟩)] W fun e W' => (∃ v, e = .returned v) ∧ ∃ O pre, pre.length = circleN tm ∧ J O pre W' := by
  have HJ := hid hJ
  have HY := hid hY
  have HC := hid hc
  clear hJ hY
  refine callsIn_of_wp Try.func23 rfl trivial ?_ rfl
  simp only [Try.ntmps23, List.size_toArray, List.length_cons, List.length_nil, Nat.reduceAdd, Nat.reduceSub, Array.replicate_succ, Array.replicate_zero, List.push_toArray, List.append_toArray, List.nil_append, List.cons_append]
  gi_wp2_with fail
  obtain ⟨C, hC⟩ : ∃ C, circleN tm = C := ⟨_, rfl⟩
  have hCe : (tm : Int) - 1 + (tm : Int) % 2 = (C : Int) := by rw [← hC]; unfold circleN; omega
  have hCb : 1 ≤ C ∧ C ≤ 16 ∧ C % 2 = 1 := by rw [← hC]; unfold circleN; omega
  have HG := hid (show (C < tm ∧ gamesN tm = 1 + (C - 1) / 2) ∨ (¬ C < tm ∧ gamesN tm = (C - 1) / 2) by
    rw [← hC]; unfold circleN gamesN; omega)
  rw [hCe]
  have HCE := hid hC
  clear hCe hC
  obtain ⟨hC1, hC2, hC3⟩ := hCb
  have HC3 := hid hC3
  clear hC3
  gi_loopw [13] (fun i wr => ∃ (k : Nat) (O : Nat → Prop) (pre : List Value), k ≤ C ∧ i = .int .i64 k ∧ pre.length = k ∧ J O pre wr ∧ wr.heap[bT]? = W.heap[bT]?) (fun i _ => C - (intOf i).toNat)
  case atStart => exact ⟨0, _, [], Nat.zero_le _, rfl, rfl, h0, rfl⟩
  case round =>
    obtain ⟨r, O, pre, hr, rfl, hpl, hJo, hbT⟩ := hrel
    obtain ⟨wo, rfl⟩ : ∃ wo, wo = wr := ⟨_, rfl⟩
    have HPL := hid hpl
    have HJO := hid hJo
    have HBT := hid hbT
    have HBL := hid (show bT < wo.heap.size from World.block_lt_of_cell? wo ⟨bT, 0, none⟩ ((World.cell?_of_block (a := ⟨bT, 0, none⟩) hbT).trans HC.out))
    have c0 := (World.cell?_of_block (a := ⟨bT, 0, none⟩) hbT).trans HC.out
    clear hpl hJo hbT h0 hc
    by_cases hrl : r < C
    · refine wpIn_wide.2 ?_
      obtain ⟨i0, hi, hz0, hz1, hz2⟩ := info_parts info43
      obtain ⟨E0, hE0⟩ : ∃ E0, (if C < tm then 1 else 0) = E0 := ⟨_, rfl⟩
      have HE0 := hid hE0
      clear hE0
      go_upto_if 18 with fail
      go_cut [5] (fun v wx => ∃ vs : List (Int × Int), vs.length = E0 ∧ wx.ownsRow wo.heap.size 43 2 v vs.length (vs.flatMap cells2) ∧ Below wo.heap.size wo wx)
      case first =>
        by_cases hE : C < tm
        · go_wp2_with (first
            | (go_at_call 24; refine (pair_any _ _ _).mono ?_; rintro e w3 ⟨⟨x, y, rfl⟩, hb3⟩)
            | (at_builtin; refine wpList_append_lies _ rfl _ _ 28 rfl wo.heap.size 43 i0 (.agg #[.int .i64 0, .int .i64 0]) 2 16 Try.underlying28 hi hz0 hz1 hz2 rfl (by omega) (.slice none 0 0) 0 [] rfl (World.ownsRow_nil _ _ _ _) ⟨w3.heap.size, 0, none⟩ 1 1 [.int .i64 x, .int .i64 y] rfl rfl (by intro j u hj; match j, hj with | 0, hj => simp at hj; subst hj; simp [Addr.add, go_sem] | 1, hj => simp at hj; subst hj; simp [Addr.add, go_sem]) (by intro u hu; simp at hu; rcases hu with rfl | rfl <;> rfl) (by omega) (by unfold maxLen; omega) (by omega) (by have := hb3.size; simp; omega) (w3.heap.size + 1) (by simp) ?_; intro g cap3 w8 hown8 hgrow8 hat8 hlt8))
          go_meet
          refine ⟨[(x, y)], by rw [← HE0.out, if_pos hE]; rfl, hown8, ?_⟩
          exact ((hb3.alloc hb3.size _).grown hgrow8 (by have := hb3.size; simp; omega) (fun k e => by cases e))
        · go_wp2_with fail
          go_meet
          exact ⟨[], by rw [← HE0.out, if_neg hE]; rfl, World.ownsRow_nil _ _ _ _, Below.refl _ _⟩
      case rest =>
        obtain ⟨vs0, hv0, hown0, hb0⟩ := hcut
        obtain ⟨w1, rfl⟩ : ∃ w1, w1 = wc := ⟨_, rfl⟩
        have HV0 := hid hv0
        have HOW0 := hid hown0
        have HB0 := hid hb0
        clear hv0 hown0 hb0 c0
        go_wp2_with fail
        go_loopw [5, 6] (fun v i wr => ∃ (k : Nat) (vs : List (Int × Int)), 1 ≤ k ∧ 2 * (k - 1) < C ∧ i = .int .i64 k ∧ vs.length = E0 + (k - 1) ∧ wr.ownsRow wo.heap.size 43 2 v vs.length (vs.flatMap cells2) ∧ Below wo.heap.size wo wr) (fun _ i _ => C - (intOf i).toNat)
        case atStart => exact ⟨1, vs0, by omega, by omega, rfl, HV0.out, HOW0.out, HB0.out⟩
        case round =>
          obtain ⟨k, vs, hk1, hk2, rfl, hvl, hown, hb⟩ := hrel
          obtain ⟨w2, rfl⟩ : ∃ w2, w2 = wr := ⟨_, rfl⟩
          have HVL := hid hvl
          have HOWN := hid hown
          have HB := hid hb
          have hE01 : E0 ≤ 1 := by rw [← HE0.out]; split <;> omega
          have hvs : vs.length ≤ 20 := by omega
          clear hvl hown hb
          by_cases hkc : 2 * k < C
          · have hkI : 2 * (k : Int) < (C : Int) := by omega
            have hCz : ¬ C = 0 := by omega
            have hw1 : IntKind.i64.wrap ((r : Int) + (k : Int)) = (r : Int) + (k : Int) := IntWalk.i64_in _ (by omega)
            have hw2 : IntKind.i64.wrap ((r : Int) + (C : Int)) = (r : Int) + (C : Int) := IntWalk.i64_in _ (by omega)
            have hw3 : IntKind.i64.wrap ((r : Int) + (C : Int) - (k : Int)) = (r : Int) + (C : Int) - (k : Int) := IntWalk.i64_in _ (by omega)
            go_upto_region 10 with fail
            go_region_held3 (fun _ => True) (trivial) ((first
                | (go_at_call 24; refine (pair_any _ _ _).mono ?_; rintro e w3 ⟨⟨x, y, rfl⟩, hb3'⟩; have hb3 := ((Below.refl w2.heap.size w2).drew).trans hb3'; clear hb3')
                | (have q3 := hb3; clear q3; refine step_append_lies _ (by rfl) (.tmp 31) (.tmp 45) 28 (by rfl) wo.heap.size 43 i0 (.agg #[.int .i64 0, .int .i64 0]) 2 16 Try.underlying28 hi hz0 hz1 hz2 rfl (by omega) _ vs.length (vs.flatMap cells2) (by rfl) ((own_below HOWN.out hb3).alloc _) ⟨w3.heap.size, 0, none⟩ 1 1 [.int .i64 x, .int .i64 y] (by rfl) rfl (by intro j u hj; match j, hj with | 0, hj => simp at hj; subst hj; simp [Addr.add, go_sem] | 1, hj => simp at hj; subst hj; simp [Addr.add, go_sem]) (by intro u hu; simp at hu; rcases hu with rfl | rfl <;> rfl) (by omega) (by unfold maxLen; omega) (by omega) (by have := hb3.size; have := HB.out.size; simp; omega) (w3.heap.size + 1) (by simp) ?_; intro g cap3 w8 hown8 hgrow8 hat8 hlt8)))
            clear hw1 hw2 hw3
            have H8 := hid hown8
            have HB8 := hid ((HB.out.trans ((hb3.alloc hb3.size _).mono HB.out.size)).grown hgrow8 (by have := hb3.size; have := HB.out.size; simp; omega) (fun j e => ((own_below HOWN.out hb3).lt j e).1))
            clear hown8 hgrow8 hat8 hlt8
            go_wp2_with fail
            have e3 : (vs ++ [(x, y)]).length = vs.length + 1 := by simp
            refine ⟨⟨k + 1, vs ++ [(x, y)], by omega, by omega, by go_num, by rw [e3, HVL.out]; omega, ?_, HB8.out⟩, by simp only [intOf]; omega⟩
            rw [e3, List.flatMap_append]
            exact H8.out
          · have hkI : ¬ 2 * (k : Int) < (C : Int) := by omega
            go_upto_region 11 with fail
            refine (wpIn_wide (n := n)).1 ?_
            have hgl : vs.length = gamesN tm := by
              have h1 := HVL.out
              have h2 := HC3.out
              have h3 := HE0.out
              rcases HG.out with ⟨ha, hb⟩ | ⟨ha, hb⟩
              · rw [if_pos ha] at h3; omega
              · rw [if_neg ha] at h3; omega
            have hJ2 := HJ.out O pre wo w2 HJO.out (Ch.of_below HB.out)
            obtain ⟨fn, tmps, assign, body, hy, hR⟩ := HY.out _ pre u5 w2 hJ2 ⟨by rw [HPL.out, HCE.out]; exact hrl, vs, hgl, own_SlK HOWN.out (by omega), own_cap HOWN.out, own_type HOWN.out⟩
            have HR := hid hR
            clear hR hJ2 hgl
            gi_wp2_with fail
            refine HR.out.mono ?_
            rintro e W3 ⟨rfl, hJ3, hz3, hs3⟩
            gi_wp2_with fail
            go_wp2_with fail
            refine ⟨⟨r + 1, _, _, by omega, by go_num, ?_, hJ3, (hs3 bT (.inr rfl)).trans ?_⟩, by simp only [intOf]; omega⟩
            · rw [List.length_append, HPL.out]; rfl
            · exact (HB.out.block bT HBL.out).trans HBT.out
    · gi_wp2_with fail
      go_end0
      exact ⟨⟨_, rfl⟩, O, pre, by rw [HPL.out, HCE.out]; omega, HJO.out⟩

end Go.Proofs.Ytjjphiecjhijiaa
