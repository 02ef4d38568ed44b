import Derived.Test.YtjjphiecjhijiaaDoorQ1
namespace Go.Proofs.YtjjphiecjhijiaaDoor
open Go.RowKit

/-- A slice of slices of ints. -/
def SlR (w : World) (v : Value) (rs : List (List Int)) : Prop := ∃ vs : List Value, vs.length = rs.length ∧ SlV w v rs.length vs ∧ ∀ j (h : j < rs.length) (h' : j < vs.length), SlI w vs[j] rs[j]
theorem SlR.below {w w' : World} {v : Value} {rs : List (List Int)} (h : SlR w v rs) (hb : Below w.heap.size w w') : SlR w' v rs := by
  obtain ⟨vs, h1, h2, h3⟩ := h
  exact ⟨vs, h1, h2.below hb, fun j h h' => (h3 j h h').below hb⟩
theorem SlR.open {w : World} {v : Value} {rs : List (List Int)} (h : SlR w v rs) :
    ∃ a cap, v = .slice a rs.length cap ∧ rs.length ≤ 140737488351232 ∧ ∀ k (hk : k < rs.length), ∃ b off u, a = some ⟨b, off, none⟩ ∧ b < w.heap.size ∧ w.cell? ⟨b, off + k, none⟩ = some u ∧ SlI w u rs[k] := by
  obtain ⟨vs, h1, ⟨a, cap, rfl, hn, hc⟩, h3⟩ := h
  refine ⟨a, cap, rfl, hn, fun k hk => ?_⟩
  rcases hc with hc | ⟨b, off, rfl, hlt, hc⟩
  · omega
  · exact ⟨b, off, vs[k]'(by omega), rfl, hlt, hc k (by omega), h3 k hk (by omega)⟩

theorem nodup_snoc {l : List Int} {x : Int} (h : l.Nodup) (hx : x ∉ l) : (l ++ [x]).Nodup := by
  rw [List.nodup_append]
  refine ⟨h, by simp, ?_⟩
  intro a ha b hb
  simp at hb
  subst hb
  exact fun e => hx (e ▸ ha)
theorem take_get (l : List Int) (k : Nat) (h : k < l.length) : l.take (k + 1) = l.take k ++ [l[k]] := List.take_succ_eq_append_getElem h

set_option maxRecDepth 100000 in
set_option maxHeartbeats 400000 in
/-- plant.CheckRotation$1 -/
theorem round_any (n : Nat) (v : Value) (l : List Int) (nb : Nat) (w : World) (hn1 : 1 ≤ n) (hn8 : n ≤ 8) (hs : SlI w v l) (hc : w.cell? ⟨nb, 0, none⟩ = some (.int .i64 (n : Int))) :
    Calls Tryd.prog 61 #[v, .pointer (some ⟨nb, 0, none⟩)] w fun e w' => e = .returned (.bool (!roundB n l)) ∧ w = w' := by
  obtain ⟨a, cap, rfl, hl, hcc⟩ := hs.open
  have HC := hid hcc
  have HR := hid (show roundB n l = ((l.all (fun x => inB x 0 ((n : Int) - 1)) && decide l.Nodup) && (l.length : Int) == n) from rfl)
  generalize roundB n l = rb at *
  clear hs hcc
  go_enter Tryd.func61, Tryd.ntmps61
  go_wp2_with fail
  go_loop [4, 9] (fun s i => ∃ (k x : Nat), k ≤ l.length ∧ i = .int .i64 k ∧ s = .int .u64 x ∧ x < 256 ∧ (∀ y ∈ l.take k, inB y 0 ((n : Int) - 1) = true) ∧ (l.take k).Nodup ∧ ∀ j : Nat, x.testBit j = true ↔ (j : Int) ∈ l.take k) (fun _ i => l.length - (intOf i).toNat)
  case atStart => exact ⟨0, 0, Nat.zero_le _, rfl, rfl, by omega, by simp, by simp, by simp⟩
  case round =>
    obtain ⟨k, x, hk, rfl, rfl, hx, hin, hnd, hbit⟩ := hrel
    have HIN := hid (And.intro hin (And.intro hnd hbit))
    clear hin hnd hbit
    by_cases hlt : k < l.length
    · obtain ⟨b, off, rfl, hbl, hcc⟩ := HC.out k hlt
      have hx0 := hcc k hlt
      have htk := take_get l k hlt
      have hmem : l[k] ∈ l := List.getElem_mem _
      have HTK := hid (And.intro htk hmem)
      clear htk hmem hcc
      generalize hy : l[k] = y at *
      have HY := hid hy
      clear hy
      have hwi := within_any y 0 ((n : Int) - 1) w
      cases hib : inB y 0 ((n : Int) - 1) with
      | false =>
        rw [hib] at hwi
        go_wp2_with fail
        refine hwi.mono ?_
        rintro e w' ⟨rfl, rfl⟩
        go_wp2_with fail
        go_ret
        refine ⟨?_, rfl⟩
        have : l.all (fun x => inB x 0 ((n : Int) - 1)) = false := List.all_eq_false.2 ⟨y, HTK.out.2, by simp [hib]⟩
        rw [HR.out, this]; rfl
      | true =>
        rw [hib] at hwi
        obtain ⟨yn, rfl⟩ : ∃ yn : Nat, y = (yn : Int) := by
          simp [inB] at hib
          exact ⟨y.toNat, by omega⟩
        have hyn : yn < 8 := by simp [inB] at hib; omega
        have HIB := hid hib
        clear hib
        have hhas := has_p x yn w (by omega) (by omega)
        have hwith := with_p x yn w (by omega) (by omega)
        cases hb : x.testBit yn with
        | true =>
          rw [hb] at hhas
          go_wp2_with fail
          refine hwi.mono ?_
          rintro e w' ⟨rfl, rfl⟩
          go_wp2_with fail
          refine hhas.mono ?_
          rintro e w' ⟨rfl, rfl⟩
          go_wp2_with fail
          go_ret
          refine ⟨?_, rfl⟩
          have hnn : decide l.Nodup = false := by
            rw [decide_eq_false_iff_not]
            intro hd
            have h1 := List.Nodup.sublist (List.take_sublist (k + 1) l) hd
            rw [HTK.out.1, List.nodup_append] at h1
            exact h1.2.2 _ ((HIN.out.2.2 yn).1 hb) _ (by simp) rfl
          rw [HR.out, hnn]; simp
        | false =>
          rw [hb] at hhas
          have hib := ins_bit x yn
          have hil : ins x yn < 256 := by
            unfold ins
            have : 2 ^ yn < 2 ^ 8 := Nat.pow_lt_pow_right (by decide) hyn
            exact Nat.or_lt_two_pow (n := 8) hx this
          have HB := hid (And.intro hb hib)
          clear hb hib
          generalize ins x yn = x2 at *
          go_wp2_with fail
          refine hwi.mono ?_
          rintro e w' ⟨rfl, rfl⟩
          go_wp2_with fail
          refine hhas.mono ?_
          rintro e w' ⟨rfl, rfl⟩
          go_wp2_with fail
          refine hwith.mono ?_
          rintro e w' ⟨rfl, rfl⟩
          go_wp2_with fail
          refine ⟨⟨k + 1, x2, by omega, by go_num, rfl, hil, ?_, ?_, ?_⟩, by simp [intOf]; omega⟩
          · intro z hz
            rw [HTK.out.1] at hz
            rcases List.mem_append.1 hz with hz | hz
            · exact HIN.out.1 z hz
            · simp at hz; rw [hz]; exact HIB.out
          · rw [HTK.out.1]
            refine nodup_snoc HIN.out.2.1 (fun hm => ?_)
            have := (HIN.out.2.2 yn).2 hm
            rw [HB.out.1] at this; cases this
          · intro j
            rw [HTK.out.1, HB.out.2 j, List.mem_append, Bool.or_eq_true, HIN.out.2.2 j]
            refine or_congr Iff.rfl ?_
            rw [decide_eq_true_eq, List.mem_singleton]; omega
    · obtain rfl : k = l.length := by omega
      have hfin := HIN.out
      rw [List.take_length] at hfin
      have hall : l.all (fun x => inB x 0 ((n : Int) - 1)) = true := List.all_eq_true.2 hfin.1
      have hnd : decide l.Nodup = true := decide_eq_true hfin.2.1
      rw [hall, hnd] at HR
      clear hfin hall hnd
      cases hb : ((l.length : Int) == (n : Int)) with
      | true =>
        have hb2 : ((l.length : Int) != (n : Int)) = false := by rw [bne, hb]; rfl
        go_wp2_with fail
        go_ret
        exact ⟨by rw [HR.out, hb]; rfl, rfl⟩
      | false =>
        have hb2 : ((l.length : Int) != (n : Int)) = true := by rw [bne, hb]; rfl
        go_wp2_with fail
        go_ret
        exact ⟨by rw [HR.out, hb]; rfl, rfl⟩

/-- slices.IndexFunc over rounds. -/
theorem index_round (n : Nat) (v : Value) (rs : List (List Int)) (nb : Nat) (w : World) (hn1 : 1 ≤ n) (hn8 : n ≤ 8) (hs : SlR w v rs) (hc : w.cell? ⟨nb, 0, none⟩ = some (.int .i64 (n : Int))) :
    Calls Tryd.prog 80 #[v, .func (.func 61) #[] #[.pointer (some ⟨nb, 0, none⟩)]] w fun e w' => e = .returned (.int .i64 (idxOf (fun l => !roundB n l) rs)) ∧ w = w' := by
  obtain ⟨a, cap, rfl, hl, hcc⟩ := hs.open
  have HC := hid hcc
  clear hs hcc
  go_enter Tryd.func80, Tryd.ntmps80
  go_wp2
  go_loop [8] (fun i => ∃ k : Nat, k ≤ rs.length ∧ i = .int .i64 k ∧ ∀ j (h : j < rs.length), j < k → (!roundB n rs[j]) = false) (fun i => rs.length - (intOf i).toNat)
  case atStart => exact ⟨0, Nat.zero_le _, rfl, by omega⟩
  case round =>
    obtain ⟨k, hk, rfl, hno⟩ := hrel
    have HN := hid hno
    clear hno
    by_cases hlt : k < rs.length
    · obtain ⟨b, off, u, rfl, hbl, hx0, hu⟩ := HC.out k hlt
      have hcall := hid (round_any n u rs[k] nb w hn1 hn8 hu hc)
      clear HC hu
      generalize hp : (!roundB n rs[k]) = p at *
      have HP := hid hp
      clear hp
      go_wp2_with fail
      refine hcall.out.mono ?_
      rintro e w' ⟨rfl, rfl⟩
      clear hcall
      cases p with
      | true =>
        go_wp2
        go_ret
        exact ⟨ret_int (idxOf_hit (fun l => !roundB n l) rs k hlt HN.out HP.out).symm, rfl⟩
      | false =>
        go_wp2
        go_round
        case rel =>
          refine ⟨k + 1, by omega, by go_num, ?_⟩
          intro j hj hjk
          by_cases e : j = k
          · subst e; exact HP.out
          · exact HN.out j hj (by omega)
        case measure => simp [intOf]; omega
    · go_wp2
      go_ret
      exact ⟨ret_int (idxOf_none (fun l => !roundB n l) rs (fun j hj => HN.out j hj (by omega))).symm, rfl⟩
theorem contains_round (n : Nat) (v : Value) (rs : List (List Int)) (nb : Nat) (w : World) (hn1 : 1 ≤ n) (hn8 : n ≤ 8) (hs : SlR w v rs) (hc : w.cell? ⟨nb, 0, none⟩ = some (.int .i64 (n : Int))) :
    Calls Tryd.prog 60 #[v, .func (.func 61) #[] #[.pointer (some ⟨nb, 0, none⟩)]] w fun e w' => e = .returned (.bool (rs.any (fun l => !roundB n l))) ∧ w = w' := by
  have H := index_round n v rs nb w hn1 hn8 hs hc
  have HA := hid (idxOf_any (fun l => !roundB n l) rs)
  generalize idxOf (fun l => !roundB n l) rs = m at *
  generalize rs.any (fun l => !roundB n l) = b at *
  clear hs
  go_enter Tryd.func60, Tryd.ntmps60
  go_wp2_with fail
  refine H.mono ?_
  rintro e w' ⟨rfl, rfl⟩
  go_wp2
  go_ret
  exact ⟨ret_bool HA.out, rfl⟩
set_option maxHeartbeats 400000 in
/-- plant.CheckRotation -/
theorem checkRot_any (n : Int) (v : Value) (rs : List (List Int)) (w : World) (hs : SlR w v rs) :
    Calls Tryd.prog 27 #[.int .i64 n, v] w fun e w' => e = .returned (.bool (rotB n rs)) ∧ Below w.heap.size w w' := by
  have HS := hid hs
  obtain ⟨a, cap, rfl, hl, hcc⟩ := hs.open
  have HW := hid (fun w' => within_any n 1 8 w')
  have HR := hid (show rotB n rs = ((inB n 1 8 && decide (rs.length ≤ 100)) && rs.all (roundB n)) from rfl)
  generalize rotB n rs = rb at *
  clear hs hcc
  have HB := hid (show inB n 1 8 = true → 1 ≤ n ∧ n ≤ 8 by intro h; simpa [inB] using h)
  cases hib : inB n 1 8 with
  | false =>
    rw [hib] at HW HR
    go_enter Tryd.func27, Tryd.ntmps27
    go_upto_region 1 with fail
    obtain ⟨W0, e0, hz0', hb0, hc0, hf0⟩ := box_new w #[.int .i64 n] 3
    rw [e0]
    clear e0
    have x0 : W0.cell? ⟨w.heap.size, 0, none⟩ = some (.int .i64 n) := hc0 0
    have HB0 := hid hb0
    clear hc0 hf0 hb0 hib
    go_wp2_with fail
    refine (HW.out _).mono ?_
    rintro e w' ⟨rfl, rfl⟩
    go_wp2_with fail
    go_ret
    exact ⟨by rw [HR.out]; rfl, HB0.out⟩
  | true =>
    have hn := HB.out hib
    rw [hib] at HW HR
    obtain ⟨m, rfl⟩ : ∃ m : Nat, n = (m : Int) := ⟨n.toNat, by omega⟩
    by_cases h2 : rs.length ≤ 100
    · have h2I : decide ((rs.length : Int) > 100) = false := by simp; omega
      have hany : rs.all (roundB m) = !rs.any (fun l => !roundB m l) := by
        rw [Bool.eq_iff_iff, Bool.not_eq_true', List.all_eq_true, List.any_eq_false]
        simp
      have HANY := hid hany
      clear hany
      have HC := hid (fun w' nb (h : SlR w' (.slice a rs.length cap) rs) h2 => contains_round m _ rs nb w' (by omega) (by omega) h h2)
      generalize rs.any (fun l => !roundB m l) = bb at *
      go_enter Tryd.func27, Tryd.ntmps27
      go_upto_region 1 with fail
      obtain ⟨W0, e0, hz0', hb0, hc0, hf0⟩ := box_new w #[.int .i64 (m : Int)] 3
      rw [e0]
      clear e0
      have x0 : W0.cell? ⟨w.heap.size, 0, none⟩ = some (.int .i64 (m : Int)) := hc0 0
      have HB0 := hid hb0
      clear hc0 hf0 hb0 hib
      go_wp2_with fail
      refine (HW.out _).mono ?_
      rintro e w' ⟨rfl, rfl⟩
      go_wp2_with fail
      refine (HC.out W0 _ (HS.out.below HB0.out) x0).mono ?_
      rintro e w' ⟨rfl, rfl⟩
      go_wp2_with fail
      go_ret
      exact ⟨by rw [HR.out, HANY.out]; simp [h2], HB0.out⟩
    · have h2I : decide ((rs.length : Int) > 100) = true := by simp; omega
      go_enter Tryd.func27, Tryd.ntmps27
      go_upto_region 1 with fail
      obtain ⟨W0, e0, hz0', hb0, hc0, hf0⟩ := box_new w #[.int .i64 (m : Int)] 3
      rw [e0]
      clear e0
      have x0 : W0.cell? ⟨w.heap.size, 0, none⟩ = some (.int .i64 (m : Int)) := hc0 0
      have HB0 := hid hb0
      clear hc0 hf0 hb0 hib
      go_wp2_with fail
      refine (HW.out _).mono ?_
      rintro e w' ⟨rfl, rfl⟩
      go_wp2_with fail
      go_ret
      exact ⟨by rw [HR.out]; simp [h2], HB0.out⟩
end Go.Proofs.YtjjphiecjhijiaaDoor
