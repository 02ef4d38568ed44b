import Derived.Test.YtjjphiecjhijiaaPA
namespace Go.Proofs.Ytjjphiecjhijiaa
open Go.RowKit

/-- A job is three ints, as a machine is: its sheet, from when on, and by when. -/
abbrev Mach.agg (m : Mach) : Value := .agg #[.int .i64 m.cold, .int .i64 m.power, .int .i64 m.start]
def badJ (j : Mach) : Bool := !inB j.cold 0 7 || decide (j.power < 0) || !inB j.start (j.power + 1) 500

set_option maxHeartbeats 400000 in
theorem checkJobs1_any (j : Mach) (w : World) (hb : j.power ≤ 1000000) :
    Calls Try.prog 16 #[j.agg] w fun e w' => e = .returned (.bool (badJ j)) ∧ Below w.heap.size w w' := by
  obtain ⟨s, f, d⟩ := j
  simp only at hb
  go_enter Try.func16, Try.ntmps16
  go_upto_region 1 with fail
  obtain ⟨W0, e0, hz0', hb0, hc0, hf0⟩ := box_new w #[.int .i64 s, .int .i64 f, .int .i64 d] 30
  rw [e0]
  clear e0
  have x0 : W0.cell? ⟨w.heap.size, 0, none⟩ = some (.int .i64 s) := hc0 0
  have x1 : W0.cell? ⟨w.heap.size, 1, none⟩ = some (.int .i64 f) := hc0 1
  have x2 : W0.cell? ⟨w.heap.size, 2, none⟩ = some (.int .i64 d) := hc0 2
  clear hc0 hf0
  have HB := hid hb0
  have HJ := hid (show badJ ⟨s, f, d⟩ = (!inB s 0 7 || decide (f < 0) || !inB d (f + 1) 500) from rfl)
  clear hb0
  have H1 := hid (within_any s 0 7 W0)
  generalize inB s 0 7 = b1 at *
  have H2 := hid (within_any d (f + 1) 500 W0)
  generalize inB d (f + 1) 500 = b2 at *
  generalize hb2 : decide (f < 0) = b3 at *
  cases b1
  · go_wp2_with fail
    refine H1.out.mono ?_
    rintro e w' ⟨rfl, rfl⟩
    go_wp2_with fail
    go_ret
    exact ⟨by rw [HJ.out]; rfl, HB.out⟩
  · cases b3
    · have hf0 : 0 ≤ f := by simpa using hb2
      have hw : IntKind.i64.wrap (f + 1) = f + 1 := IntWalk.i64_in _ (by omega)
      go_wp2_with fail
      refine H1.out.mono ?_
      rintro e w' ⟨rfl, rfl⟩
      go_wp2_with fail
      refine H2.out.mono ?_
      rintro e w' ⟨rfl, rfl⟩
      go_wp2_with fail
      go_ret
      exact ⟨by rw [HJ.out]; rfl, HB.out⟩
    · go_wp2_with fail
      refine H1.out.mono ?_
      rintro e w' ⟨rfl, rfl⟩
      go_wp2_with fail
      go_ret
      exact ⟨by rw [HJ.out]; rfl, HB.out⟩

/-- slices.IndexFunc over jobs. -/
theorem index_job (p : Mach → Bool) (v : Value) (l : List Mach) (w : World) (hs : SlM w v l)
    (hf : ∀ x ∈ l, ∀ w1, Below w.heap.size w w1 → Calls Try.prog 16 #[x.agg] w1 fun e w2 => e = .returned (.bool (p x)) ∧ Below w1.heap.size w1 w2) :
    Calls Try.prog 33 #[v, .func (.func 16) #[] #[]] w fun e w' => e = .returned (.int .i64 (idxOf p l)) ∧ Below w.heap.size w w' := by
  obtain ⟨a, cap, rfl, hl, hc⟩ := hs.open
  clear hs
  have HF := hid hf
  have HC := hid hc
  clear hf hc
  go_enter Try.func33, Try.ntmps33
  go_wp2
  go_loopw [8] (fun i wr => ∃ k : Nat, k ≤ l.length ∧ i = .int .i64 k ∧ Below w.heap.size w wr ∧ ∀ j (h : j < l.length), j < k → p l[j] = false) (fun i _ => l.length - (intOf i).toNat)
  case atStart => exact ⟨0, Nat.zero_le _, rfl, Below.refl _ _, by omega⟩
  case round =>
    obtain ⟨k, hk, rfl, hb, hno⟩ := hrel
    have HN := hid hno
    clear hno
    by_cases hlt : k < l.length
    · obtain ⟨b, off, rfl, hbl, hc⟩ := HC.out k hlt
      have hx0 := (hb.cell (p := ⟨b, off + k * 3, none⟩) hbl).trans (hc k hlt).1
      have hx1 := (hb.cell (p := ⟨b, off + k * 3 + 1, none⟩) hbl).trans (hc k hlt).2.1
      have hx2 := (hb.cell (p := ⟨b, off + k * 3 + 2, none⟩) hbl).trans (hc k hlt).2.2
      have hcall := hid (HF.out l[k] (List.getElem_mem _) wr hb)
      clear hc HC
      generalize hxe : l[k] = x at *
      have HX := hid hxe
      clear hxe
      go_wp2_with fail
      refine hcall.out.mono ?_
      rintro e w' ⟨rfl, hb2⟩
      clear hcall
      by_cases hp : p x = true
      · go_wp2
        go_ret
        exact ⟨ret_int (idxOf_hit p l k hlt HN.out (by rw [HX.out]; exact hp)).symm, hb.trans (hb2.mono hb.size)⟩
      · have hp' : p x = false := by simpa using hp
        go_wp2
        go_roundw
        case rel =>
          refine ⟨k + 1, by omega, by go_num, hb.trans (hb2.mono hb.size), ?_⟩
          intro j hj hjk
          by_cases e : j = k
          · subst e; rw [HX.out]; exact hp'
          · exact HN.out j hj (by omega)
        case measure => simp [intOf]; omega
    · go_wp2
      go_ret
      have hkl : k = l.length := by omega
      exact ⟨ret_int (idxOf_none p l (fun j hj => HN.out j hj (by omega))).symm, hb⟩
theorem contains_job (p : Mach → Bool) (v : Value) (l : List Mach) (w : World) (hs : SlM w v l)
    (hf : ∀ x ∈ l, ∀ w1, Below w.heap.size w w1 → Calls Try.prog 16 #[x.agg] w1 fun e w2 => e = .returned (.bool (p x)) ∧ Below w1.heap.size w1 w2) :
    Calls Try.prog 15 #[v, .func (.func 16) #[] #[]] w fun e w' => e = .returned (.bool (l.any p)) ∧ Below w.heap.size w w' := by
  have H := index_job p v l w hs hf
  have HA := hid (idxOf_any p l)
  generalize idxOf p l = n at *
  clear hf hs
  go_enter Try.func15, Try.ntmps15
  go_wp2_with fail
  refine H.mono ?_
  rintro e w' ⟨rfl, hb⟩
  go_wp2
  go_ret
  exact ⟨ret_bool HA.out, hb⟩
def jobsOk (l : List Mach) : Bool := decide (l.length ≤ 200) && !l.any badJ
/-- plant.CheckJobs -/
theorem checkJobs_any (v : Value) (l : List Mach) (w : World) (hs : SlM w v l) (hb : ∀ j ∈ l, j.power ≤ 1000000) :
    Calls Try.prog 6 #[v] w fun e w' => e = .returned (.bool (jobsOk l)) ∧ Below w.heap.size w w' := by
  have H := contains_job badJ v l w hs (fun x hx w1 _ => checkJobs1_any x w1 (hb x hx))
  obtain ⟨a, cap, rfl, hl, hc⟩ := hs.open
  have HJ := hid (show jobsOk l = (decide (l.length ≤ 200) && !l.any badJ) from rfl)
  have HCC := hid H
  clear hs hb hc H
  generalize l.any badJ = b1 at *
  generalize jobsOk l = r at *
  by_cases h2 : l.length ≤ 200
  · have h2' : decide ((l.length : Int) ≤ 200) = true := by simp; omega
    go_enter Try.func6, Try.ntmps6
    go_wp2_with fail
    refine HCC.out.mono ?_
    rintro e w' ⟨rfl, hb⟩
    go_wp2_with fail
    go_ret
    exact ⟨by rw [HJ.out]; simp [h2], hb⟩
  · have h2' : decide ((l.length : Int) ≤ 200) = false := by simp; omega
    go_enter Try.func6, Try.ntmps6
    go_wp2_with fail
    go_ret
    exact ⟨by rw [HJ.out]; simp [h2], Below.refl _ _⟩
/-- plant.asked: the error for jobs and crews, or 0. -/
def askedE (l : List Mach) (c : Int) : Int := if jobsOk l then (if inB c 1 8 then 0 else 4) else 2
theorem asked_any (v : Value) (l : List Mach) (c : Int) (w : World) (hs : SlM w v l) (hb : ∀ j ∈ l, j.power ≤ 1000000) :
    Calls Try.prog 18 #[v, .int .i64 c] w fun e w' => e = .returned (.int .i64 (askedE l c)) ∧ Below w.heap.size w w' := by
  have H := hid (checkJobs_any v l w hs hb)
  have HA := hid (show askedE l c = if jobsOk l then (if inB c 1 8 then 0 else 4) else 2 from rfl)
  have HW := hid (fun w' => within_any c 1 8 w')
  generalize askedE l c = r at *
  generalize jobsOk l = b1 at *
  generalize inB c 1 8 = b2 at *
  clear hs hb
  cases b1
  · go_enter Try.func18, Try.ntmps18
    go_wp2_with fail
    refine H.out.mono ?_
    rintro e w' ⟨rfl, hb⟩
    go_wp2_with fail
    go_ret
    exact ⟨by rw [HA.out]; rfl, hb⟩
  · cases b2
    all_goals
      go_enter Try.func18, Try.ntmps18
      go_wp2_with fail
      refine H.out.mono ?_
      rintro e w' ⟨rfl, hb⟩
      go_wp2_with fail
      refine (HW.out _).mono ?_
      rintro e w' ⟨rfl, rfl⟩
      go_wp2_with fail
      go_ret
      exact ⟨by rw [HA.out]; rfl, hb⟩
end Go.Proofs.Ytjjphiecjhijiaa
