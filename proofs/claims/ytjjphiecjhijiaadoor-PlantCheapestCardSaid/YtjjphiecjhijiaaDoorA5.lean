import Derived.Test.YtjjphiecjhijiaaDoorA4
namespace Go.Proofs.YtjjphiecjhijiaaDoor
open Go.RowKit

/-- besomref02.Ints -/
def sameI (a b : List Int) : Bool := decide (a = b)
theorem ints_any (v u : Value) (l m : List Int) (w : World) (h1 : SlI w v l) (h2 : SlI w u m) :
    Calls Tryd.prog 14 #[v, u] w fun e w' => e = .returned (.bool (sameI l m)) ∧ Below w.heap.size w w' := by
  obtain ⟨a1, c1, rfl, hl1, hc1⟩ := h1.open
  obtain ⟨a2, c2, rfl, hl2, hc2⟩ := h2.open
  have H1 := hid hc1
  have H2 := hid hc2
  clear h1 h2 hc1 hc2
  by_cases hlen : l.length = m.length
  · have hl' : ((l.length : Int) != m.length) = false := by simp [hlen]
    have HL := hid hlen
    clear hlen
    go_enter Tryd.func14, Tryd.ntmps14
    go_wp2_with fail
    go_loopw [5] (fun i wr => ∃ k : Nat, k ≤ l.length ∧ i = .int .i64 k ∧ (∀ j (hj : j < l.length), j < k → m[j]? = some l[j]) ∧ Below w.heap.size w wr) (fun i _ => l.length - (intOf i).toNat)
    case atStart => exact ⟨0, Nat.zero_le _, rfl, by omega, Below.refl _ _⟩
    case round =>
      obtain ⟨k, hk, rfl, hno, hb⟩ := hrel
      have HN := hid hno
      clear hno
      by_cases hlt : k < l.length
      · obtain ⟨b1, o1, rfl, hb1, hc1⟩ := H1.out k hlt
        obtain ⟨b2, o2, rfl, hb2, hc2⟩ := H2.out k (by have := HL.out; omega)
        have x1 := rdB hb hb1 (hc1 k hlt)
        have x2 := rdB hb hb2 (hc2 k (by have := HL.out; omega))
        have hm : k < m.length := by have := HL.out; omega
        clear hc1 hc2 H1 H2
        generalize hxe : l[k] = x at x1
        generalize hye : m[k] = y at x2
        have HX := hid hxe
        have HY := hid hye
        clear hxe hye
        by_cases hxy : x = y
        · have hxy' : (x != y) = false := by simp [hxy]
          have HXY := hid hxy
          clear hxy
          go_wp2_with fail
          go_quiet (fail)
          go_wp2_with fail
          go_roundw
          case rel => exact ⟨k + 1, by omega, by go_num, step_all (P := fun _ => True) (fun _ _ _ => trivial) hlt trivial |> fun _ => by
            intro j hj hjk
            by_cases e : j = k
            · subst e; rw [List.getElem?_eq_getElem hm, HX.out, HY.out, HXY.out]
            · exact HN.out j hj (by omega), drewNB hb _⟩
          case measure => simp [intOf]; omega
        · have hxy' : (x != y) = true := by simp [hxy]
          have HXY := hid hxy
          clear hxy
          go_wp2_with fail
          go_quiet (fail)
          go_wp2_with fail
          go_ret
          refine ⟨ret_bool ?_, drewNB hb _⟩
          have : ¬ l = m := by
            intro e
            subst e
            exact HXY.out (by rw [← HX.out, ← HY.out])
          simp [sameI, this]
      · go_wp2_with fail
        go_ret
        refine ⟨ret_bool ?_, hb⟩
        have : l = m := by
          apply List.ext_getElem? 
          intro j
          by_cases hj : j < l.length
          · rw [HN.out j hj (by omega), List.getElem?_eq_getElem hj]
          · rw [List.getElem?_eq_none (by omega), List.getElem?_eq_none (by have := HL.out; omega)]
        simp [sameI, this]
  · have hl' : ((l.length : Int) != m.length) = true := by simp; omega
    have hne : ¬ l = m := fun e => hlen (by rw [e])
    have HNE := hid hne
    clear hlen hne
    go_enter Tryd.func14, Tryd.ntmps14
    go_wp2_with fail
    go_ret
    exact ⟨ret_bool (by simp [sameI, HNE.out]), Below.refl _ _⟩

/-- besomref12.Schedule -/
theorem schedule_any (v u : Value) (p : PlantD) (l : List Int) (w : World) (hp : PlantV w v p) (hs : SlI w u l) :
    Calls Tryd.prog 45 #[v, u] w fun e w' => e = .returned (.bool (p.sched l)) ∧ Below w.heap.size w w' := by
  have HP := hid hp
  obtain ⟨vl, vp, vm, rfl, hL, hP, hM⟩ := hp
  obtain ⟨al, cl, rfl, hll, _⟩ := hL.open
  obtain ⟨ar, cr, rfl, hls, hsc⟩ := hs.open
  have HS := hid hsc
  clear hsc hL hP hM hs
  go_enter Tryd.func45, Tryd.ntmps45
  go_upto_region 1 with fail
  obtain ⟨W0, e0, hz0, hb0, hc0, hf0⟩ := box_new w #[.int .i64 p.heat, .int .i64 p.low, .int .i64 p.high, .slice al p.loads.length cl, vp, vm] 25
  rw [e0]
  clear e0
  go_wp2_with fail
  refine (refCheck_any _ p _ (HP.out.below hb0)).mono ?_
  rintro e w1 ⟨rfl, hb1⟩
  have hlt1 : w.heap.size < W0.heap.size := by omega
  have hsz1 := hb1.size
  have d0 : w1.cell? ⟨w.heap.size, 0, none⟩ = some (.int .i64 p.heat) := rdB hb1 hlt1 (hc0 0)
  have d1 : w1.cell? ⟨w.heap.size, 1, none⟩ = some (.int .i64 p.low) := rdB hb1 hlt1 (hc0 1)
  have d2 : w1.cell? ⟨w.heap.size, 2, none⟩ = some (.int .i64 p.high) := rdB hb1 hlt1 (hc0 2)
  have d3 : w1.cell? ⟨w.heap.size, 3, none⟩ = some (.slice al p.loads.length cl) := rdB hb1 hlt1 (hc0 3)
  have d4 : w1.cell? ⟨w.heap.size, 4, none⟩ = some vp := rdB hb1 hlt1 (hc0 4)
  have d5 : w1.cell? ⟨w.heap.size, 5, none⟩ = some vm := rdB hb1 hlt1 (hc0 5)
  have hbw1 : Below w.heap.size w w1 := hb0.trans (hb1.mono (by omega))
  clear hc0 hf0
  cases hok : p.ok
  · go_wp2_with fail
    go_ret
    exact ⟨ret_bool (by simp [PlantD.sched, hok]), hbw1⟩
  · have HO := hid hok
    clear hok
    have ho := ok_Ok HO.out
    by_cases hlen : l.length = p.loads.length
    · have hl' : ((l.length : Int) != p.loads.length) = false := by simp [hlen]
      have HL := hid hlen
      clear hlen
      go_wp2_with fail
      go_loopw [5] (fun i wr => ∃ k : Nat, k ≤ l.length ∧ i = .int .i64 k ∧ (∀ j (hj : j < l.length), j < k → inB l[j] 0 (2 ^ p.m - 1) = true) ∧ Below w1.heap.size w1 wr) (fun i _ => l.length - (intOf i).toNat)
      case atStart => exact ⟨0, Nat.zero_le _, rfl, by omega, Below.refl _ _⟩
      case round =>
        obtain ⟨k, hk, rfl, hno, hb⟩ := hrel
        have HN := hid hno
        clear hno
        have f0 := rdB hb (by omega) d0
        have f1 := rdB hb (by omega) d1
        have f2 := rdB hb (by omega) d2
        have f3 := rdB hb (by omega) d3
        have f4 := rdB hb (by omega) d4
        have f5 := rdB hb (by omega) d5
        have hbwr : Below w.heap.size w wr := hbw1.trans (hb.mono (by omega))
        clear d0 d1 d2 d3 d4 d5
        by_cases hlt : k < l.length
        · obtain ⟨b, off, rfl, hbl, hc⟩ := HS.out k hlt
          have x0 := rdB hbwr hbl (hc k hlt)
          clear hc HS
          generalize hxe : l[k] = x at x0
          have HX := hid hxe
          clear hxe
          have hfew := ho.few
          have hw : IntKind.i64.wrap ((2 : Int) ^ p.m - 1) = 2 ^ p.m - 1 := by
            have hpw := pow_small (m := p.m) hfew
            have : ((2 ^ p.m : Nat) : Int) = (2 : Int) ^ p.m := by simp
            exact IntWalk.i64_in _ (by omega)
          go_wp2_with fail
          go_region_held3 (fun w' => w'.cell? ⟨b, off + k, none⟩ = some (.int .i64 x) ∧ w'.cell? ⟨w.heap.size, 0, none⟩ = some (.int .i64 p.heat) ∧ w'.cell? ⟨w.heap.size, 1, none⟩ = some (.int .i64 p.low) ∧ w'.cell? ⟨w.heap.size, 2, none⟩ = some (.int .i64 p.high) ∧ w'.cell? ⟨w.heap.size, 3, none⟩ = some (.slice al p.loads.length cl) ∧ w'.cell? ⟨w.heap.size, 4, none⟩ = some vp ∧ w'.cell? ⟨w.heap.size, 5, none⟩ = some vm)
            (first | go_keep | (refine ⟨?_, ?_, ?_, ?_, ?_, ?_, ?_⟩ <;> (refine bcs (by assumption) ?_; simp [*])))
            (first | (go_at_call 40; refine (all_any _ p _ (HP.out.below hbwr.drew) hfew).mono ?_; rintro e w2 ⟨rfl, hb2⟩) | (go_at_call 43; refine (in_any _ _ _ _).mono ?_; rintro e w' ⟨rfl, rfl⟩))
          clear hw
          have hb3 : Below w1.heap.size w1 w2 := (hb.drew).trans (hb2.mono hb.size)
          cases hin : inB x 0 (2 ^ p.m - 1)
          · simp only [Bool.not_false]
            go_wp2_with fail
            go_ret
            refine ⟨ret_bool ?_, hbw1.trans (hb3.mono (by omega))⟩
            have := not_all (p := fun n => inB n 0 (2 ^ p.m - 1)) hlt (by rw [HX.out]; exact hin)
            simp [PlantD.sched, this]
          · simp only [Bool.not_true]
            go_wp2_with fail
            go_roundw
            case rel => exact ⟨k + 1, by omega, by go_num, step_all (P := fun n => inB n 0 (2 ^ p.m - 1) = true) HN.out hlt (by rw [HX.out]; exact hin), hb3⟩
            case measure => simp [intOf]; omega
        · go_wp2_with fail
          go_ret
          refine ⟨ret_bool ?_, hbwr⟩
          have := all_of (p := fun n => inB n 0 (2 ^ p.m - 1)) HN.out (by omega)
          simp [PlantD.sched, this, HO.out, HL.out]
    · have hl' : ((l.length : Int) != p.loads.length) = true := by simp; omega
      have hne : (l.length == p.loads.length) = false := by simp; omega
      have HNE := hid hne
      clear hlen hne
      go_wp2_with fail
      go_ret
      exact ⟨ret_bool (by simp only [PlantD.sched, HNE.out]; simp), hbw1⟩
end Go.Proofs.YtjjphiecjhijiaaDoor
