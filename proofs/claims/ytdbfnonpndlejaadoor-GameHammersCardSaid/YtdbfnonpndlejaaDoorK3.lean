/- The other methods of a clock walked. -/
import Derived.Test.YtdbfnonpndlejaaDoorK2
import Derived.BigRegion
namespace Go.Proofs.YtdbfnonpndlejaaDoor
open Go.RowKit

def ClkD.leftR (c : ClkD) (k t : Int) : Int := if c.wrong k t = 0 then c.at k t else 0
def ClkD.outsR (c : ClkD) (k : Int) : Int × Int := if inB k 0 1 = true then (c.outs k, 0) else (0, 2)
theorem ClkOk.ex {N : Nat} {c : ClkD} (h : ClkOk N c) : 0 ≤ c.t.extra ∧ c.t.extra ≤ 100000 := by
  have := h.t
  simp [TimesD.ok, inB] at this
  omega
theorem at_bd {N : Nat} {c : ClkD} (h : ClkOk N c) (k t : Int) : 0 ≤ c.at k t ∧ c.at k t ≤ 1073741824 + 100000 * (N : Int) := by
  have h0 := h.l0
  have h1 := h.l1
  unfold ClkD.at ClkD.left
  split <;> split <;> omega
theorem stop_any (B : Nat) (c : ClkD) (t : Int) (w : World) (hc : CObj w B c) (N : Nat) (hN : N ≤ 1000) (ho : ClkOk N c) :
    Calls Tryd.prog 26 #[.pointer (some ⟨B, 0, none⟩), .int .i64 t] w fun e w' => e = .returned (.int .i64 (c.stop t).2) ∧ CPost B (c.stop t).1 w w' := by
  have HC := hid hc
  have HW := hid (wrong_any B c 0 t w hc)
  have HS := hid (ClkD.stop.eq_1 c t)
  by_cases hz : c.wrong 0 t = 0
  · obtain ⟨-, ht⟩ := wrong_zero hz
    rw [if_pos hz] at HS
    rw [hz] at HW
    have HP := hid (pass_any B c t w hc N hN ho ht)
    have c9 : w.cell? ⟨B, 9, none⟩ = some (.int .i64 c.team) := hc.cell 9
    clear hz ht hc ho
    by_cases htm : c.team = -1
    · rw [if_pos htm] at HS
      rw [htm] at c9
      clear htm
      go_enter Tryd.func26, Tryd.ntmps26
      go_wp2_with fail
      refine HW.out.mono ?_
      rintro e w' ⟨rfl, rfl⟩
      go_wp2_with fail
      go_ret
      rw [HS.out]
      exact ⟨rfl, CPost.refl HC.out⟩
    · rw [if_neg htm] at HS
      have ht' : (c.team == -1) = false := by simpa using htm
      clear htm
      generalize c.team = tm at c9 ht'
      go_enter Tryd.func26, Tryd.ntmps26
      go_wp2_with fail
      refine HW.out.mono ?_
      rintro e w' ⟨rfl, rfl⟩
      go_wp2_with fail
      refine HP.out.mono ?_
      rintro e w' ⟨⟨v, rfl⟩, hc1, ho1⟩
      have d9 : w'.cell? ⟨B, 9, none⟩ = some (.int .i64 c.team) := hc1.cell 9
      have g9 := hc1.frozen 9
      have HC1 := hid hc1
      have HO1 := hid ho1
      clear hc1 ho1
      clear c9
      go_wp2_with fail
      go_ret
      rw [HS.out]
      exact ⟨rfl, CObj.of (HC1.out.set 9 _) rfl, HO1.out.setCell _ _⟩
  · rw [if_neg hz] at HS
    have hz' : (c.wrong 0 t != 0) = true := by simpa using hz
    clear hz hc ho
    generalize c.wrong 0 t = E at *
    go_enter Tryd.func26, Tryd.ntmps26
    go_wp2_with fail
    refine HW.out.mono ?_
    rintro e w' ⟨rfl, rfl⟩
    go_wp2_with fail
    go_ret
    rw [HS.out]
    exact ⟨rfl, CPost.refl HC.out⟩
/-- A clock to which an extra end's seconds were added for so many teams. -/
def exC (q : ClkD) (a0 a1 ex : Int) (k : Nat) : ClkD := { q with l0 := if 1 ≤ k then a0 + ex else a0, l1 := if 2 ≤ k then a1 + ex else a1 }
theorem only_drew {B : Nat} {w w' : World} (h : Only B w w') : Only B w w'.drew := ⟨h.bel.drew, h.rest⟩
theorem exC_zero {q : ClkD} {a0 a1 ex : Int} (h0 : q.l0 = a0) (h1 : q.l1 = a1) : exC q a0 a1 ex 0 = q := by subst h0 h1; rfl
theorem extra_any (B : Nat) (c : ClkD) (t : Int) (w : World) (hc : CObj w B c) (N : Nat) (hN : N ≤ 1000) (ho : ClkOk N c) :
    Calls Tryd.prog 28 #[.pointer (some ⟨B, 0, none⟩), .int .i64 t] w fun e w' => e = .returned (.int .i64 (c.extra t).2) ∧ CPost B (c.extra t).1 w w' := by
  have HC := hid hc
  have HW := hid (wrong_any B c 0 t w hc)
  have HS := hid (ClkD.extra.eq_1 c t)
  by_cases hz : c.wrong 0 t = 0
  · obtain ⟨-, ht⟩ := wrong_zero hz
    rw [if_pos hz] at HS
    rw [hz] at HW
    have HP := hid (pass_any B c t w hc N hN ho ht)
    have c9 : w.cell? ⟨B, 9, none⟩ = some (.int .i64 c.team) := hc.cell 9
    by_cases htm : c.team = -1
    · rw [if_pos htm] at HS
      rw [htm] at c9
      obtain ⟨x1, x2⟩ := at_bd ho 0 t
      obtain ⟨y1, y2⟩ := at_bd ho 1 t
      obtain ⟨z1, z2⟩ := ho.ex
      clear hz ht hc ho htm
      go_enter Tryd.func28, Tryd.ntmps28
      go_wp2_with fail
      refine HW.out.mono ?_
      rintro e w' ⟨rfl, rfl⟩
      go_wp2_with fail
      refine HP.out.mono ?_
      rintro e w' ⟨⟨v, rfl⟩, hc1, ho1⟩
      have d1 : w'.cell? ⟨B, 1, none⟩ = some (.int .i64 c.t.extra) := hc1.cell 1
      have d5 : w'.cell? ⟨B, 5, none⟩ = some (.int .i64 (c.at 0 t)) := hc1.cell 5
      have d6 : w'.cell? ⟨B, 6, none⟩ = some (.int .i64 (c.at 1 t)) := hc1.cell 6
      have g5 := hc1.frozen 5
      have g6 := hc1.frozen 6
      have HC1 := hid hc1
      have HO1 := hid ho1
      have HPA := hid (show (c.pass t).l0 = c.at 0 t ∧ (c.pass t).l1 = c.at 1 t from ⟨rfl, rfl⟩)
      have HPE := hid (show (c.pass t).t.extra = c.t.extra from rfl)
      generalize c.at 0 t = a0 at *
      generalize c.at 1 t = a1 at *
      generalize c.t.extra = ex at *
      have hw0 : IntKind.i64.wrap (a0 + ex) = a0 + ex := IntWalk.i64_in _ (by omega)
      have hw1 : IntKind.i64.wrap (a1 + ex) = a1 + ex := IntWalk.i64_in _ (by omega)
      clear hc1 ho1 c9 d1 d5 d6 g5 g6 hw0 hw1
      have HE2 := hid (show exC (c.pass t) a0 a1 ex 2 = (c.extra t).1 by rw [HS.out]; rfl)
      have HE3 := hid (show (c.extra t).2 = 0 by rw [HS.out])
      have HA0 := hid (show (c.pass t).l0 = a0 from HPA.out.1)
      have HA1 := hid (show (c.pass t).l1 = a1 from HPA.out.2)
      have HEX := hid (show (c.pass t).t.extra = ex from HPE.out)
      generalize c.pass t = q at *
      have HCW := hid (show CObj w' B (exC q a0 a1 ex 0) by rw [exC_zero HA0.out HA1.out]; exact HC1.out)
      go_wp2_with fail
      go_loopw [23] (fun i wr => ∃ k : Nat, k ≤ 2 ∧ i = .int .i64 k ∧ CObj wr B (exC q a0 a1 ex k) ∧ Only B w wr) (fun i _ => 2 - (intOf i).toNat)
      case atStart => exact ⟨0, by omega, rfl, HCW.out, HO1.out⟩
      case round =>
        obtain ⟨k, hk, rfl, hcr, hor⟩ := hrel
        obtain ⟨wo, rfl⟩ : ∃ wo, wo = wr := ⟨_, rfl⟩
        have d1 : wo.cell? ⟨B, 1, none⟩ = some (.int .i64 ex) := (hcr.cell 1).trans (by rw [← HEX.out]; rfl)
        have g5 := hcr.frozen 5
        have g6 := hcr.frozen 6
        have HCR := hid hcr
        have HOR := hid hor
        rcases (by omega : k = 0 ∨ k = 1 ∨ k = 2) with rfl | rfl | rfl
        · have d5 : wo.cell? ⟨B, 5, none⟩ = some (.int .i64 a0) := hcr.cell 5
          have hw0 : IntKind.i64.wrap (a0 + ex) = a0 + ex := IntWalk.i64_in _ (by omega)
          clear hcr hor
          go_wp2_with fail
          go_region
          all_goals
            go_wp2_with fail
            refine ⟨⟨1, by omega, rfl, ?_, ?_⟩, by simp [intOf]⟩
            · exact CObj.of (HCR.out.set 5 (.int .i64 (a0 + ex))) rfl
            · exact only_drew (HOR.out.setCell 5 (.int .i64 (a0 + ex)))
        · have d6 : wo.cell? ⟨B, 6, none⟩ = some (.int .i64 a1) := hcr.cell 6
          have hw1 : IntKind.i64.wrap (a1 + ex) = a1 + ex := IntWalk.i64_in _ (by omega)
          clear hcr hor
          go_wp2_with fail
          go_region
          all_goals
            go_wp2_with fail
            refine ⟨⟨2, by omega, rfl, ?_, ?_⟩, by simp [intOf]⟩
            · exact CObj.of (HCR.out.set 6 (.int .i64 (a1 + ex))) rfl
            · exact only_drew (HOR.out.setCell 6 (.int .i64 (a1 + ex)))
        · clear hcr hor d1
          go_wp2_with fail
          go_ret
          rw [HE3.out, ← HE2.out]
          exact ⟨rfl, HCR.out, HOR.out⟩
    · rw [if_neg htm] at HS
      have ht' : (c.team != -1) = true := by simpa using htm
      clear htm hz ht hc ho
      generalize c.team = tm at c9 ht'
      go_enter Tryd.func28, Tryd.ntmps28
      go_wp2_with fail
      refine HW.out.mono ?_
      rintro e w' ⟨rfl, rfl⟩
      go_wp2_with fail
      go_ret
      rw [HS.out]
      exact ⟨rfl, CPost.refl HC.out⟩
  · rw [if_neg hz] at HS
    have hz' : (c.wrong 0 t != 0) = true := by simpa using hz
    clear hz hc ho
    generalize c.wrong 0 t = E at *
    go_enter Tryd.func28, Tryd.ntmps28
    go_wp2_with fail
    refine HW.out.mono ?_
    rintro e w' ⟨rfl, rfl⟩
    go_wp2_with fail
    go_ret
    rw [HS.out]
    exact ⟨rfl, CPost.refl HC.out⟩
theorem left_any (B : Nat) (c : ClkD) (k t : Int) (w : World) (hc : CObj w B c) (N : Nat) (hN : N ≤ 1000) (ho : ClkOk N c) :
    Calls Tryd.prog 24 #[.pointer (some ⟨B, 0, none⟩), .int .i64 k, .int .i64 t] w fun e w' => e = .returned (.tuple #[.int .i64 (c.leftR k t), .int .i64 (c.wrong k t)]) ∧ ∃ n, w' = w.drewN n := by
  have HC := hid hc
  have HW := hid (wrong_any B c k t w hc)
  have HS := hid (ClkD.leftR.eq_1 c k t)
  by_cases hz : c.wrong k t = 0
  · obtain ⟨hk, ht⟩ := wrong_zero hz
    rw [if_pos hz] at HS
    have HZ := hid hz
    rw [hz] at HW
    have HP := hid (at_any B c k t w hc N hN ho hk ht)
    clear hz ht hc ho
    go_enter Tryd.func24, Tryd.ntmps24
    go_wp2_with fail
    refine HW.out.mono ?_
    rintro e w' ⟨rfl, rfl⟩
    go_wp2_with fail
    refine HP.out.mono ?_
    rintro e w' ⟨rfl, n, rfl⟩
    go_wp2_with fail
    go_ret2
    exact ⟨by rw [HS.out, HZ.out]; rfl, _, rfl⟩
  · rw [if_neg hz] at HS
    have hz' : (c.wrong k t != 0) = true := by simpa using hz
    clear hz hc ho
    generalize c.wrong k t = E at *
    go_enter Tryd.func24, Tryd.ntmps24
    go_wp2_with fail
    refine HW.out.mono ?_
    rintro e w' ⟨rfl, rfl⟩
    go_wp2_with fail
    go_ret2
    exact ⟨by rw [HS.out]; rfl, 0, rfl⟩
theorem outs_any (B : Nat) (c : ClkD) (k : Int) (w : World) (hc : CObj w B c) :
    Calls Tryd.prog 38 #[.pointer (some ⟨B, 0, none⟩), .int .i64 k] w fun e w' => e = .returned (.tuple #[.int .i64 (c.outsR k).1, .int .i64 (c.outsR k).2]) ∧ ∃ n, w' = w.drewN n := by
  have HI := hid (is_any B c w hc)
  have c7 : w.cell? ⟨B, 7, none⟩ = some (.int .i64 c.o0) := hc.cell 7
  have c8 : w.cell? ⟨B, 8, none⟩ = some (.int .i64 c.o1) := hc.cell 8
  have HS := hid (ClkD.outsR.eq_1 c k)
  clear hc
  by_cases hk : inB k 0 1 = true
  · have hk2 : k = 0 ∨ k = 1 := by simp [inB] at hk; omega
    rw [hk, if_pos rfl] at HS
    rcases hk2 with rfl | rfl
    all_goals
      go_enter Tryd.func38, Tryd.ntmps38
      go_wp2_with (first | (go_at_call 53; refine HI.out.mono ?_; rintro e w' ⟨rfl, rfl⟩) | (go_at_call 39; refine (within_any _ _ _ _).mono ?_; rintro e w' ⟨rfl, rfl⟩))
      go_ret2
      exact ⟨by rw [HS.out]; rfl, 0, rfl⟩
  · have hk' : inB k 0 1 = false := by simpa using hk
    rw [hk', if_neg (by decide)] at HS
    go_enter Tryd.func38, Tryd.ntmps38
    go_wp2_with (first | (go_at_call 53; refine HI.out.mono ?_; rintro e w' ⟨rfl, rfl⟩) | (go_at_call 39; refine (within_any _ _ _ _).mono ?_; rintro e w' ⟨rfl, rfl⟩))
    go_ret2
    exact ⟨by rw [HS.out]; rfl, 0, rfl⟩
theorem running_any (B : Nat) (c : ClkD) (w : World) (hc : CObj w B c) :
    Calls Tryd.prog 22 #[.pointer (some ⟨B, 0, none⟩)] w fun e w' => e = .returned (.tuple #[.int .i64 c.team, .int .i64 c.now]) ∧ ∃ n, w' = w.drewN n := by
  have HI := hid (is_any B c w hc)
  have c9 : w.cell? ⟨B, 9, none⟩ = some (.int .i64 c.team) := hc.cell 9
  have c10 : w.cell? ⟨B, 10, none⟩ = some (.int .i64 c.now) := hc.cell 10
  clear hc
  go_enter Tryd.func22, Tryd.ntmps22
  go_wp2_with fail
  refine HI.out.mono ?_
  rintro e w' ⟨rfl, rfl⟩
  go_wp2_with fail
  go_quiet (fail)
  go_wp2_with fail
  go_ret2
  exact ⟨rfl, _, rfl⟩
end Go.Proofs.YtdbfnonpndlejaaDoor
